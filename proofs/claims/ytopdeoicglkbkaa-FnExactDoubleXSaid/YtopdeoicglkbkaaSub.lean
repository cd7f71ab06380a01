import Derived.Test.YtopdeoicglkbkaaSum
import Derived.Test.YtopdeoicglkbkaaCmpZ
set_option linter.unusedSimpArgs false
set_option linter.unusedVariables false
namespace Go.Proofs.Ytopdeoicglkbkaa
open Go.RowKit
/-! ### opposites, differences, products with numbers -/

theorem sgn_neg (z : Int) : ((!decide (z < 0)) && decide (0 < tz (dg z.natAbs) (dg z.natAbs).length)) = decide (-z < 0) := by
  rw [tz_can (can_dg _), len0]
  by_cases h : z < 0
  · have h2 : ¬ -z < 0 := by omega
    simp [h, h2]; omega
  · by_cases h0 : z = 0
    · subst h0; simp
    · have h2 : -z < 0 := by omega
      have h3 : z.natAbs ≠ 0 := by omega
      simp [h, h2, h3, h0]; omega
theorem negated_any (z : Int) (a : Option Addr) (len cap : Nat) (w : World) (hx : Ints w (.slice a len cap) (dg z.natAbs)) (lx : (dg z.natAbs).length ≤ 1000000) :
    Calls Try.prog 113 #[.agg #[.bool (decide (z < 0)), .slice a len cap]] w (GivesZ (-z) w) := by
  have HT := Lib.hid (fun W h => trimmed_any (!decide (z < 0)) a len cap (dg z.natAbs) W h (by omega))
  rw [sgn_neg, trim_can (can_dg _)] at HT
  have HX := Lib.hid hx
  clear hx lx
  unfold GivesZ
  rw [Int.natAbs_neg]
  generalize decide (-z < 0) = m at *
  generalize dg z.natAbs = D at *
  obtain ⟨n, hn⟩ : ∃ n, decide (z < 0) = n := ⟨_, rfl⟩
  rw [hn] at HT ⊢
  clear hn
  cases n
  all_goals
    go_enter Try.func113, Try.ntmps113
    go_wp2_with fail
    refine (HT.out _ ?_).mono ?_
    · refine Ints.below HX.out ?_; repeat' (first | (with_reducible exact Below.refl _ _) | (with_reducible assumption) | (with_reducible refine Below.alloc ?_ ?_ _) | (with_reducible refine Below.setCell ?_ ?_ _) | (with_reducible refine Below.drew ?_) | (with_reducible refine below_drewN ?_ _) | (apply bthen2; (with_reducible assumption)) | go_size)
    rintro e wa ⟨a3, l3, c3, rfl, ho3, hba⟩
    have hza := hba.size; (try simp only [World.size_alloc, World.size_setCell, World.size_drew, World.heap_drewN] at hza); try (refine keepc hba (w.heap.size) ?_ ?_; (focus (first | omega | (simp <;> omega))); intro hca_0 hfa_0 hla_0); try (refine keepc hba (w.heap.size + 1) ?_ ?_; (focus (first | omega | (simp <;> omega))); intro hca_1 hfa_1 hla_1); try (refine keepc hba (w.heap.size + 1 + 1) ?_ ?_; (focus (first | omega | (simp <;> omega))); intro hca_2 hfa_2 hla_2)
    go_wp2_with fail
    refine bodyPost_ret (v := .agg #[.bool m, .slice a3 l3 c3]) (by simp [results, Try.results113, go_sem, hca_1, hla_1]) rfl ⟨_, _, _, rfl, ((ho3.set (p := ⟨w.heap.size + 1, 0, none⟩) (by first | (simp; done) | (simp; omega)) _).set (p := ⟨w.heap.size + 1, 1, none⟩) (by first | (simp; done) | (simp; omega)) _).mono (by first | (simp; done) | (simp; omega)), (by repeat' (first | (with_reducible exact Below.refl _ _) | (with_reducible assumption) | (with_reducible refine Below.alloc ?_ ?_ _) | (with_reducible refine Below.setCell ?_ ?_ _) | (with_reducible refine Below.drew ?_) | (with_reducible refine below_drewN ?_ _) | (apply bthen2; (with_reducible assumption)) | go_size))⟩

theorem bgMinus_any (z : Int) (a : Option Addr) (len cap : Nat) (w : World) (hx : Ints w (.slice a len cap) (dg z.natAbs)) (lx : (dg z.natAbs).length ≤ 1000000) :
    Calls Try.prog 111 #[.agg #[.bool (decide (z < 0)), .slice a len cap]] w (GivesZ (-z) w) := by
  have HT := Lib.hid (fun W h => bgMake_any (!decide (z < 0)) a len cap (dg z.natAbs) W h (by omega))
  rw [sgn_neg, trim_can (can_dg _)] at HT
  have HX := Lib.hid hx
  clear hx lx
  unfold GivesZ
  rw [Int.natAbs_neg]
  generalize decide (-z < 0) = m at *
  generalize dg z.natAbs = D at *
  obtain ⟨n, hn⟩ : ∃ n, decide (z < 0) = n := ⟨_, rfl⟩
  rw [hn] at HT ⊢
  clear hn
  cases n
  all_goals
    go_enter Try.func111, Try.ntmps111
    go_wp2_with fail
    refine (HT.out _ ?_).mono ?_
    · refine Ints.below HX.out ?_; repeat' (first | (with_reducible exact Below.refl _ _) | (with_reducible assumption) | (with_reducible refine Below.alloc ?_ ?_ _) | (with_reducible refine Below.setCell ?_ ?_ _) | (with_reducible refine Below.drew ?_) | (with_reducible refine below_drewN ?_ _) | (apply bthen2; (with_reducible assumption)) | go_size)
    rintro e wa ⟨a3, l3, c3, rfl, ho3, hba⟩
    have hza := hba.size; (try simp only [World.size_alloc, World.size_setCell, World.size_drew, World.heap_drewN] at hza); try (refine keepc hba (w.heap.size) ?_ ?_; (focus (first | omega | (simp <;> omega))); intro hca_0 hfa_0 hla_0); try (refine keepc hba (w.heap.size + 1) ?_ ?_; (focus (first | omega | (simp <;> omega))); intro hca_1 hfa_1 hla_1); try (refine keepc hba (w.heap.size + 1 + 1) ?_ ?_; (focus (first | omega | (simp <;> omega))); intro hca_2 hfa_2 hla_2)
    go_wp2_with fail
    refine bodyPost_ret (v := .agg #[.bool m, .slice a3 l3 c3]) (by simp [results, Try.results111, go_sem, hca_1, hla_1]) rfl ⟨_, _, _, rfl, ((ho3.set (p := ⟨w.heap.size + 1, 0, none⟩) (by first | (simp; done) | (simp; omega)) _).set (p := ⟨w.heap.size + 1, 1, none⟩) (by first | (simp; done) | (simp; omega)) _).mono (by first | (simp; done) | (simp; omega)), (by repeat' (first | (with_reducible exact Below.refl _ _) | (with_reducible assumption) | (with_reducible refine Below.alloc ?_ ?_ _) | (with_reducible refine Below.setCell ?_ ?_ _) | (with_reducible refine Below.drew ?_) | (with_reducible refine below_drewN ?_ _) | (apply bthen2; (with_reducible assumption)) | go_size))⟩

theorem xdSquare_any (z : Int) (a : Option Addr) (len cap : Nat) (w : World) (hx : Ints w (.slice a len cap) (dg z.natAbs)) (lx : (dg z.natAbs).length ≤ 500000) :
    Calls Try.prog 98 #[.agg #[.bool (decide (z < 0)), .slice a len cap]] w (GivesZ (z * z) w) := by
  have HT := Lib.hid (fun W h => bgMul_any z z a a len cap len cap W h h lx lx)
  have HX := Lib.hid hx
  clear hx lx
  unfold GivesZ at HT ⊢
  generalize decide (z * z < 0) = m at *
  generalize dg (z * z).natAbs = D2 at *
  generalize dg z.natAbs = D at *
  generalize decide (z < 0) = n at *
  go_enter Try.func98, Try.ntmps98
  go_wp2_with fail
  refine (HT.out _ ?_).mono ?_
  · refine Ints.below HX.out ?_; repeat' (first | (with_reducible exact Below.refl _ _) | (with_reducible assumption) | (with_reducible refine Below.alloc ?_ ?_ _) | (with_reducible refine Below.setCell ?_ ?_ _) | (with_reducible refine Below.drew ?_) | (with_reducible refine below_drewN ?_ _) | (apply bthen2; (with_reducible assumption)) | go_size)
  rintro e wa ⟨a3, l3, c3, rfl, ho3, hba⟩
  have hza := hba.size; (try simp only [World.size_alloc, World.size_setCell, World.size_drew, World.heap_drewN] at hza); try (refine keepc hba (w.heap.size) ?_ ?_; (focus (first | omega | (simp <;> omega))); intro hca_0 hfa_0 hla_0); try (refine keepc hba (w.heap.size + 1) ?_ ?_; (focus (first | omega | (simp <;> omega))); intro hca_1 hfa_1 hla_1); try (refine keepc hba (w.heap.size + 1 + 1) ?_ ?_; (focus (first | omega | (simp <;> omega))); intro hca_2 hfa_2 hla_2)
  go_wp2_with fail
  refine bodyPost_ret (v := .agg #[.bool m, .slice a3 l3 c3]) (by simp [results, Try.results98, go_sem, hca_1, hla_1]) rfl ⟨_, _, _, rfl, ((ho3.set (p := ⟨w.heap.size + 1, 0, none⟩) (by first | (simp; done) | (simp; omega)) _).set (p := ⟨w.heap.size + 1, 1, none⟩) (by first | (simp; done) | (simp; omega)) _).mono (by first | (simp; done) | (simp; omega)), (by repeat' (first | (with_reducible exact Below.refl _ _) | (with_reducible assumption) | (with_reducible refine Below.alloc ?_ ?_ _) | (with_reducible refine Below.setCell ?_ ?_ _) | (with_reducible refine Below.drew ?_) | (with_reducible refine below_drewN ?_ _) | (apply bthen2; (with_reducible assumption)) | go_size))⟩

theorem bgTimes_any (z k : Int) (h1 : -9223372036854775807 ≤ k) (h2 : k ≤ 9223372036854775807) (a : Option Addr) (len cap : Nat) (w : World) (hx : Ints w (.slice a len cap) (dg z.natAbs)) (lx : (dg z.natAbs).length ≤ 500000) :
    Calls Try.prog 100 #[.agg #[.bool (decide (z < 0)), .slice a len cap], .int .i64 k] w (GivesZ (z * k) w) := by
  have hlk := dg_len k.natAbs (by omega)
  have HT := Lib.hid (fun a2 l2 c2 W h h' => bgMul_any z k a a2 len cap l2 c2 W h h' lx (by omega))
  have HK := Lib.hid (fun W => bgOf_any k h1 h2 W)
  have HX := Lib.hid hx
  clear hx lx hlk h1 h2
  unfold GivesZ at HT ⊢
  generalize decide (z * k < 0) = nn at *
  generalize dg (z * k).natAbs = D2 at *
  generalize dg z.natAbs = D at *
  generalize decide (z < 0) = n at *
  generalize dg k.natAbs = D3 at *
  generalize decide (k < 0) = n3 at *
  go_enter Try.func100, Try.ntmps100
  go_wp2_with fail
  go_region_held3 (fun w' => Below w.heap.size w w' ∧ w.heap.size + 2 ≤ w'.heap.size ∧ w'.cell? ⟨w.heap.size, 0, none⟩ = some (.bool n) ∧ w'.cell? ⟨w.heap.size, 1, none⟩ = some (.slice a len cap)) (((try dsimp only); refine ⟨?_, ?_, ?_, ?_⟩; (focus (repeat' (first | (with_reducible exact Below.refl _ _) | (with_reducible assumption) | (with_reducible refine Below.alloc ?_ ?_ _) | (with_reducible refine Below.setCell ?_ ?_ _) | (with_reducible refine Below.drew ?_) | (with_reducible refine below_drewN ?_ _) | (apply bthen2; (with_reducible assumption)) | go_size))); (focus (first | go_size | (simp; done) | (simp; omega) | (have := hba.size; simp at this ⊢; omega) | (have := hbb.size; simp at this ⊢; omega) | (have := hbc.size; simp at this ⊢; omega))); all_goals (first | assumption | (simp [*, go_sem]; done)))) ((first | (go_at_call 86; refine (HK.out _).mono ?_; rintro e wa ⟨a1, l1, c1, rfl, ho, hba⟩; have hza := hba.size; (try simp only [World.size_alloc, World.size_setCell, World.size_drew, World.heap_drewN] at hza); try (refine keepc hba (w.heap.size) ?_ ?_; (focus (first | omega | (simp <;> omega))); intro hca_0 hfa_0 hla_0); try (refine keepc hba (w.heap.size + 1) ?_ ?_; (focus (first | omega | (simp <;> omega))); intro hca_1 hfa_1 hla_1); try (refine keepc hba (w.heap.size + 1 + 1) ?_ ?_; (focus (first | omega | (simp <;> omega))); intro hca_2 hfa_2 hla_2)) | (go_at_call 64; refine (HT.out _ _ _ _ ?_ ?_).mono ?_; (focus (first | (refine Ints.below HX.out ?_; (repeat' (first | (with_reducible exact Below.refl _ _) | (with_reducible assumption) | (with_reducible refine Below.alloc ?_ ?_ _) | (with_reducible refine Below.setCell ?_ ?_ _) | (with_reducible refine Below.drew ?_) | (with_reducible refine below_drewN ?_ _) | (apply bthen2; (with_reducible assumption)) | go_size)); done) | (refine Ints.below ho.ints ?_; (repeat' (first | (with_reducible exact Below.refl _ _) | (with_reducible assumption) | (with_reducible refine Below.alloc ?_ ?_ _) | (with_reducible refine Below.setCell ?_ ?_ _) | (with_reducible refine Below.drew ?_) | (with_reducible refine below_drewN ?_ _) | (apply bthen2; (with_reducible assumption)) | go_size)); done))); (focus (first | (refine Ints.below HX.out ?_; (repeat' (first | (with_reducible exact Below.refl _ _) | (with_reducible assumption) | (with_reducible refine Below.alloc ?_ ?_ _) | (with_reducible refine Below.setCell ?_ ?_ _) | (with_reducible refine Below.drew ?_) | (with_reducible refine below_drewN ?_ _) | (apply bthen2; (with_reducible assumption)) | go_size)); done) | (refine Ints.below ho.ints ?_; (repeat' (first | (with_reducible exact Below.refl _ _) | (with_reducible assumption) | (with_reducible refine Below.alloc ?_ ?_ _) | (with_reducible refine Below.setCell ?_ ?_ _) | (with_reducible refine Below.drew ?_) | (with_reducible refine below_drewN ?_ _) | (apply bthen2; (with_reducible assumption)) | go_size)); done))); rintro e wb ⟨a3, l3, c3, rfl, ho3, hbb⟩; have hzb := hbb.size; (try simp only [World.size_alloc, World.size_setCell, World.size_drew, World.heap_drewN] at hzb); try (refine keepc hbb (w.heap.size) ?_ ?_; (focus (first | omega | (simp <;> omega))); intro hcb_0 hfb_0 hlb_0); try (refine keepc hbb (w.heap.size + 1) ?_ ?_; (focus (first | omega | (simp <;> omega))); intro hcb_1 hfb_1 hlb_1); try (refine keepc hbb (w.heap.size + 1 + 1) ?_ ?_; (focus (first | omega | (simp <;> omega))); intro hcb_2 hfb_2 hlb_2))))
  go_wp2_with fail
  refine bodyPost_ret (v := .agg #[.bool nn, .slice a3 l3 c3]) (by simp [results, Try.results100, go_sem, hcb_1, hca_1, hla_1, hlb_1]) rfl ⟨_, _, _, rfl, ((ho3.set (p := ⟨w.heap.size + 1, 0, none⟩) (by first | (simp; omega) | omega) _).set (p := ⟨w.heap.size + 1, 1, none⟩) (by first | (simp; omega) | omega) _).mono (by first | (simp; omega) | omega), (by repeat' (first | (with_reducible exact Below.refl _ _) | (with_reducible assumption) | (with_reducible refine Below.alloc ?_ ?_ _) | (with_reducible refine Below.setCell ?_ ?_ _) | (with_reducible refine Below.drew ?_) | (with_reducible refine below_drewN ?_ _) | (apply bthen2; (with_reducible assumption)) | go_size))⟩

theorem bgSub_any (z1 z2 : Int) (a a2 : Option Addr) (len cap len2 cap2 : Nat) (w : World) (hx : Ints w (.slice a len cap) (dg z1.natAbs)) (hy : Ints w (.slice a2 len2 cap2) (dg z2.natAbs)) (lx : (dg z1.natAbs).length ≤ 1000000) (ly : (dg z2.natAbs).length ≤ 1000000) :
    Calls Try.prog 107 #[.agg #[.bool (decide (z1 < 0)), .slice a len cap], .agg #[.bool (decide (z2 < 0)), .slice a2 len2 cap2]] w (GivesZ (z1 - z2) w) := by
  have HT := Lib.hid (fun a2 l2 c2 W h h' => bgAdd_any z1 (-z2) a a2 len cap l2 c2 W h h' lx (by rw [Int.natAbs_neg]; exact ly))
  have HK := Lib.hid (fun W h => bgMinus_any z2 a2 len2 cap2 W h ly)
  have HX := Lib.hid hx; have HY := Lib.hid hy
  clear hx lx hy ly
  rw [show z1 - z2 = z1 + -z2 by omega]
  unfold GivesZ at HT HK ⊢
  generalize decide (z1 + -z2 < 0) = nn at *
  generalize dg (z1 + -z2).natAbs = D4 at *
  generalize dg (-z2).natAbs = D3 at *
  generalize decide (-z2 < 0) = n3 at *
  generalize dg z1.natAbs = D at *
  generalize decide (z1 < 0) = n at *
  generalize dg z2.natAbs = D2 at *
  generalize decide (z2 < 0) = n2 at *
  go_enter Try.func107, Try.ntmps107
  go_wp2_with fail
  go_region_held3 (fun w' => Below w.heap.size w w' ∧ w.heap.size + 3 ≤ w'.heap.size ∧ w'.cell? ⟨w.heap.size, 0, none⟩ = some (.bool n) ∧ w'.cell? ⟨w.heap.size, 1, none⟩ = some (.slice a len cap) ∧ w'.cell? ⟨w.heap.size + 1, 0, none⟩ = some (.bool n2) ∧ w'.cell? ⟨w.heap.size + 1, 1, none⟩ = some (.slice a2 len2 cap2)) (((try dsimp only); refine ⟨?_, ?_, ?_, ?_, ?_, ?_⟩; (focus (repeat' (first | (with_reducible exact Below.refl _ _) | (with_reducible assumption) | (with_reducible refine Below.alloc ?_ ?_ _) | (with_reducible refine Below.setCell ?_ ?_ _) | (with_reducible refine Below.drew ?_) | (with_reducible refine below_drewN ?_ _) | (apply bthen2; (with_reducible assumption)) | go_size))); (focus (first | go_size | (simp; done) | (simp; omega) | (have := hba.size; simp at this ⊢; omega) | (have := hbb.size; simp at this ⊢; omega) | (have := hbc.size; simp at this ⊢; omega))); all_goals (first | assumption | (simp [*, go_sem]; done)))) ((first | (go_at_call 111; refine (HK.out _ ?_).mono ?_; (focus ((refine Ints.below HY.out ?_; (repeat' (first | (with_reducible exact Below.refl _ _) | (with_reducible assumption) | (with_reducible refine Below.alloc ?_ ?_ _) | (with_reducible refine Below.setCell ?_ ?_ _) | (with_reducible refine Below.drew ?_) | (with_reducible refine below_drewN ?_ _) | (apply bthen2; (with_reducible assumption)) | go_size)); done))); rintro e wa ⟨a1, l1, c1, rfl, ho, hba⟩; have hza := hba.size; (try simp only [World.size_alloc, World.size_setCell, World.size_drew, World.heap_drewN] at hza); try (refine keepc hba (w.heap.size) ?_ ?_; (focus (first | omega | (simp <;> omega))); intro hca_0 hfa_0 hla_0); try (refine keepc hba (w.heap.size + 1) ?_ ?_; (focus (first | omega | (simp <;> omega))); intro hca_1 hfa_1 hla_1); try (refine keepc hba (w.heap.size + 1 + 1) ?_ ?_; (focus (first | omega | (simp <;> omega))); intro hca_2 hfa_2 hla_2)) | (go_at_call 99; refine (HT.out _ _ _ _ ?_ ?_).mono ?_; (focus (first | (refine Ints.below HX.out ?_; (repeat' (first | (with_reducible exact Below.refl _ _) | (with_reducible assumption) | (with_reducible refine Below.alloc ?_ ?_ _) | (with_reducible refine Below.setCell ?_ ?_ _) | (with_reducible refine Below.drew ?_) | (with_reducible refine below_drewN ?_ _) | (apply bthen2; (with_reducible assumption)) | go_size)); done) | (refine Ints.below ho.ints ?_; (repeat' (first | (with_reducible exact Below.refl _ _) | (with_reducible assumption) | (with_reducible refine Below.alloc ?_ ?_ _) | (with_reducible refine Below.setCell ?_ ?_ _) | (with_reducible refine Below.drew ?_) | (with_reducible refine below_drewN ?_ _) | (apply bthen2; (with_reducible assumption)) | go_size)); done))); (focus (first | (refine Ints.below HX.out ?_; (repeat' (first | (with_reducible exact Below.refl _ _) | (with_reducible assumption) | (with_reducible refine Below.alloc ?_ ?_ _) | (with_reducible refine Below.setCell ?_ ?_ _) | (with_reducible refine Below.drew ?_) | (with_reducible refine below_drewN ?_ _) | (apply bthen2; (with_reducible assumption)) | go_size)); done) | (refine Ints.below ho.ints ?_; (repeat' (first | (with_reducible exact Below.refl _ _) | (with_reducible assumption) | (with_reducible refine Below.alloc ?_ ?_ _) | (with_reducible refine Below.setCell ?_ ?_ _) | (with_reducible refine Below.drew ?_) | (with_reducible refine below_drewN ?_ _) | (apply bthen2; (with_reducible assumption)) | go_size)); done))); rintro e wb ⟨a3, l3, c3, rfl, ho3, hbb⟩; have hzb := hbb.size; (try simp only [World.size_alloc, World.size_setCell, World.size_drew, World.heap_drewN] at hzb); try (refine keepc hbb (w.heap.size) ?_ ?_; (focus (first | omega | (simp <;> omega))); intro hcb_0 hfb_0 hlb_0); try (refine keepc hbb (w.heap.size + 1) ?_ ?_; (focus (first | omega | (simp <;> omega))); intro hcb_1 hfb_1 hlb_1); try (refine keepc hbb (w.heap.size + 1 + 1) ?_ ?_; (focus (first | omega | (simp <;> omega))); intro hcb_2 hfb_2 hlb_2))))
  go_wp2_with fail
  refine bodyPost_ret (v := .agg #[.bool nn, .slice a3 l3 c3]) (by simp [results, Try.results107, go_sem, hcb_2, hca_2, hla_2, hlb_2]) rfl ⟨_, _, _, rfl, ((ho3.set (p := ⟨w.heap.size + 1 + 1, 0, none⟩) (by first | (simp; omega) | omega) _).set (p := ⟨w.heap.size + 1 + 1, 1, none⟩) (by first | (simp; omega) | omega) _).mono (by first | (simp; omega) | omega), (by repeat' (first | (with_reducible exact Below.refl _ _) | (with_reducible assumption) | (with_reducible refine Below.alloc ?_ ?_ _) | (with_reducible refine Below.setCell ?_ ?_ _) | (with_reducible refine Below.drew ?_) | (with_reducible refine below_drewN ?_ _) | (apply bthen2; (with_reducible assumption)) | go_size))⟩

end Go.Proofs.Ytopdeoicglkbkaa
