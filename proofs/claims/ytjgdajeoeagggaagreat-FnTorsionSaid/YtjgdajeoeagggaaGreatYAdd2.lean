import Derived.Test.YtjgdajeoeagggaaGreatYK3
set_option linter.unusedSimpArgs false
set_option linter.unusedVariables false
namespace Go.Proofs.YtjgdajeoeagggaaGreat
open Go.RowKit
/-! ### sums of wholes -/
theorem trimmedD_any (n : Bool) (a : Option Addr) (len cap : Nat) (zs : List Int) (T : Int) (w : World) (hx : Ints w (.slice a len cap) zs) (hr : InR zs) (hv : val zs = T) (hn : zs.length ≤ 1048576) :
    Calls Tryz.prog 135 #[.bool n, .slice a len cap] w (GivesW (n && decide (T.toNat ≠ 0)) (dg T.toNat) w) := by
  have h := trimmed_any n a len cap zs w hx hn
  rw [tz_val hr, trim_dg hr, hv] at h
  exact h
theorem addWholes_same (n : Bool) (a a2 : Option Addr) (len cap len2 cap2 : Nat) (xs ys : List Int) (w : World) (hx : Ints w (.slice a len cap) xs) (hy : Ints w (.slice a2 len2 cap2) ys) (rx : InR xs) (ry : InR ys) (lx : xs.length ≤ 1000000) (ly : ys.length ≤ 1000000) :
    Calls Tryz.prog 117 #[.agg #[.bool n, .slice a len cap], .agg #[.bool n, .slice a2 len2 cap2]] w (GivesW (n && decide ((val xs + 1 * val ys).toNat ≠ 0)) (dg (val xs + 1 * val ys).toNat) w) := by
  have HL := Lib.hid (fun W h1 h2 => addLimbs_any a a2 len cap len2 cap2 xs ys 1 W h1 h2 rx ry lx ly (.inl rfl) (by have := val_nonneg rx; have := val_nonneg ry; omega))
  have HX := Lib.hid hx; have HY := Lib.hid hy
  generalize val xs + 1 * val ys = T at *
  have HT := Lib.hid (fun a len cap zs W h1 h2 h3 h4 => trimmedD_any n a len cap zs T W h1 h2 h3 h4)
  obtain ⟨nn, hnn⟩ : ∃ nn, (n && decide (T.toNat ≠ 0)) = nn := ⟨_, rfl⟩
  obtain ⟨D, hD⟩ : ∃ D, dg T.toNat = D := ⟨_, rfl⟩
  rw [hnn, hD] at HT ⊢
  clear hnn hD hx hy rx ry lx ly
  go_enter Tryz.func117, Tryz.ntmps117
  go_wp2_with fail
  go_region_held3 (fun w' => Below w.heap.size w w' ∧ w.heap.size + 3 ≤ w'.heap.size ∧ w'.cell? ⟨w.heap.size, 0, none⟩ = some (.bool n) ∧ w'.cell? ⟨w.heap.size, 1, none⟩ = some (.slice a len cap) ∧ w'.cell? ⟨w.heap.size + 1, 1, none⟩ = some (.slice a2 len2 cap2)) (((try dsimp only); refine ⟨?_, ?_, ?_, ?_, ?_⟩; (focus (repeat' (first | (with_reducible first | exact bq1 _ _ | assumption | refine bq2 ?_ ?_ _ | refine bq3 ?_ ?_ _ | refine bq4 ?_ | refine bq5 ?_ _) | (apply bthen2; (with_reducible assumption)) | go_size))); (focus (first | go_size | (simp; done) | (simp; omega) | (have := hba.size; simp at this ⊢; omega) | (have := hbb.size; simp at this ⊢; omega) | (have := hbc.size; simp at this ⊢; omega))); all_goals (first | assumption | (simp [*, go_sem]; done)))) ((first | (go_at_call 136; refine (HL.out _ ?_ ?_).mono ?_; (focus (first | (refine Ints.below HX.out ?_; (repeat' (first | (with_reducible first | exact bq1 _ _ | assumption | refine bq2 ?_ ?_ _ | refine bq3 ?_ ?_ _ | refine bq4 ?_ | refine bq5 ?_ _) | (apply bthen2; (with_reducible assumption)) | go_size)); done) | (refine Ints.below HY.out ?_; (repeat' (first | (with_reducible first | exact bq1 _ _ | assumption | refine bq2 ?_ ?_ _ | refine bq3 ?_ ?_ _ | refine bq4 ?_ | refine bq5 ?_ _) | (apply bthen2; (with_reducible assumption)) | go_size)); done))); (focus (first | (refine Ints.below HX.out ?_; (repeat' (first | (with_reducible first | exact bq1 _ _ | assumption | refine bq2 ?_ ?_ _ | refine bq3 ?_ ?_ _ | refine bq4 ?_ | refine bq5 ?_ _) | (apply bthen2; (with_reducible assumption)) | go_size)); done) | (refine Ints.below HY.out ?_; (repeat' (first | (with_reducible first | exact bq1 _ _ | assumption | refine bq2 ?_ ?_ _ | refine bq3 ?_ ?_ _ | refine bq4 ?_ | refine bq5 ?_ _) | (apply bthen2; (with_reducible assumption)) | go_size)); done))); rintro e wa ⟨a1, l1, c1, zs, rfl, ho, hr, hv, hl, hba⟩; have hza := hba.size; (try simp only [wz1, wz2, wz3, wz4] at hza); try (refine keepc hba (w.heap.size) ?_ ?_; (focus (first | omega | (simp <;> omega))); intro hca_0 hfa_0 hla_0); try (refine keepc hba (w.heap.size + 1) ?_ ?_; (focus (first | omega | (simp <;> omega))); intro hca_1 hfa_1 hla_1); try (refine keepc hba (w.heap.size + 1 + 1) ?_ ?_; (focus (first | omega | (simp <;> omega))); intro hca_2 hfa_2 hla_2)) | (go_at_call 135; refine (HT.out _ _ _ _ _ ?_ hr hv hl).mono ?_; (focus (refine Ints.below ho.ints ?_; repeat' (first | (with_reducible first | exact bq1 _ _ | assumption | refine bq2 ?_ ?_ _ | refine bq3 ?_ ?_ _ | refine bq4 ?_ | refine bq5 ?_ _) | (apply bthen2; (with_reducible assumption)) | go_size))); rintro e wb ⟨a3, l3, c3, rfl, ho3, hbb⟩; have hzb := hbb.size; (try simp only [wz1, wz2, wz3, wz4] at hzb); try (refine keepc hbb (w.heap.size) ?_ ?_; (focus (first | omega | (simp <;> omega))); intro hcb_0 hfb_0 hlb_0); try (refine keepc hbb (w.heap.size + 1) ?_ ?_; (focus (first | omega | (simp <;> omega))); intro hcb_1 hfb_1 hlb_1); try (refine keepc hbb (w.heap.size + 1 + 1) ?_ ?_; (focus (first | omega | (simp <;> omega))); intro hcb_2 hfb_2 hlb_2))))
  go_wp2_with fail
  refine bodyPost_ret (v := .agg #[.bool nn, .slice a3 l3 c3]) (by simp [results, Tryz.results117, go_sem, hcb_2, hca_2, hla_2, hlb_2]) rfl ⟨_, _, _, rfl, ((ho3.set (p := ⟨w.heap.size + 1 + 1, 0, none⟩) (by first | (simp; omega) | omega) _).set (p := ⟨w.heap.size + 1 + 1, 1, none⟩) (by first | (simp; omega) | omega) _).mono (by first | (simp; omega) | omega), gr⟩
set_option maxHeartbeats 1000000 in
theorem addWholes_ge (n : Bool) (a a2 : Option Addr) (len cap len2 cap2 : Nat) (xs ys : List Int) (w : World) (hx : Ints w (.slice a len cap) xs) (hy : Ints w (.slice a2 len2 cap2) ys) (rx : Can xs) (ry : Can ys) (lx : xs.length ≤ 1000000) (ly : ys.length ≤ 1000000) (hv : val ys ≤ val xs) :
    Calls Tryz.prog 117 #[.agg #[.bool n, .slice a len cap], .agg #[.bool !n, .slice a2 len2 cap2]] w (GivesW (n && decide ((val xs + -1 * val ys).toNat ≠ 0)) (dg (val xs + -1 * val ys).toNat) w) := by
  have HL := Lib.hid (fun W h1 h2 => addLimbs_any a a2 len cap len2 cap2 xs ys (-1) W h1 h2 rx.1 ry.1 lx ly (.inr rfl) (by omega))
  have HO := Lib.hid (fun n1 n2 W h h' => compareSizes_any n1 n2 a a2 len cap len2 cap2 xs ys W h h' rx ry (by omega) (by omega))
  have hc : ¬ cmpI (val xs) (val ys) < 0 := fun g => by have := cmpI_neg.mp g; omega
  generalize cmpI (val xs) (val ys) = C at *
  have HX := Lib.hid hx; have HY := Lib.hid hy
  generalize val xs + -1 * val ys = T at *
  have HT := Lib.hid (fun n a len cap zs W h1 h2 h3 h4 => trimmedD_any n a len cap zs T W h1 h2 h3 h4)
  obtain ⟨nn, hnn⟩ : ∃ nn, (n && decide (T.toNat ≠ 0)) = nn := ⟨_, rfl⟩
  obtain ⟨D, hD⟩ : ∃ D, dg T.toNat = D := ⟨_, rfl⟩
  rw [hD] at HT; rw [hnn, hD]
  have HT := Lib.hid (HT.out n); rw [hnn] at HT
  clear hnn hD hx hy rx ry lx ly hv
  cases n
  all_goals
    go_enter Tryz.func117, Tryz.ntmps117
    go_wp2_with fail
    refine (HO.out _ _ _ ?_ ?_).mono ?_
    · refine Ints.below HX.out ?_; repeat' (first | (with_reducible first | exact bq1 _ _ | assumption | refine bq2 ?_ ?_ _ | refine bq3 ?_ ?_ _ | refine bq4 ?_ | refine bq5 ?_ _) | (apply bthen2; (with_reducible assumption)) | go_size)
    · refine Ints.below HY.out ?_; repeat' (first | (with_reducible first | exact bq1 _ _ | assumption | refine bq2 ?_ ?_ _ | refine bq3 ?_ ?_ _ | refine bq4 ?_ | refine bq5 ?_ _) | (apply bthen2; (with_reducible assumption)) | go_size)
    rintro e wa ⟨rfl, hba⟩; have hza := hba.size; (try simp only [wz1, wz2, wz3, wz4] at hza); try (refine keepc hba (w.heap.size) ?_ ?_; (focus (first | omega | (simp <;> omega))); intro hca_0 hfa_0 hla_0); try (refine keepc hba (w.heap.size + 1) ?_ ?_; (focus (first | omega | (simp <;> omega))); intro hca_1 hfa_1 hla_1); try (refine keepc hba (w.heap.size + 1 + 1) ?_ ?_; (focus (first | omega | (simp <;> omega))); intro hca_2 hfa_2 hla_2)
    have u2 : wa.cell? ⟨w.heap.size + 1 + 1, 0, none⟩ = some (.bool false) := by simp [hca_2, hla_2, go_sem]
    have u3 : wa.cell? ⟨w.heap.size + 1 + 1, 1, none⟩ = some (.slice none 0 0) := by simp [hca_2, hla_2, go_sem]
    have u4 : ∀ o, wa.frozen? ⟨w.heap.size + 1 + 1, o, none⟩ = false := by intro o; simp [hfa_2, go_sem]
    have z1 : wa.cell? ⟨w.heap.size, 1, none⟩ = some (.slice a len cap) := by simp [hca_0, hla_0, go_sem]
    have z3 : wa.cell? ⟨w.heap.size + 1, 1, none⟩ = some (.slice a2 len2 cap2) := by simp [hca_1, hla_1, go_sem]
  · have z0 : wa.cell? ⟨w.heap.size, 0, none⟩ = some (.bool false) := by simp [hca_0, hla_0, go_sem]
    clear hca_0 hca_1 hca_2 hfa_0 hfa_1 hfa_2
    go_wp2_with fail
    go_region_held3 (fun w' => Below w.heap.size w w' ∧ w.heap.size + 3 ≤ w'.heap.size ∧ w'.cell? ⟨w.heap.size, 0, none⟩ = some (.bool false) ∧ w'.cell? ⟨w.heap.size, 1, none⟩ = some (.slice a len cap) ∧ w'.cell? ⟨w.heap.size + 1, 1, none⟩ = some (.slice a2 len2 cap2)) (((try dsimp only); refine ⟨?_, ?_, ?_, ?_, ?_⟩; (focus (repeat' (first | (with_reducible first | exact bq1 _ _ | assumption | refine bq2 ?_ ?_ _ | refine bq3 ?_ ?_ _ | refine bq4 ?_ | refine bq5 ?_ _) | (apply bthen2; (with_reducible assumption)) | go_size))); (focus (first | go_size | (simp; done) | (simp; omega) | (have := hba.size; simp at this ⊢; omega) | (have := hbb.size; simp at this ⊢; omega) | (have := hbc.size; simp at this ⊢; omega))); all_goals (first | assumption | (simp [*, go_sem]; done)))) ((first | (go_at_call 136; refine (HL.out _ ?_ ?_).mono ?_; (focus (first | (refine Ints.below HX.out ?_; (repeat' (first | (with_reducible first | exact bq1 _ _ | assumption | refine bq2 ?_ ?_ _ | refine bq3 ?_ ?_ _ | refine bq4 ?_ | refine bq5 ?_ _) | (apply bthen2; (with_reducible assumption)) | go_size)); done) | (refine Ints.below HY.out ?_; (repeat' (first | (with_reducible first | exact bq1 _ _ | assumption | refine bq2 ?_ ?_ _ | refine bq3 ?_ ?_ _ | refine bq4 ?_ | refine bq5 ?_ _) | (apply bthen2; (with_reducible assumption)) | go_size)); done))); (focus (first | (refine Ints.below HX.out ?_; (repeat' (first | (with_reducible first | exact bq1 _ _ | assumption | refine bq2 ?_ ?_ _ | refine bq3 ?_ ?_ _ | refine bq4 ?_ | refine bq5 ?_ _) | (apply bthen2; (with_reducible assumption)) | go_size)); done) | (refine Ints.below HY.out ?_; (repeat' (first | (with_reducible first | exact bq1 _ _ | assumption | refine bq2 ?_ ?_ _ | refine bq3 ?_ ?_ _ | refine bq4 ?_ | refine bq5 ?_ _) | (apply bthen2; (with_reducible assumption)) | go_size)); done))); rintro e wc ⟨a1, l1, c1, zs, rfl, ho, hr, hv, hl, hbc⟩; have hzc := hbc.size; (try simp only [wz1, wz2, wz3, wz4] at hzc); try (refine keepc hbc (w.heap.size) ?_ ?_; (focus (first | omega | (simp <;> omega))); intro hcc_0 hfc_0 hlc_0); try (refine keepc hbc (w.heap.size + 1) ?_ ?_; (focus (first | omega | (simp <;> omega))); intro hcc_1 hfc_1 hlc_1); try (refine keepc hbc (w.heap.size + 1 + 1) ?_ ?_; (focus (first | omega | (simp <;> omega))); intro hcc_2 hfc_2 hlc_2)) | (go_at_call 135; refine (HT.out _ _ _ _ _ ?_ hr hv hl).mono ?_; (focus (refine Ints.below ho.ints ?_; repeat' (first | (with_reducible first | exact bq1 _ _ | assumption | refine bq2 ?_ ?_ _ | refine bq3 ?_ ?_ _ | refine bq4 ?_ | refine bq5 ?_ _) | (apply bthen2; (with_reducible assumption)) | go_size))); rintro e wb ⟨a3, l3, c3, rfl, ho3, hbb⟩; have hzb := hbb.size; (try simp only [wz1, wz2, wz3, wz4] at hzb); try (refine keepc hbb (w.heap.size) ?_ ?_; (focus (first | omega | (simp <;> omega))); intro hcb_0 hfb_0 hlb_0); try (refine keepc hbb (w.heap.size + 1) ?_ ?_; (focus (first | omega | (simp <;> omega))); intro hcb_1 hfb_1 hlb_1); try (refine keepc hbb (w.heap.size + 1 + 1) ?_ ?_; (focus (first | omega | (simp <;> omega))); intro hcb_2 hfb_2 hlb_2))))
    go_wp2_with fail
    refine bodyPost_ret (v := .agg #[.bool nn, .slice a3 l3 c3]) (by simp [results, Tryz.results117, go_sem, hcb_2, hcc_2, hlb_2, hlc_2, u2, u3, u4]) rfl ⟨_, _, _, rfl, ((ho3.set (p := ⟨w.heap.size + 1 + 1, 0, none⟩) (by first | (simp; omega) | omega) _).set (p := ⟨w.heap.size + 1 + 1, 1, none⟩) (by first | (simp; omega) | omega) _).mono (by first | (simp; omega) | omega), gr⟩
  · have z0 : wa.cell? ⟨w.heap.size, 0, none⟩ = some (.bool true) := by simp [hca_0, hla_0, go_sem]
    clear hca_0 hca_1 hca_2 hfa_0 hfa_1 hfa_2
    go_wp2_with fail
    go_region_held3 (fun w' => Below w.heap.size w w' ∧ w.heap.size + 3 ≤ w'.heap.size ∧ w'.cell? ⟨w.heap.size, 0, none⟩ = some (.bool true) ∧ w'.cell? ⟨w.heap.size, 1, none⟩ = some (.slice a len cap) ∧ w'.cell? ⟨w.heap.size + 1, 1, none⟩ = some (.slice a2 len2 cap2)) (((try dsimp only); refine ⟨?_, ?_, ?_, ?_, ?_⟩; (focus (repeat' (first | (with_reducible first | exact bq1 _ _ | assumption | refine bq2 ?_ ?_ _ | refine bq3 ?_ ?_ _ | refine bq4 ?_ | refine bq5 ?_ _) | (apply bthen2; (with_reducible assumption)) | go_size))); (focus (first | go_size | (simp; done) | (simp; omega) | (have := hba.size; simp at this ⊢; omega) | (have := hbb.size; simp at this ⊢; omega) | (have := hbc.size; simp at this ⊢; omega))); all_goals (first | assumption | (simp [*, go_sem]; done)))) ((first | (go_at_call 136; refine (HL.out _ ?_ ?_).mono ?_; (focus (first | (refine Ints.below HX.out ?_; (repeat' (first | (with_reducible first | exact bq1 _ _ | assumption | refine bq2 ?_ ?_ _ | refine bq3 ?_ ?_ _ | refine bq4 ?_ | refine bq5 ?_ _) | (apply bthen2; (with_reducible assumption)) | go_size)); done) | (refine Ints.below HY.out ?_; (repeat' (first | (with_reducible first | exact bq1 _ _ | assumption | refine bq2 ?_ ?_ _ | refine bq3 ?_ ?_ _ | refine bq4 ?_ | refine bq5 ?_ _) | (apply bthen2; (with_reducible assumption)) | go_size)); done))); (focus (first | (refine Ints.below HX.out ?_; (repeat' (first | (with_reducible first | exact bq1 _ _ | assumption | refine bq2 ?_ ?_ _ | refine bq3 ?_ ?_ _ | refine bq4 ?_ | refine bq5 ?_ _) | (apply bthen2; (with_reducible assumption)) | go_size)); done) | (refine Ints.below HY.out ?_; (repeat' (first | (with_reducible first | exact bq1 _ _ | assumption | refine bq2 ?_ ?_ _ | refine bq3 ?_ ?_ _ | refine bq4 ?_ | refine bq5 ?_ _) | (apply bthen2; (with_reducible assumption)) | go_size)); done))); rintro e wc ⟨a1, l1, c1, zs, rfl, ho, hr, hv, hl, hbc⟩; have hzc := hbc.size; (try simp only [wz1, wz2, wz3, wz4] at hzc); try (refine keepc hbc (w.heap.size) ?_ ?_; (focus (first | omega | (simp <;> omega))); intro hcc_0 hfc_0 hlc_0); try (refine keepc hbc (w.heap.size + 1) ?_ ?_; (focus (first | omega | (simp <;> omega))); intro hcc_1 hfc_1 hlc_1); try (refine keepc hbc (w.heap.size + 1 + 1) ?_ ?_; (focus (first | omega | (simp <;> omega))); intro hcc_2 hfc_2 hlc_2)) | (go_at_call 135; refine (HT.out _ _ _ _ _ ?_ hr hv hl).mono ?_; (focus (refine Ints.below ho.ints ?_; repeat' (first | (with_reducible first | exact bq1 _ _ | assumption | refine bq2 ?_ ?_ _ | refine bq3 ?_ ?_ _ | refine bq4 ?_ | refine bq5 ?_ _) | (apply bthen2; (with_reducible assumption)) | go_size))); rintro e wb ⟨a3, l3, c3, rfl, ho3, hbb⟩; have hzb := hbb.size; (try simp only [wz1, wz2, wz3, wz4] at hzb); try (refine keepc hbb (w.heap.size) ?_ ?_; (focus (first | omega | (simp <;> omega))); intro hcb_0 hfb_0 hlb_0); try (refine keepc hbb (w.heap.size + 1) ?_ ?_; (focus (first | omega | (simp <;> omega))); intro hcb_1 hfb_1 hlb_1); try (refine keepc hbb (w.heap.size + 1 + 1) ?_ ?_; (focus (first | omega | (simp <;> omega))); intro hcb_2 hfb_2 hlb_2))))
    go_wp2_with fail
    refine bodyPost_ret (v := .agg #[.bool nn, .slice a3 l3 c3]) (by simp [results, Tryz.results117, go_sem, hcb_2, hcc_2, hlb_2, hlc_2, u2, u3, u4]) rfl ⟨_, _, _, rfl, ((ho3.set (p := ⟨w.heap.size + 1 + 1, 0, none⟩) (by first | (simp; omega) | omega) _).set (p := ⟨w.heap.size + 1 + 1, 1, none⟩) (by first | (simp; omega) | omega) _).mono (by first | (simp; omega) | omega), gr⟩
set_option maxHeartbeats 1000000 in
theorem addWholes_lt (n : Bool) (a a2 : Option Addr) (len cap len2 cap2 : Nat) (xs ys : List Int) (w : World) (hx : Ints w (.slice a len cap) xs) (hy : Ints w (.slice a2 len2 cap2) ys) (rx : Can xs) (ry : Can ys) (lx : xs.length ≤ 1000000) (ly : ys.length ≤ 1000000) (hv : val xs < val ys) :
    Calls Tryz.prog 117 #[.agg #[.bool n, .slice a len cap], .agg #[.bool !n, .slice a2 len2 cap2]] w (GivesW (!n && decide ((val ys + -1 * val xs).toNat ≠ 0)) (dg (val ys + -1 * val xs).toNat) w) := by
  have HL := Lib.hid (fun W h1 h2 => addLimbs_any a2 a len2 cap2 len cap ys xs (-1) W h1 h2 ry.1 rx.1 ly lx (.inr rfl) (by omega))
  have HO := Lib.hid (fun n1 n2 W h h' => compareSizes_any n1 n2 a a2 len cap len2 cap2 xs ys W h h' rx ry (by omega) (by omega))
  have hc : cmpI (val xs) (val ys) < 0 := cmpI_neg.mpr hv
  generalize cmpI (val xs) (val ys) = C at *
  have HX := Lib.hid hx; have HY := Lib.hid hy
  generalize val ys + -1 * val xs = T at *
  have HT := Lib.hid (fun n a len cap zs W h1 h2 h3 h4 => trimmedD_any n a len cap zs T W h1 h2 h3 h4)
  obtain ⟨nn, hnn⟩ : ∃ nn, (!n && decide (T.toNat ≠ 0)) = nn := ⟨_, rfl⟩
  obtain ⟨D, hD⟩ : ∃ D, dg T.toNat = D := ⟨_, rfl⟩
  rw [hD] at HT; rw [hnn, hD]
  have HT := Lib.hid (HT.out !n); rw [hnn] at HT
  clear hnn hD hx hy rx ry lx ly hv
  cases n
  all_goals
    go_enter Tryz.func117, Tryz.ntmps117
    go_wp2_with fail
    refine (HO.out _ _ _ ?_ ?_).mono ?_
    · refine Ints.below HX.out ?_; repeat' (first | (with_reducible first | exact bq1 _ _ | assumption | refine bq2 ?_ ?_ _ | refine bq3 ?_ ?_ _ | refine bq4 ?_ | refine bq5 ?_ _) | (apply bthen2; (with_reducible assumption)) | go_size)
    · refine Ints.below HY.out ?_; repeat' (first | (with_reducible first | exact bq1 _ _ | assumption | refine bq2 ?_ ?_ _ | refine bq3 ?_ ?_ _ | refine bq4 ?_ | refine bq5 ?_ _) | (apply bthen2; (with_reducible assumption)) | go_size)
    rintro e wa ⟨rfl, hba⟩; have hza := hba.size; (try simp only [wz1, wz2, wz3, wz4] at hza); try (refine keepc hba (w.heap.size) ?_ ?_; (focus (first | omega | (simp <;> omega))); intro hca_0 hfa_0 hla_0); try (refine keepc hba (w.heap.size + 1) ?_ ?_; (focus (first | omega | (simp <;> omega))); intro hca_1 hfa_1 hla_1); try (refine keepc hba (w.heap.size + 1 + 1) ?_ ?_; (focus (first | omega | (simp <;> omega))); intro hca_2 hfa_2 hla_2)
    have u2 : wa.cell? ⟨w.heap.size + 1 + 1, 0, none⟩ = some (.bool false) := by simp [hca_2, hla_2, go_sem]
    have u3 : wa.cell? ⟨w.heap.size + 1 + 1, 1, none⟩ = some (.slice none 0 0) := by simp [hca_2, hla_2, go_sem]
    have u4 : ∀ o, wa.frozen? ⟨w.heap.size + 1 + 1, o, none⟩ = false := by intro o; simp [hfa_2, go_sem]
    have z1 : wa.cell? ⟨w.heap.size, 1, none⟩ = some (.slice a len cap) := by simp [hca_0, hla_0, go_sem]
    have z3 : wa.cell? ⟨w.heap.size + 1, 1, none⟩ = some (.slice a2 len2 cap2) := by simp [hca_1, hla_1, go_sem]
  · have z0 : wa.cell? ⟨w.heap.size, 0, none⟩ = some (.bool false) := by simp [hca_0, hla_0, go_sem]
    have z2 : wa.cell? ⟨w.heap.size + 1, 0, none⟩ = some (.bool true) := by simp [hca_1, hla_1, go_sem]
    have z5 : ∀ o, wa.frozen? ⟨w.heap.size, o, none⟩ = false := by intro o; simp [hfa_0, go_sem]
    have z6 : ∀ o, wa.frozen? ⟨w.heap.size + 1, o, none⟩ = false := by intro o; simp [hfa_1, go_sem]
    clear hca_0 hca_1 hca_2 hfa_0 hfa_1 hfa_2
    go_upto_region 5 with fail
    refine name_world (fun W2 hW2 => ?_)
    have y0 : W2.cell? ⟨w.heap.size, 0, none⟩ = some (.bool true) := by subst hW2; simp [z0, z1, z2, z3, hla_0, hla_1, go_sem]
    have y1 : W2.cell? ⟨w.heap.size, 1, none⟩ = some (.slice a2 len2 cap2) := by subst hW2; simp [z0, z1, z2, z3, hla_0, hla_1, go_sem]
    have y3 : W2.cell? ⟨w.heap.size + 1, 1, none⟩ = some (.slice a len cap) := by subst hW2; simp [z0, z1, z2, z3, hla_0, hla_1, go_sem]
    have u2 : W2.cell? ⟨w.heap.size + 1 + 1, 0, none⟩ = some (.bool false) := by subst hW2; simp [u2, go_sem]
    have u3 : W2.cell? ⟨w.heap.size + 1 + 1, 1, none⟩ = some (.slice none 0 0) := by subst hW2; simp [u3, go_sem]
    have u4 : ∀ o, W2.frozen? ⟨w.heap.size + 1 + 1, o, none⟩ = false := by subst hW2; intro o; simp [u4, go_sem]
    have hS2 : w.heap.size + 1 + 1 < W2.heap.size := by subst hW2; simp; omega
    have hB2 : Below w.heap.size w W2 := by subst hW2; exact gr
    clear hW2 z0 z1 z2 z3 z5 z6 hba
    go_wp2_with fail
    go_region_held3 (fun w' => Below w.heap.size w w' ∧ w.heap.size + 3 ≤ w'.heap.size ∧ w'.cell? ⟨w.heap.size, 0, none⟩ = some (.bool true) ∧ w'.cell? ⟨w.heap.size, 1, none⟩ = some (.slice a2 len2 cap2) ∧ w'.cell? ⟨w.heap.size + 1, 1, none⟩ = some (.slice a len cap)) (((try dsimp only); refine ⟨?_, ?_, ?_, ?_, ?_⟩; (focus (repeat' (first | (with_reducible first | exact bq1 _ _ | assumption | refine bq2 ?_ ?_ _ | refine bq3 ?_ ?_ _ | refine bq4 ?_ | refine bq5 ?_ _) | (apply bthen2; (with_reducible assumption)) | go_size))); (focus (first | go_size | (simp; done) | (simp; omega) | (have := hba.size; simp at this ⊢; omega) | (have := hbb.size; simp at this ⊢; omega) | (have := hbc.size; simp at this ⊢; omega))); all_goals (first | assumption | (simp [*, go_sem]; done)))) ((first | (go_at_call 136; refine (HL.out _ ?_ ?_).mono ?_; (focus (first | (refine Ints.below HX.out ?_; (repeat' (first | (with_reducible first | exact bq1 _ _ | assumption | refine bq2 ?_ ?_ _ | refine bq3 ?_ ?_ _ | refine bq4 ?_ | refine bq5 ?_ _) | (apply bthen2; (with_reducible assumption)) | go_size)); done) | (refine Ints.below HY.out ?_; (repeat' (first | (with_reducible first | exact bq1 _ _ | assumption | refine bq2 ?_ ?_ _ | refine bq3 ?_ ?_ _ | refine bq4 ?_ | refine bq5 ?_ _) | (apply bthen2; (with_reducible assumption)) | go_size)); done))); (focus (first | (refine Ints.below HX.out ?_; (repeat' (first | (with_reducible first | exact bq1 _ _ | assumption | refine bq2 ?_ ?_ _ | refine bq3 ?_ ?_ _ | refine bq4 ?_ | refine bq5 ?_ _) | (apply bthen2; (with_reducible assumption)) | go_size)); done) | (refine Ints.below HY.out ?_; (repeat' (first | (with_reducible first | exact bq1 _ _ | assumption | refine bq2 ?_ ?_ _ | refine bq3 ?_ ?_ _ | refine bq4 ?_ | refine bq5 ?_ _) | (apply bthen2; (with_reducible assumption)) | go_size)); done))); rintro e wc ⟨a1, l1, c1, zs, rfl, ho, hr, hv, hl, hbc⟩; have hzc := hbc.size; (try simp only [wz1, wz2, wz3, wz4] at hzc); try (refine keepc hbc (w.heap.size) ?_ ?_; (focus (first | omega | (simp <;> omega))); intro hcc_0 hfc_0 hlc_0); try (refine keepc hbc (w.heap.size + 1) ?_ ?_; (focus (first | omega | (simp <;> omega))); intro hcc_1 hfc_1 hlc_1); try (refine keepc hbc (w.heap.size + 1 + 1) ?_ ?_; (focus (first | omega | (simp <;> omega))); intro hcc_2 hfc_2 hlc_2)) | (go_at_call 135; refine (HT.out _ _ _ _ _ ?_ hr hv hl).mono ?_; (focus (refine Ints.below ho.ints ?_; repeat' (first | (with_reducible first | exact bq1 _ _ | assumption | refine bq2 ?_ ?_ _ | refine bq3 ?_ ?_ _ | refine bq4 ?_ | refine bq5 ?_ _) | (apply bthen2; (with_reducible assumption)) | go_size))); rintro e wb ⟨a3, l3, c3, rfl, ho3, hbb⟩; have hzb := hbb.size; (try simp only [wz1, wz2, wz3, wz4] at hzb); try (refine keepc hbb (w.heap.size) ?_ ?_; (focus (first | omega | (simp <;> omega))); intro hcb_0 hfb_0 hlb_0); try (refine keepc hbb (w.heap.size + 1) ?_ ?_; (focus (first | omega | (simp <;> omega))); intro hcb_1 hfb_1 hlb_1); try (refine keepc hbb (w.heap.size + 1 + 1) ?_ ?_; (focus (first | omega | (simp <;> omega))); intro hcb_2 hfb_2 hlb_2))))
    go_wp2_with fail
    refine bodyPost_ret (v := .agg #[.bool nn, .slice a3 l3 c3]) (by simp [results, Tryz.results117, go_sem, hcb_2, hcc_2, hlb_2, hlc_2, u2, u3, u4]) rfl ⟨_, _, _, rfl, ((ho3.set (p := ⟨w.heap.size + 1 + 1, 0, none⟩) (by first | (simp; omega) | omega) _).set (p := ⟨w.heap.size + 1 + 1, 1, none⟩) (by first | (simp; omega) | omega) _).mono (by first | (simp; omega) | omega), gr⟩
  · have z0 : wa.cell? ⟨w.heap.size, 0, none⟩ = some (.bool true) := by simp [hca_0, hla_0, go_sem]
    have z2 : wa.cell? ⟨w.heap.size + 1, 0, none⟩ = some (.bool false) := by simp [hca_1, hla_1, go_sem]
    have z5 : ∀ o, wa.frozen? ⟨w.heap.size, o, none⟩ = false := by intro o; simp [hfa_0, go_sem]
    have z6 : ∀ o, wa.frozen? ⟨w.heap.size + 1, o, none⟩ = false := by intro o; simp [hfa_1, go_sem]
    clear hca_0 hca_1 hca_2 hfa_0 hfa_1 hfa_2
    go_upto_region 5 with fail
    refine name_world (fun W2 hW2 => ?_)
    have y0 : W2.cell? ⟨w.heap.size, 0, none⟩ = some (.bool false) := by subst hW2; simp [z0, z1, z2, z3, hla_0, hla_1, go_sem]
    have y1 : W2.cell? ⟨w.heap.size, 1, none⟩ = some (.slice a2 len2 cap2) := by subst hW2; simp [z0, z1, z2, z3, hla_0, hla_1, go_sem]
    have y3 : W2.cell? ⟨w.heap.size + 1, 1, none⟩ = some (.slice a len cap) := by subst hW2; simp [z0, z1, z2, z3, hla_0, hla_1, go_sem]
    have u2 : W2.cell? ⟨w.heap.size + 1 + 1, 0, none⟩ = some (.bool false) := by subst hW2; simp [u2, go_sem]
    have u3 : W2.cell? ⟨w.heap.size + 1 + 1, 1, none⟩ = some (.slice none 0 0) := by subst hW2; simp [u3, go_sem]
    have u4 : ∀ o, W2.frozen? ⟨w.heap.size + 1 + 1, o, none⟩ = false := by subst hW2; intro o; simp [u4, go_sem]
    have hS2 : w.heap.size + 1 + 1 < W2.heap.size := by subst hW2; simp; omega
    have hB2 : Below w.heap.size w W2 := by subst hW2; exact gr
    clear hW2 z0 z1 z2 z3 z5 z6 hba
    go_wp2_with fail
    go_region_held3 (fun w' => Below w.heap.size w w' ∧ w.heap.size + 3 ≤ w'.heap.size ∧ w'.cell? ⟨w.heap.size, 0, none⟩ = some (.bool false) ∧ w'.cell? ⟨w.heap.size, 1, none⟩ = some (.slice a2 len2 cap2) ∧ w'.cell? ⟨w.heap.size + 1, 1, none⟩ = some (.slice a len cap)) (((try dsimp only); refine ⟨?_, ?_, ?_, ?_, ?_⟩; (focus (repeat' (first | (with_reducible first | exact bq1 _ _ | assumption | refine bq2 ?_ ?_ _ | refine bq3 ?_ ?_ _ | refine bq4 ?_ | refine bq5 ?_ _) | (apply bthen2; (with_reducible assumption)) | go_size))); (focus (first | go_size | (simp; done) | (simp; omega) | (have := hba.size; simp at this ⊢; omega) | (have := hbb.size; simp at this ⊢; omega) | (have := hbc.size; simp at this ⊢; omega))); all_goals (first | assumption | (simp [*, go_sem]; done)))) ((first | (go_at_call 136; refine (HL.out _ ?_ ?_).mono ?_; (focus (first | (refine Ints.below HX.out ?_; (repeat' (first | (with_reducible first | exact bq1 _ _ | assumption | refine bq2 ?_ ?_ _ | refine bq3 ?_ ?_ _ | refine bq4 ?_ | refine bq5 ?_ _) | (apply bthen2; (with_reducible assumption)) | go_size)); done) | (refine Ints.below HY.out ?_; (repeat' (first | (with_reducible first | exact bq1 _ _ | assumption | refine bq2 ?_ ?_ _ | refine bq3 ?_ ?_ _ | refine bq4 ?_ | refine bq5 ?_ _) | (apply bthen2; (with_reducible assumption)) | go_size)); done))); (focus (first | (refine Ints.below HX.out ?_; (repeat' (first | (with_reducible first | exact bq1 _ _ | assumption | refine bq2 ?_ ?_ _ | refine bq3 ?_ ?_ _ | refine bq4 ?_ | refine bq5 ?_ _) | (apply bthen2; (with_reducible assumption)) | go_size)); done) | (refine Ints.below HY.out ?_; (repeat' (first | (with_reducible first | exact bq1 _ _ | assumption | refine bq2 ?_ ?_ _ | refine bq3 ?_ ?_ _ | refine bq4 ?_ | refine bq5 ?_ _) | (apply bthen2; (with_reducible assumption)) | go_size)); done))); rintro e wc ⟨a1, l1, c1, zs, rfl, ho, hr, hv, hl, hbc⟩; have hzc := hbc.size; (try simp only [wz1, wz2, wz3, wz4] at hzc); try (refine keepc hbc (w.heap.size) ?_ ?_; (focus (first | omega | (simp <;> omega))); intro hcc_0 hfc_0 hlc_0); try (refine keepc hbc (w.heap.size + 1) ?_ ?_; (focus (first | omega | (simp <;> omega))); intro hcc_1 hfc_1 hlc_1); try (refine keepc hbc (w.heap.size + 1 + 1) ?_ ?_; (focus (first | omega | (simp <;> omega))); intro hcc_2 hfc_2 hlc_2)) | (go_at_call 135; refine (HT.out _ _ _ _ _ ?_ hr hv hl).mono ?_; (focus (refine Ints.below ho.ints ?_; repeat' (first | (with_reducible first | exact bq1 _ _ | assumption | refine bq2 ?_ ?_ _ | refine bq3 ?_ ?_ _ | refine bq4 ?_ | refine bq5 ?_ _) | (apply bthen2; (with_reducible assumption)) | go_size))); rintro e wb ⟨a3, l3, c3, rfl, ho3, hbb⟩; have hzb := hbb.size; (try simp only [wz1, wz2, wz3, wz4] at hzb); try (refine keepc hbb (w.heap.size) ?_ ?_; (focus (first | omega | (simp <;> omega))); intro hcb_0 hfb_0 hlb_0); try (refine keepc hbb (w.heap.size + 1) ?_ ?_; (focus (first | omega | (simp <;> omega))); intro hcb_1 hfb_1 hlb_1); try (refine keepc hbb (w.heap.size + 1 + 1) ?_ ?_; (focus (first | omega | (simp <;> omega))); intro hcb_2 hfb_2 hlb_2))))
    go_wp2_with fail
    refine bodyPost_ret (v := .agg #[.bool nn, .slice a3 l3 c3]) (by simp [results, Tryz.results117, go_sem, hcb_2, hcc_2, hlb_2, hlc_2, u2, u3, u4]) rfl ⟨_, _, _, rfl, ((ho3.set (p := ⟨w.heap.size + 1 + 1, 0, none⟩) (by first | (simp; omega) | omega) _).set (p := ⟨w.heap.size + 1 + 1, 1, none⟩) (by first | (simp; omega) | omega) _).mono (by first | (simp; omega) | omega), gr⟩
/-- The call hands back the whole of z, of its own. -/
def GivesZ (z : Int) (w : World) (e : Ending) (w' : World) : Prop := GivesW (decide (z < 0)) (dg z.natAbs) w e w'
theorem addWholes_any (z1 z2 : Int) (a a2 : Option Addr) (len cap len2 cap2 : Nat) (w : World) (hx : Ints w (.slice a len cap) (dg z1.natAbs)) (hy : Ints w (.slice a2 len2 cap2) (dg z2.natAbs)) (lx : (dg z1.natAbs).length ≤ 1000000) (ly : (dg z2.natAbs).length ≤ 1000000) :
    Calls Tryz.prog 117 #[.agg #[.bool (decide (z1 < 0)), .slice a len cap], .agg #[.bool (decide (z2 < 0)), .slice a2 len2 cap2]] w (GivesZ (z1 + z2) w) := by
  by_cases h1 : z1 < 0 <;> by_cases h2 : z2 < 0
  · have h := addWholes_same true a a2 len cap len2 cap2 _ _ w hx hy (inR_dg _) (inR_dg _) lx ly
    rw [show decide (z1 < 0) = true by simp [h1], show decide (z2 < 0) = true by simp [h2]]
    refine h.mono fun e w' h => GivesW.cast ?_ ?_ h
    · rw [val_dg, val_dg]; simp; omega
    · rw [val_dg, val_dg]; congr 1; omega
  · rw [show decide (z1 < 0) = true by simp [h1], show decide (z2 < 0) = !true by simp [h2]]
    by_cases h3 : z2.natAbs ≤ z1.natAbs
    · have h := addWholes_ge true a a2 len cap len2 cap2 _ _ w hx hy (can_dg _) (can_dg _) lx ly (by rw [val_dg, val_dg]; omega)
      refine h.mono fun e w' h => GivesW.cast ?_ ?_ h
      · rw [val_dg, val_dg]; simp; omega
      · rw [val_dg, val_dg]; congr 1; omega
    · have h := addWholes_lt true a a2 len cap len2 cap2 _ _ w hx hy (can_dg _) (can_dg _) lx ly (by rw [val_dg, val_dg]; omega)
      refine h.mono fun e w' h => GivesW.cast ?_ ?_ h
      · rw [val_dg, val_dg]; simp; omega
      · rw [val_dg, val_dg]; congr 1; omega
  · rw [show decide (z1 < 0) = false by simp [h1], show decide (z2 < 0) = !false by simp [h2]]
    by_cases h3 : z2.natAbs ≤ z1.natAbs
    · have h := addWholes_ge false a a2 len cap len2 cap2 _ _ w hx hy (can_dg _) (can_dg _) lx ly (by rw [val_dg, val_dg]; omega)
      refine h.mono fun e w' h => GivesW.cast ?_ ?_ h
      · rw [val_dg, val_dg]; simp; omega
      · rw [val_dg, val_dg]; congr 1; omega
    · have h := addWholes_lt false a a2 len cap len2 cap2 _ _ w hx hy (can_dg _) (can_dg _) lx ly (by rw [val_dg, val_dg]; omega)
      refine h.mono fun e w' h => GivesW.cast ?_ ?_ h
      · rw [val_dg, val_dg]; simp; omega
      · rw [val_dg, val_dg]; congr 1; omega
  · have h := addWholes_same false a a2 len cap len2 cap2 _ _ w hx hy (inR_dg _) (inR_dg _) lx ly
    rw [show decide (z1 < 0) = false by simp [h1], show decide (z2 < 0) = false by simp [h2]]
    refine h.mono fun e w' h => GivesW.cast ?_ ?_ h
    · rw [val_dg, val_dg]; simp; omega
    · rw [val_dg, val_dg]; congr 1; omega
end Go.Proofs.YtjgdajeoeagggaaGreat
