import Derived.Test.YtjgdajeoeagggaaGreatYPtB
import Derived.Test.YtjgdajeoeagggaaGreatYK4
import Derived.Test.YtjgdajeoeagggaaGreatYRegX
import Derived.Test.YtjgdajeoeagggaaGreatYK5
import Derived.Test.YtjgdajeoeagggaaGreatYK3
set_option linter.unusedSimpArgs false
set_option linter.unusedVariables false
namespace Go.Proofs.YtjgdajeoeagggaaGreat
open Go.RowKit
/-! ### the program's sum of points: its parts -/
theorem opposite_any (x y e : Int) (h : -9223372036854775807 ≤ y) (h' : y ≤ 9223372036854775807) (w : World) : Calls Tryz.prog 113 #[.agg #[.int .i64 x, .int .i64 y, .int .i64 e]] w (Gives (.agg #[.int .i64 x, .int .i64 (-y), .int .i64 e]) w) := by
  have k : wrap64 (-y) = -y := win (by omega)
  go_enter Tryz.func113, Tryz.ntmps113
  go_wp2
  refine bodyPost_ret (v := .agg #[.int .i64 x, .int .i64 (-y), .int .i64 e]) (by simp [results, Tryz.results113, go_sem, k]) rfl (gives rfl gr)
theorem floorOf_two (n : Int) (h : -100000 ≤ n) (h' : n ≤ 100000) (w : World) : Calls Tryz.prog 138 #[.int .i64 n, .int .i64 2] w (Same (.int .i64 (n / 2)) w) := by
  have t := Int.tdiv_eq_ediv (a := n) (b := 2)
  have m := Int.tmod_def n 2
  have k0 : n.tdiv 2 = n / 2 + (if 0 ≤ n ∨ (2 : Int) ∣ n then 0 else 1) := by rw [t]; rfl
  have k1 : n.tdiv 2 = n / 2 ∧ ¬ n.tmod 2 < 0 ∨ n.tdiv 2 - 1 = n / 2 ∧ n.tmod 2 < 0 := by
    by_cases g : 0 ≤ n ∨ (2 : Int) ∣ n
    · rw [if_pos g] at k0; left; omega
    · rw [if_neg g] at k0; right; omega
  have k2 : -100000 ≤ n.tdiv 2 ∧ n.tdiv 2 ≤ 100000 := by omega
  clear t m k0
  rcases k1 with ⟨e, hm⟩ | ⟨e, hm⟩
  · go_enter Tryz.func138, Tryz.ntmps138
    go_wp2
    go_ret
    exact same (vint (by first | exact e | rfl))
  · go_enter Tryz.func138, Tryz.ntmps138
    go_wp2
    go_ret
    exact same (vint (by first | exact e | rfl | (rw [win (by omega)]; exact e)))
set_option maxHeartbeats 2000000 in
theorem timesInt_any (z k : Int) (h1 : -9223372036854775807 ≤ k) (h2 : k ≤ 9223372036854775807) (a : Option Addr) (len cap : Nat) (w : World) (hx : Ints w (.slice a len cap) (dg z.natAbs)) (lx : (dg z.natAbs).length ≤ 500000) :
    Calls Tryz.prog 120 #[.agg #[.bool (decide (z < 0)), .slice a len cap], .int .i64 k] w (GivesZ (z * k) w) := by
  have hlk := dg_len k.natAbs (by omega)
  have HT := Lib.hid (fun a2 l2 c2 W h h' => mulWholes_any z k a a2 len cap l2 c2 W h h' lx (by omega))
  have HK := Lib.hid (fun W => wholeOf_any k h1 h2 W)
  have HX := Lib.hid hx
  clear hx lx hlk h1 h2
  unfold GivesZ at HT ⊢
  generalize decide (z * k < 0) = nn at *
  generalize dg (z * k).natAbs = D2 at *
  generalize dg z.natAbs = D at *
  generalize decide (z < 0) = n at *
  generalize dg k.natAbs = D3 at *
  generalize decide (k < 0) = n3 at *
  go_enter Tryz.func120, Tryz.ntmps120
  go_wp2_with fail
  go_region_held3 (fun w' => Below w.heap.size w w' ∧ w.heap.size + 2 ≤ w'.heap.size ∧ w'.cell? ⟨w.heap.size, 0, none⟩ = some (.bool n) ∧ w'.cell? ⟨w.heap.size, 1, none⟩ = some (.slice a len cap)) (((try dsimp only); refine ⟨?_, ?_, ?_, ?_⟩; (focus (repeat' (first | (with_reducible first | exact bq1 _ _ | assumption | refine bq2 ?_ ?_ _ | refine bq3 ?_ ?_ _ | refine bq4 ?_ | refine bq5 ?_ _) | (apply bthen2; (with_reducible assumption)) | go_size))); (focus (first | go_size | (simp; done) | (simp; omega) | (have := hba.size; simp at this ⊢; omega) | (have := hbb.size; simp at this ⊢; omega) | (have := hbc.size; simp at this ⊢; omega))); all_goals (first | assumption | (simp [*, go_sem]; done)))) ((first | (go_at_call 116; refine (HK.out _).mono ?_; rintro e wa ⟨a1, l1, c1, rfl, ho, hba⟩; have hza := hba.size; (try simp only [wz1, wz2, wz3, wz4] at hza); try (refine keepc hba (w.heap.size) ?_ ?_; (focus (first | omega | (simp <;> omega))); intro hca_0 hfa_0 hla_0); try (refine keepc hba (w.heap.size + 1) ?_ ?_; (focus (first | omega | (simp <;> omega))); intro hca_1 hfa_1 hla_1); try (refine keepc hba (w.heap.size + 1 + 1) ?_ ?_; (focus (first | omega | (simp <;> omega))); intro hca_2 hfa_2 hla_2)) | (go_at_call 115; refine (HT.out _ _ _ _ ?_ ?_).mono ?_; (focus (first | (refine Ints.below HX.out ?_; (repeat' (first | (with_reducible first | exact bq1 _ _ | assumption | refine bq2 ?_ ?_ _ | refine bq3 ?_ ?_ _ | refine bq4 ?_ | refine bq5 ?_ _) | (apply bthen2; (with_reducible assumption)) | go_size)); done) | (refine Ints.below ho.ints ?_; (repeat' (first | (with_reducible first | exact bq1 _ _ | assumption | refine bq2 ?_ ?_ _ | refine bq3 ?_ ?_ _ | refine bq4 ?_ | refine bq5 ?_ _) | (apply bthen2; (with_reducible assumption)) | go_size)); done))); (focus (first | (refine Ints.below HX.out ?_; (repeat' (first | (with_reducible first | exact bq1 _ _ | assumption | refine bq2 ?_ ?_ _ | refine bq3 ?_ ?_ _ | refine bq4 ?_ | refine bq5 ?_ _) | (apply bthen2; (with_reducible assumption)) | go_size)); done) | (refine Ints.below ho.ints ?_; (repeat' (first | (with_reducible first | exact bq1 _ _ | assumption | refine bq2 ?_ ?_ _ | refine bq3 ?_ ?_ _ | refine bq4 ?_ | refine bq5 ?_ _) | (apply bthen2; (with_reducible assumption)) | go_size)); done))); rintro e wb ⟨a3, l3, c3, rfl, ho3, hbb⟩; have hzb := hbb.size; (try simp only [wz1, wz2, wz3, wz4] at hzb); try (refine keepc hbb (w.heap.size) ?_ ?_; (focus (first | omega | (simp <;> omega))); intro hcb_0 hfb_0 hlb_0); try (refine keepc hbb (w.heap.size + 1) ?_ ?_; (focus (first | omega | (simp <;> omega))); intro hcb_1 hfb_1 hlb_1); try (refine keepc hbb (w.heap.size + 1 + 1) ?_ ?_; (focus (first | omega | (simp <;> omega))); intro hcb_2 hfb_2 hlb_2))))
  go_wp2_with fail
  refine bodyPost_ret (v := .agg #[.bool nn, .slice a3 l3 c3]) (by simp [results, Tryz.results120, go_sem, hcb_1, hca_1, hla_1, hlb_1]) rfl ⟨_, _, _, rfl, ((ho3.set (p := ⟨w.heap.size + 1, 0, none⟩) (by first | (simp; omega) | omega) _).set (p := ⟨w.heap.size + 1, 1, none⟩) (by first | (simp; omega) | omega) _).mono (by first | (simp; omega) | omega), gr⟩
def GivesQ (T D : Int) (w : World) (e : Ending) (w' : World) : Prop := ∃ v, e = .returned (.tuple #[.int .i64 v, .bool (decide (D * v = T))]) ∧ -10000 ≤ v ∧ v ≤ 10000 ∧ (∀ x, -10000 ≤ x → x ≤ 10000 → D * x = T → v = x) ∧ Below w.heap.size w w'
theorem sq_lo {T D lo hi mid : Int} (hD : 0 < D) (h : ∀ x, -10000 ≤ x → x ≤ 10000 → D * x = T → lo ≤ x ∧ x ≤ hi) (g : ¬ D * mid < T) : ∀ x, -10000 ≤ x → x ≤ 10000 → D * x = T → lo ≤ x ∧ x ≤ mid := by
  intro x h1 h2 h3
  have h4 := h x h1 h2 h3
  refine ⟨h4.1, ?_⟩
  have : D * x ≤ D * mid := by omega
  exact Int.le_of_mul_le_mul_left this hD
theorem sq_hi {T D lo hi mid : Int} (hD : 0 < D) (h : ∀ x, -10000 ≤ x → x ≤ 10000 → D * x = T → lo ≤ x ∧ x ≤ hi) (g : D * mid < T) : ∀ x, -10000 ≤ x → x ≤ 10000 → D * x = T → mid + 1 ≤ x ∧ x ≤ hi := by
  intro x h1 h2 h3
  have h4 := h x h1 h2 h3
  refine ⟨?_, h4.2⟩
  have h5 : D * mid < D * x := by omega
  have := Int.lt_of_mul_lt_mul_left h5 (by omega)
  omega
theorem cmpI_zero {a b : Int} : (cmpI a b = 0) ↔ a = b := by
  rcases Int.lt_trichotomy a b with h | h | h
  · rw [cmpI_lt h]; omega
  · rw [cmpI_eq h]; omega
  · rw [cmpI_gt h]; omega
set_option maxRecDepth 100000 in
set_option maxHeartbeats 4000000 in
theorem smallQuotient_any (T D : Int) (hD : 0 < D) (a1 a2 : Option Addr) (l1 c1 l2 c2 : Nat) (w : World) (hx : Ints w (.slice a1 l1 c1) (dg T.natAbs)) (hy : Ints w (.slice a2 l2 c2) (dg D.natAbs)) (lx : (dg T.natAbs).length ≤ 400) (ly : (dg D.natAbs).length ≤ 400) :
    Calls Tryz.prog 119 #[.agg #[.bool (decide (T < 0)), .slice a1 l1 c1], .agg #[.bool (decide (D < 0)), .slice a2 l2 c2], .int .i64 10000] w (GivesQ T D w) := by
  have HT := Lib.hid (fun k (h1 : -10000 ≤ k) (h2 : k ≤ 10000) W h => timesInt_any D k (by omega) (by omega) a2 l2 c2 W h (by omega))
  have HC := Lib.hid (fun k (h1 : -10000 ≤ k) (h2 : k ≤ 10000) a' l' c' W h h' => compareWholes_any (D * k) T a' a1 l' c' l1 c1 W h h' (by have := dg_len_mul D k; have := dg_len k.natAbs (by omega); omega) (by omega))
  have HF := Lib.hid (fun n (h1 : -100000 ≤ n) (h2 : n ≤ 100000) W => floorOf_two n h1 h2 W)
  have HD := Lib.hid hD
  unfold GivesZ at HT
  have HX := Lib.hid hx; have HY := Lib.hid hy
  have HI0 := Lib.hid (show ∀ x, -10000 ≤ x → x ≤ 10000 → D * x = T → -10000 ≤ x ∧ x ≤ 10000 from fun x h1 h2 _ => ⟨h1, h2⟩)
  unfold GivesQ
  clear hx hy lx ly hD
  generalize dg T.natAbs = DT at *
  generalize dg D.natAbs = DD at *
  generalize decide (T < 0) = nT at *
  generalize decide (D < 0) = nD at *
  go_enter Tryz.func119, Tryz.ntmps119
  go_wp2
  refine name_world (fun W1 hW1 => ?_)
  have B1 : Box W1 w.heap.size [.bool nT, .slice a1 l1 c1] := by subst hW1; exact box_two (by simp; omega) (by simp [go_sem]) (by simp [go_sem]) (fun o => by simp [go_sem])
  have B2 : Box W1 (w.heap.size + 1) [.bool nD, .slice a2 l2 c2] := by subst hW1; exact box_two (by simp) (by simp [go_sem]) (by simp [go_sem]) (fun o => by simp [go_sem])
  have hB1 : Below w.heap.size w W1 := by subst hW1; exact gr
  have hs1 : w.heap.size + 1 < W1.heap.size := B2.1
  have HX1 := Lib.hid (HX.out.below hB1); have HY1 := Lib.hid (HY.out.below hB1)
  clear hW1 HX HY
  go_loopw [8, 9] (fun v8 v9 wr => ∃ (lo hi : Int), v8 = .int .i64 lo ∧ v9 = .int .i64 hi ∧ -10000 ≤ lo ∧ lo ≤ hi ∧ hi ≤ 10000 ∧ Hid (∀ x, -10000 ≤ x → x ≤ 10000 → D * x = T → lo ≤ x ∧ x ≤ hi) ∧ Below W1.heap.size W1 wr) (fun v8 v9 _ => (intOf v9 - intOf v8).toNat)
  case atStart => exact ⟨-10000, 10000, rfl, rfl, by omega, by omega, by omega, HI0, Below.refl _ _⟩
  case round =>
    clear HI0
    obtain ⟨lo, hi, rfl, rfl, hl1, hl2, hl3, hI, hbw⟩ := hrel
    have hzw := hbw.size
    have z0 := (B1.below hbw).2.1 0 _ rfl; have z1 := (B1.below hbw).2.1 1 _ rfl
    have y0 := (B2.below hbw).2.1 0 _ rfl; have y1 := (B2.below hbw).2.1 1 _ rfl
    have hX2 := HX1.out.below hbw; have hY2 := HY1.out.below hbw
    have hzs : w.heap.size + 1 < wr.heap.size := by omega
    by_cases hlt : lo < hi
    · have kw : wrap64 (lo + hi) = lo + hi := win (by omega)
      have HFF := Lib.hid (HF.out (lo + hi) (by omega) (by omega))
      obtain ⟨mid, hmid⟩ : ∃ m, (lo + hi) / 2 = m := ⟨_, rfl⟩
      rw [hmid] at HFF
      have hm1 : lo ≤ mid ∧ mid < hi := by omega
      clear hmid
      have HTT := Lib.hid (HT.out mid (by omega) (by omega))
      have HCC := Lib.hid (HC.out mid (by omega) (by omega))
      have hcn := cmpI_neg (a := D * mid) (b := T)
      by_cases g : D * mid < T
      · have HN := Lib.hid (sq_hi HD.out hI.out g)
        have hc : ¬ 0 ≤ cmpI (D * mid) T := by have := hcn.2 g; omega
        have hc' : cmpI (D * mid) T < 0 := hcn.2 g
        have kw2 : wrap64 (mid + 1) = mid + 1 := win (by omega)
        clear hcn g
        generalize cmpI (D * mid) T = CC at *
        generalize dg (D * mid).natAbs = DM at *
        generalize decide (D * mid < 0) = nM at *
        go_upto_region 4 with (first | (go_at_call 138; refine (HFF.out _).mono ?_; rintro e w1 ⟨rfl, rfl⟩))
        go_region_held3 (fun w' => Below wr.heap.size wr w' ∧ w'.cell? ⟨w.heap.size, 0, none⟩ = some (.bool nT) ∧ w'.cell? ⟨w.heap.size, 1, none⟩ = some (.slice a1 l1 c1) ∧ w'.cell? ⟨w.heap.size + 1, 0, none⟩ = some (.bool nD) ∧ w'.cell? ⟨w.heap.size + 1, 1, none⟩ = some (.slice a2 l2 c2)) ((refine (fun hbK => And.intro hbK (by exact ⟨(hbK.cell (p := ⟨w.heap.size, 0, none⟩) (by first | assumption | omega | (simp; omega))).trans z0, (hbK.cell (p := ⟨w.heap.size, 1, none⟩) (by first | assumption | omega | (simp; omega))).trans z1, (hbK.cell (p := ⟨w.heap.size + 1, 0, none⟩) (by first | assumption | omega | (simp; omega))).trans y0, (hbK.cell (p := ⟨w.heap.size + 1, 1, none⟩) (by first | assumption | omega | (simp; omega))).trans y1⟩)) ?_; repeat' (first | (with_reducible first | exact bq1 _ _ | assumption | refine bq2 ?_ ?_ _ | refine bq3 ?_ ?_ _ | refine bq4 ?_ | refine bq5 ?_ _) | (apply bthen2; (with_reducible assumption)) | go_size))) ((first | (go_at_call 120; refine (HTT.out _ ?_).mono ?_; (focus (refine Ints.below hY2 ?_; repeat' (first | (with_reducible first | exact bq1 _ _ | assumption | refine bq2 ?_ ?_ _ | refine bq3 ?_ ?_ _ | refine bq4 ?_ | refine bq5 ?_ _) | (apply bthen2; (with_reducible assumption)) | go_size))); rintro e wf ⟨a3, l3, c3, rfl, ho3, hbf⟩) | (go_at_call 139; refine (HCC.out _ _ _ _ ?_ ?_).mono ?_; (focus (refine Ints.below ho3.ints ?_; repeat' (first | (with_reducible first | exact bq1 _ _ | assumption | refine bq2 ?_ ?_ _ | refine bq3 ?_ ?_ _ | refine bq4 ?_ | refine bq5 ?_ _) | (apply bthen2; (with_reducible assumption)) | go_size))); (focus (refine Ints.below hX2 ?_; repeat' (first | (with_reducible first | exact bq1 _ _ | assumption | refine bq2 ?_ ?_ _ | refine bq3 ?_ ?_ _ | refine bq4 ?_ | refine bq5 ?_ _) | (apply bthen2; (with_reducible assumption)) | go_size))); rintro e wg ⟨rfl, hbg⟩)))
        go_wp2
        go_roundw
        case rel => exact ⟨mid + 1, hi, rfl, rfl, by omega, by omega, by omega, HN, gr⟩
        case measure => simp [intOf]; omega
      · have HN := Lib.hid (sq_lo HD.out hI.out g)
        have hc : 0 ≤ cmpI (D * mid) T := by have := mt hcn.1 g; omega
        have hc' : ¬ cmpI (D * mid) T < 0 := mt hcn.1 g
        clear hcn g
        generalize cmpI (D * mid) T = CC at *
        generalize dg (D * mid).natAbs = DM at *
        generalize decide (D * mid < 0) = nM at *
        go_upto_region 4 with (first | (go_at_call 138; refine (HFF.out _).mono ?_; rintro e w1 ⟨rfl, rfl⟩))
        go_region_held3 (fun w' => Below wr.heap.size wr w' ∧ w'.cell? ⟨w.heap.size, 0, none⟩ = some (.bool nT) ∧ w'.cell? ⟨w.heap.size, 1, none⟩ = some (.slice a1 l1 c1) ∧ w'.cell? ⟨w.heap.size + 1, 0, none⟩ = some (.bool nD) ∧ w'.cell? ⟨w.heap.size + 1, 1, none⟩ = some (.slice a2 l2 c2)) ((refine (fun hbK => And.intro hbK (by exact ⟨(hbK.cell (p := ⟨w.heap.size, 0, none⟩) (by first | assumption | omega | (simp; omega))).trans z0, (hbK.cell (p := ⟨w.heap.size, 1, none⟩) (by first | assumption | omega | (simp; omega))).trans z1, (hbK.cell (p := ⟨w.heap.size + 1, 0, none⟩) (by first | assumption | omega | (simp; omega))).trans y0, (hbK.cell (p := ⟨w.heap.size + 1, 1, none⟩) (by first | assumption | omega | (simp; omega))).trans y1⟩)) ?_; repeat' (first | (with_reducible first | exact bq1 _ _ | assumption | refine bq2 ?_ ?_ _ | refine bq3 ?_ ?_ _ | refine bq4 ?_ | refine bq5 ?_ _) | (apply bthen2; (with_reducible assumption)) | go_size))) ((first | (go_at_call 120; refine (HTT.out _ ?_).mono ?_; (focus (refine Ints.below hY2 ?_; repeat' (first | (with_reducible first | exact bq1 _ _ | assumption | refine bq2 ?_ ?_ _ | refine bq3 ?_ ?_ _ | refine bq4 ?_ | refine bq5 ?_ _) | (apply bthen2; (with_reducible assumption)) | go_size))); rintro e wf ⟨a3, l3, c3, rfl, ho3, hbf⟩) | (go_at_call 139; refine (HCC.out _ _ _ _ ?_ ?_).mono ?_; (focus (refine Ints.below ho3.ints ?_; repeat' (first | (with_reducible first | exact bq1 _ _ | assumption | refine bq2 ?_ ?_ _ | refine bq3 ?_ ?_ _ | refine bq4 ?_ | refine bq5 ?_ _) | (apply bthen2; (with_reducible assumption)) | go_size))); (focus (refine Ints.below hX2 ?_; repeat' (first | (with_reducible first | exact bq1 _ _ | assumption | refine bq2 ?_ ?_ _ | refine bq3 ?_ ?_ _ | refine bq4 ?_ | refine bq5 ?_ _) | (apply bthen2; (with_reducible assumption)) | go_size))); rintro e wg ⟨rfl, hbg⟩)))
        go_wp2
        go_roundw
        case rel => exact ⟨lo, mid, rfl, rfl, by omega, by omega, by omega, HN, gr⟩
        case measure => simp [intOf]; omega
    · have e : hi = lo := by omega
      subst e
      have HTT := Lib.hid (HT.out hi (by omega) (by omega))
      have HCC := Lib.hid (HC.out hi (by omega) (by omega))
      have HU := Lib.hid (show ∀ x, -10000 ≤ x → x ≤ 10000 → D * x = T → hi = x from fun x h1 h2 h3 => by have := hI.out x h1 h2 h3; omega)
      have hc : (cmpI (D * hi) T == 0) = decide (D * hi = T) := by rw [Bool.eq_iff_iff]; simp [cmpI_zero]
      have HQ := Lib.hid hc
      clear hc hI
      generalize cmpI (D * hi) T = CC at *
      generalize dg (D * hi).natAbs = DM at *
      generalize decide (D * hi < 0) = nM at *
      go_upto_region 7 with fail
      go_region_held3 (fun w' => Below wr.heap.size wr w' ∧ w'.cell? ⟨w.heap.size, 0, none⟩ = some (.bool nT) ∧ w'.cell? ⟨w.heap.size, 1, none⟩ = some (.slice a1 l1 c1) ∧ w'.cell? ⟨w.heap.size + 1, 0, none⟩ = some (.bool nD) ∧ w'.cell? ⟨w.heap.size + 1, 1, none⟩ = some (.slice a2 l2 c2)) ((refine (fun hbK => And.intro hbK (by exact ⟨(hbK.cell (p := ⟨w.heap.size, 0, none⟩) (by first | assumption | omega | (simp; omega))).trans z0, (hbK.cell (p := ⟨w.heap.size, 1, none⟩) (by first | assumption | omega | (simp; omega))).trans z1, (hbK.cell (p := ⟨w.heap.size + 1, 0, none⟩) (by first | assumption | omega | (simp; omega))).trans y0, (hbK.cell (p := ⟨w.heap.size + 1, 1, none⟩) (by first | assumption | omega | (simp; omega))).trans y1⟩)) ?_; repeat' (first | (with_reducible first | exact bq1 _ _ | assumption | refine bq2 ?_ ?_ _ | refine bq3 ?_ ?_ _ | refine bq4 ?_ | refine bq5 ?_ _) | (apply bthen2; (with_reducible assumption)) | go_size))) ((first | (go_at_call 120; refine (HTT.out _ ?_).mono ?_; (focus (refine Ints.below hY2 ?_; repeat' (first | (with_reducible first | exact bq1 _ _ | assumption | refine bq2 ?_ ?_ _ | refine bq3 ?_ ?_ _ | refine bq4 ?_ | refine bq5 ?_ _) | (apply bthen2; (with_reducible assumption)) | go_size))); rintro e wf ⟨a3, l3, c3, rfl, ho3, hbf⟩) | (go_at_call 139; refine (HCC.out _ _ _ _ ?_ ?_).mono ?_; (focus (refine Ints.below ho3.ints ?_; repeat' (first | (with_reducible first | exact bq1 _ _ | assumption | refine bq2 ?_ ?_ _ | refine bq3 ?_ ?_ _ | refine bq4 ?_ | refine bq5 ?_ _) | (apply bthen2; (with_reducible assumption)) | go_size))); (focus (refine Ints.below hX2 ?_; repeat' (first | (with_reducible first | exact bq1 _ _ | assumption | refine bq2 ?_ ?_ _ | refine bq3 ?_ ?_ _ | refine bq4 ?_ | refine bq5 ?_ _) | (apply bthen2; (with_reducible assumption)) | go_size))); rintro e wg ⟨rfl, hbg⟩)))
      go_wp2
      go_ret2
      exact ⟨hi, by rw [HQ.out]; rfl, by omega, by omega, HU.out, bthen hB1 gr⟩
def GivesQ2 (T D : Int) (w : World) (e : Ending) (w' : World) : Prop := ∃ v ok, e = .returned (.tuple #[.int .i64 v, .bool ok]) ∧ (ok = true ↔ D * v = T) ∧ -10000 ≤ v ∧ v ≤ 10000 ∧ (∀ x, -10000 ≤ x → x ≤ 10000 → D * x = T → v = x) ∧ Below w.heap.size w w'
theorem GivesQ.two {T D : Int} {w : World} {e : Ending} {w' : World} (h : GivesQ T D w e w') : GivesQ2 T D w e w' := by
  obtain ⟨v, h1, h2, h3, h4, h5⟩ := h
  exact ⟨v, _, h1, by simp, h2, h3, h4, h5⟩
/-! ### aids for functions that reckon with wholes in boxes -/
theorem Ints.alloc {w : World} {s : Value} {xs : List Int} (h : Ints w s xs) (o : Obj) : Ints (w.alloc o) s xs := h.below (Below.alloc (Below.refl _ _) (Nat.le_refl _) o)
theorem setCell_other {w : World} {p q : Addr} {u v x : Value} (hp : w.cell? p = some u) (hq : w.cell? q = some v) (hne : u ≠ v) : (w.setCell p x).cell? q = some v := by
  rw [World.cell?_setCell_other _ _ _ _ (fun e => hne (by rw [e] at hp; rw [hp] at hq; exact Option.some.inj hq)), hq]
/-- A store over what is no number leaves numbers alone. -/
theorem Ints.set_ni {w : World} {s : Value} {xs : List Int} (h : Ints w s xs) {p : Addr} {u : Value} (hp : w.cell? p = some u) (hu : ∀ k n, u ≠ .int k n) (v : Value) : Ints (w.setCell p v) s xs := by
  rcases h with h | ⟨b, off, len, cap, hs, hl, h0, hc, hm, hbl, hcell⟩
  · exact .inl h
  · exact .inr ⟨b, off, len, cap, hs, hl, h0, hc, hm, Nat.lt_of_lt_of_le hbl (only_setCell w p v).size, fun i hi => setCell_other hp (hcell i hi) (hu _ _)⟩
/-- A whole is stored into a box. -/
def sto (w : World) (T : Nat) (n : Bool) (s : Value) : World := (w.setCell ⟨T, 0, none⟩ (.bool n)).setCell ⟨T, 1, none⟩ s
theorem Ints.sto {w : World} {s : Value} {xs : List Int} (h : Ints w s xs) {T : Nat} {m : Bool} {a : Option Addr} {l c : Nat} (hb : Box w T [.bool m, .slice a l c]) (n : Bool) (t : Value) : Ints (sto w T n t) s xs := by
  have h1 := hb.2.1 0 _ rfl
  have h2 := hb.2.1 1 _ rfl
  have h3 := h.set_ni h1 (by intro k n; simp) (.bool n)
  have h4 : (w.setCell ⟨T, 0, none⟩ (.bool n)).cell? ⟨T, 1, none⟩ = some (.slice a l c) := setCell_other h1 h2 (by simp)
  exact h3.set_ni h4 (by intro k n; simp) t
theorem Box.sto {w : World} {T : Nat} {u v : Value} (hb : Box w T [u, v]) (n : Bool) (t : Value) : Box (sto w T n t) T [.bool n, t] := (hb.set 0 (by simp) _).set 1 (by simp) _
theorem Box.sto_ne {w : World} {b T : Nat} {vs : List Value} (hb : Box w b vs) (h : T ≠ b) (n : Bool) (t : Value) : Box (Proofs.YtjgdajeoeagggaaGreat.sto w T n t) b vs := (hb.set_ne h _).set_ne h _
theorem below_sto {w W : World} {N T : Nat} (h : Below N w W) (hT : N ≤ T) (n : Bool) (t : Value) : Below N w (sto W T n t) := Below.setCell (Below.setCell h hT _) hT _
theorem Own.sto {w : World} {B : Nat} {s : Value} {xs : List Int} {T : Nat} (h : Own w B s xs) (hT : T < B) (n : Bool) (t : Value) : Own (Proofs.YtjgdajeoeagggaaGreat.sto w T n t) B s xs := (h.set hT _).set hT _
theorem ChgS.drew {S : Nat → Prop} {a b : World} (h : ChgS S a b) : ChgS S a b.drew := ⟨h.os, h.tape, h.output, h.size, h.block⟩
theorem ChgS.set {S : Nat → Prop} {a b : World} {p : Addr} (h : ChgS S a b) (hp : S p.block) (u : Value) : ChgS S a (b.setCell p u) := by
  have ho := only_setCell b p u
  exact ⟨ho.os.trans h.os, ho.tape.trans h.tape, ho.output.trans h.output, Nat.le_trans h.size ho.size, fun k hk hn => (ho.block k (Nat.lt_of_lt_of_le hk h.size) (fun e => hn (by have e2 := Option.some.inj e; subst e2; exact hp))).trans (h.block k hk hn)⟩
theorem ChgS.cell {T : Nat} {w w' : World} (h : ChgS (fun k => k = T) w w') {b o : Nat} (hl : b < w.heap.size) (hne : T ≠ b) : w'.cell? ⟨b, o, none⟩ = w.cell? ⟨b, o, none⟩ :=
  World.cell?_of_block (w := w) (w' := w') (a := ⟨b, o, none⟩) (h.block b hl (fun e => hne e.symm))
theorem box_made2' (w : World) (u v : Value) (T : TypeId) {b : Nat} (h : b = w.heap.size) : Box (w.alloc (Obj.cells #[u, v] T)) b [u, v] := by rw [h]; exact box_made2 w u v T
theorem WsAt.cast {w : World} {b b2 : Nat} {zs : List Int} (hw : WsAt w b2 zs) (h : b = b2) : WsAt w b zs := by rw [h]; exact hw
theorem WsAt.alloc {w : World} {b : Nat} {zs : List Int} (h : WsAt w b zs) (o : Obj) : WsAt (w.alloc o) b zs := by
  have hb : Below w.heap.size w (w.alloc o) := Below.alloc (Below.refl _ _) (Nat.le_refl _) o
  refine ⟨Nat.lt_of_lt_of_le h.1 hb.size, fun i hi => ?_⟩
  obtain ⟨a, l, c, h1, h2, h3⟩ := h.2 i hi
  exact ⟨a, l, c, (hb.cell (p := ⟨b, i * 2, none⟩) h.1).trans h1, (hb.cell (p := ⟨b, i * 2 + 1, none⟩) h.1).trans h2, h3.below hb⟩
theorem WsAt.drew {w : World} {b : Nat} {zs : List Int} (h : WsAt w b zs) : WsAt w.drew b zs := h
theorem fresh_leaf {W u : World} {b : Nat} {n : Bool} {a : Option Addr} {l c : Nat} {D : List Int} (hle : W.heap.size ≤ b) (i : Ints u (.slice a l c) D) (hB : Below W.heap.size W u) (g : Box u b [.bool false, .slice none 0 0]) :
    Box ((u.setCell ⟨b, 0, none⟩ (.bool n)).setCell ⟨b, 1, none⟩ (.slice a l c)) b [.bool n, .slice a l c] ∧ Ints ((u.setCell ⟨b, 0, none⟩ (.bool n)).setCell ⟨b, 1, none⟩ (.slice a l c)) (.slice a l c) D ∧ W.heap.size ≤ b ∧ Below W.heap.size W ((u.setCell ⟨b, 0, none⟩ (.bool n)).setCell ⟨b, 1, none⟩ (.slice a l c)) :=
  ⟨g.sto n _, i.sto g n _, hle, below_sto hB hle n _⟩
theorem fresh_leafA {W u : World} {T : TypeId} {n : Bool} {a : Option Addr} {l c : Nat} {D : List Int} (hle : W.heap.size ≤ u.heap.size) (i : Ints u (.slice a l c) D) (hB : Below W.heap.size W u) :
    Box (u.alloc (Obj.cells #[.bool n, .slice a l c] T)) u.heap.size [.bool n, .slice a l c] ∧ Ints (u.alloc (Obj.cells #[.bool n, .slice a l c] T)) (.slice a l c) D ∧ W.heap.size ≤ u.heap.size ∧ Below W.heap.size W (u.alloc (Obj.cells #[.bool n, .slice a l c] T)) :=
  ⟨box_made2 _ _ _ _, i.alloc _, hle, Below.alloc hB hle _⟩
end Go.Proofs.YtjgdajeoeagggaaGreat
