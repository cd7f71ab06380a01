import Derived.Test.YtjgdajeoeagggaaGreatYK8
import Derived.Test.YtjgdajeoeagggaaGreatYK5
import Derived.Test.YtjgdajeoeagggaaGreatYPon
set_option linter.unusedSimpArgs false
set_option linter.unusedVariables false
namespace Go.Proofs.YtjgdajeoeagggaaGreat
open Go.RowKit
/-! ### all candidates -/
theorem rt_b {V : Int} (h : 0 ≤ V) (h2 : V ≤ 3240000000000) : rt V ≤ 2000000 := by
  have h1 := rt_le h
  have := sq_lt (a := rt V) (b := 2000001) (by omega) (by omega)
  omega
set_option maxRecDepth 100000 in
set_option maxHeartbeats 4000000 in
theorem candidates_any (a b : Int) (a1 : -1000 ≤ a) (a2 : a ≤ 1000) (b1 : -10000 ≤ b) (b2 : b ≤ 10000) (w : World) :
    Calls Tryz.prog 46 #[.agg #[.int .i64 a, .int .i64 b]] w (GivesP (cds a b 6001) w) := by
  have HV := Lib.hid (fun x w => curveValue_any a b x 1 w)
  have HVB := Lib.hid (fun x (h1 : -3000 ≤ x) (h2 : x ≤ 3000) => cVal_b (a := a) (b := b) (x := x) (e := 1) (by omega) (by omega) (by omega) (by omega))
  have HD := Lib.hid (fun w => core_any a b w)
  have HR := Lib.hid (fun n w h => exactRoot_any n h w)
  have HPS := Lib.hid (fun k => cds_succ a b k)
  have HPL := Lib.hid (fun k => cds_len a b k)
  have HP0 := Lib.hid (show cds a b 0 = [] from rfl)
  have HC := Lib.hid (fun x => show cnd a b x = if cVal a b x 1 = 0 ∨ (dsc a b).tmod (cVal a b x 1) = 0 then ptsX x 1 (cVal a b x 1) else [] from rfl)
  generalize cds a b = cd at *
  generalize cnd a b = cn at *
  generalize dsc a b = D at *
  go_enter Tryz.func46, Tryz.ntmps46
  go_wp2
  refine name_world (fun W1 hW1 => ?_)
  have c0 : W1.cell? ⟨w.heap.size, 0, none⟩ = some (.int .i64 a) := by rw [hW1]; simp
  have c1 : W1.cell? ⟨w.heap.size, 1, none⟩ = some (.int .i64 b) := by rw [hW1]; simp
  have hB1 : Below w.heap.size w W1 := by rw [hW1]; repeat' (first | (with_reducible first | exact bq1 _ _ | assumption | refine bq2 ?_ ?_ _ | refine bq3 ?_ ?_ _ | refine bq4 ?_ | refine bq5 ?_ _) | (apply bthen2; (with_reducible assumption)) | go_size)
  have hs1 : w.heap.size < W1.heap.size := by rw [hW1]; simp
  clear hW1
  go_loopw [3, 4] (fun v3 v4 wr => ∃ (k : Nat) (x : Int), k ≤ 6001 ∧ v4 = .int .i64 x ∧ Hid (x = -3000 + (k : Int)) ∧ OwnP wr W1.heap.size v3 (cd k) ∧ Below W1.heap.size W1 wr) (fun _ v4 _ => (3001 - intOf v4).toNat)
  case atStart => exact ⟨0, -3000, by omega, rfl, Lib.hid (by simp), by rw [HP0.out]; exact OwnP.nil _ _, Below.refl _ _⟩
  case round =>
    clear HP0
    obtain ⟨k, x, hk, rfl, HX, hown, hbw⟩ := hrel
    have hx := HX.out
    have hz := hbw.size
    have d0 := (hbw.cell (p := ⟨w.heap.size, 0, none⟩) hs1).trans c0
    have d1 := (hbw.cell (p := ⟨w.heap.size, 1, none⟩) hs1).trans c1
    obtain ⟨ca, cc, rfl⟩ := hown.slice
    by_cases hlt : x ≤ 3000
    · have x1 : -3000 ≤ x := by omega
      have hk2 : k + 1 ≤ 6001 := by omega
      have HX2 := Lib.hid (show x + 1 = -3000 + ((k + 1 : Nat) : Int) by omega)
      have hps := HPS.out k
      rw [← hx, HC.out] at hps
      have hal : (cd k).length ≤ 1000000 := by have := HPL.out k; omega
      obtain ⟨v1, v2, -⟩ := HVB.out x x1 hlt
      have hrr := fun w => HR.out (cVal a b x 1) w (by omega)
      have hvv := HV.out x
      clear hx
      generalize cVal a b x 1 = V at *
      generalize cd k = cdk at hown hps hal
      cases g2 : sqB V
      · have hpx : ptsX x 1 V = [] := by unfold ptsX; rw [if_neg (by simp [g2])]
        rw [hpx, ite_self, List.append_nil] at hps
        unfold xrR at hrr
        rw [g2] at hrr
        simp only [Bool.false_eq_true, if_false] at hrr
        have HRR := Lib.hid hrr; have HVV := Lib.hid hvv
        have HQ := Lib.hid hps
        clear hrr hvv hps g2 hpx
        go_wp2_with (first | (go_at_call 92; refine (HVV.out _).mono ?_; rintro e wb ⟨rfl, hbb⟩; have hzb := hbb.size; (try simp only [wz1, wz2, wz3, wz4] at hzb); try (refine keepc hbb (w.heap.size) ?_ ?_; (focus (first | omega | (simp <;> omega))); intro hcb_0 hfb_0 hlb_0); try (refine keepc hbb (w.heap.size + 1) ?_ ?_; (focus (first | omega | (simp <;> omega))); intro hcb_1 hfb_1 hlb_1); try (refine keepc hbb (w.heap.size + 1 + 1) ?_ ?_; (focus (first | omega | (simp <;> omega))); intro hcb_2 hfb_2 hlb_2)) | (go_at_call 91; refine (HRR.out _).mono ?_; rintro e w1 ⟨rfl, rfl⟩))
        go_roundw
        case rel => exact ⟨k + 1, x + 1, hk2, rfl, HX2, by rw [HQ.out]; exact hown.below hbb, bthen2 hbb hbw⟩
        case measure => simp [intOf]; omega
      · unfold xrR at hrr
        rw [g2] at hrr
        simp only [if_true] at hrr
        obtain ⟨q1, q2⟩ := sq_rt g2
        have hrn := rt_nonneg V
        have hz0 := rt_zero_iff g2
        by_cases hV0 : V = 0
        · have hpx : ptsX x 1 V = [(x, 0, 1)] := by unfold ptsX; rw [if_pos g2, if_pos hV0]
          rw [if_pos (.inl hV0), hpx] at hps
          rw [hz0.2 hV0] at hrr
          have HRR := Lib.hid hrr; have HVV := Lib.hid hvv
          have HQ := Lib.hid hps
          clear hrr hvv hps g2 hpx q1 q2 hrn hz0 hV0
          go_wp2_with (first | (go_at_call 92; refine (HVV.out _).mono ?_; rintro e wb ⟨rfl, hbb⟩; have hzb := hbb.size; (try simp only [wz1, wz2, wz3, wz4] at hzb); try (refine keepc hbb (w.heap.size) ?_ ?_; (focus (first | omega | (simp <;> omega))); intro hcb_0 hfb_0 hlb_0); try (refine keepc hbb (w.heap.size + 1) ?_ ?_; (focus (first | omega | (simp <;> omega))); intro hcb_1 hfb_1 hlb_1); try (refine keepc hbb (w.heap.size + 1 + 1) ?_ ?_; (focus (first | omega | (simp <;> omega))); intro hcb_2 hfb_2 hlb_2)) | (go_at_call 91; refine (HRR.out _).mono ?_; rintro e w1 ⟨rfl, rfl⟩) | (at_builtin; refine wpl_appP (W := W1) rfl _ _ rfl W1.heap.size _ cdk rfl ((hown.below hbb).alloc _) wb.heap.size 1 (x, 0, 1) rfl (by simp) (by simp) (by simp) (by omega) (Below.alloc (bthen2 hbb hbw) (by omega) _) (by simp; omega) ?_; intro ap cp wp hownp hbwp hszp))
          go_roundw
          case rel => exact ⟨k + 1, x + 1, hk2, rfl, HX2, by rw [HQ.out]; exact hownp, hbwp⟩
          case measure => simp [intOf]; omega
        · have hrpos : rt V ≠ 0 := fun h => hV0 (hz0.1 h)
          have hpx : ptsX x 1 V = [(x, -rt V, 1), (x, rt V, 1)] := by unfold ptsX; rw [if_pos g2, if_neg hV0]
          have hw : wrap64 (rt V * rt V) = V := by rw [q1]; exact win (by omega)
          have hrb : rt V ≤ 2000000 := rt_b q2 (by omega)
          rw [hpx] at hps
          have hq1 : rt V * rt V = V := q1
          have hy0 : (rt V == 0) = false := by simpa using hrpos
          generalize rt V = Y at *
          have hVne : ¬ V = 0 := hV0
          cases gd : (D.tmod V == 0)
          · have gd' : ¬ (V = 0 ∨ D.tmod V = 0) := by rintro (h | h); exact hV0 h; rw [h] at gd; simp at gd
            rw [if_neg gd', List.append_nil] at hps
            have HRR := Lib.hid hrr; have HVV := Lib.hid hvv
            have HQ := Lib.hid hps
            clear hrr hvv hps g2 hpx q1 q2 hz0 hV0 hrpos gd'
            go_wp2_with (first | (go_at_call 92; refine (HVV.out _).mono ?_; rintro e wb ⟨rfl, hbb⟩; have hzb := hbb.size; (try simp only [wz1, wz2, wz3, wz4] at hzb); try (refine keepc hbb (w.heap.size) ?_ ?_; (focus (first | omega | (simp <;> omega))); intro hcb_0 hfb_0 hlb_0); try (refine keepc hbb (w.heap.size + 1) ?_ ?_; (focus (first | omega | (simp <;> omega))); intro hcb_1 hfb_1 hlb_1); try (refine keepc hbb (w.heap.size + 1 + 1) ?_ ?_; (focus (first | omega | (simp <;> omega))); intro hcb_2 hfb_2 hlb_2)) | (go_at_call 91; refine (HRR.out _).mono ?_; rintro e w1 ⟨rfl, rfl⟩) | (go_at_call 89; refine (HD.out _).mono ?_; rintro e wd ⟨rfl, hbd⟩; have hzd := hbd.size; (try simp only [wz1, wz2, wz3, wz4] at hzd); try (refine keepc hbd (w.heap.size) ?_ ?_; (focus (first | omega | (simp <;> omega))); intro hcd_0 hfd_0 hld_0); try (refine keepc hbd (w.heap.size + 1) ?_ ?_; (focus (first | omega | (simp <;> omega))); intro hcd_1 hfd_1 hld_1); try (refine keepc hbd (w.heap.size + 1 + 1) ?_ ?_; (focus (first | omega | (simp <;> omega))); intro hcd_2 hfd_2 hld_2)))
            go_roundw
            case rel => exact ⟨k + 1, x + 1, hk2, rfl, HX2, by rw [HQ.out]; exact (hown.below hbb).below hbd, bthen2 hbd (bthen2 hbb hbw)⟩
            case measure => simp [intOf]; omega
          · rw [if_pos (.inr (by simpa using gd))] at hps
            have HRR := Lib.hid hrr; have HVV := Lib.hid hvv
            have HQ := Lib.hid hps
            clear hrr hvv hps g2 hpx q1 q2 hz0 hV0 hrpos
            go_wp2_with (first | (go_at_call 92; refine (HVV.out _).mono ?_; rintro e wb ⟨rfl, hbb⟩; have hzb := hbb.size; (try simp only [wz1, wz2, wz3, wz4] at hzb); try (refine keepc hbb (w.heap.size) ?_ ?_; (focus (first | omega | (simp <;> omega))); intro hcb_0 hfb_0 hlb_0); try (refine keepc hbb (w.heap.size + 1) ?_ ?_; (focus (first | omega | (simp <;> omega))); intro hcb_1 hfb_1 hlb_1); try (refine keepc hbb (w.heap.size + 1 + 1) ?_ ?_; (focus (first | omega | (simp <;> omega))); intro hcb_2 hfb_2 hlb_2)) | (go_at_call 91; refine (HRR.out _).mono ?_; rintro e w1 ⟨rfl, rfl⟩) | (go_at_call 89; refine (HD.out _).mono ?_; rintro e wd ⟨rfl, hbd⟩; have hzd := hbd.size; (try simp only [wz1, wz2, wz3, wz4] at hzd); try (refine keepc hbd (w.heap.size) ?_ ?_; (focus (first | omega | (simp <;> omega))); intro hcd_0 hfd_0 hld_0); try (refine keepc hbd (w.heap.size + 1) ?_ ?_; (focus (first | omega | (simp <;> omega))); intro hcd_1 hfd_1 hld_1); try (refine keepc hbd (w.heap.size + 1 + 1) ?_ ?_; (focus (first | omega | (simp <;> omega))); intro hcd_2 hfd_2 hld_2)) | (at_builtin; refine wpl_appPs (W := W1) rfl _ _ rfl W1.heap.size wd.heap.size _ _ cdk [(x, -Y, 1), (x, Y, 1)] rfl (((hown.below hbb).below hbd).alloc _) rfl (ownP_lit2 wd (x, -Y, 1) (x, Y, 1)) (by simp; omega) (Below.alloc (bthen2 hbd (bthen2 hbb hbw)) (by omega) _) (by simp; omega) ?_; intro ap cp wp hownp hbwp hszp))
            go_roundw
            case rel => exact ⟨k + 1, x + 1, hk2, rfl, HX2, by rw [HQ.out]; exact hownp, hbwp⟩
            case measure => simp [intOf]; omega
    · have HRE := Lib.hid (show k = 6001 by omega)
      clear hx
      go_wp2
      go_ret
      exact ⟨_, _, _, rfl, by rw [← HRE.out]; exact hown.mono (by omega), bthen hB1 hbw⟩
theorem tmod_big {D v : Int} (hD : D ≠ 0) (hv : max D (-D) < v) : ¬ D.tmod v = 0 := by
  intro h
  have hd := Int.dvd_of_tmod_eq_zero h
  have := Int.natAbs_dvd_natAbs.2 hd
  have := Nat.le_of_dvd (by omega) this
  omega
set_option maxRecDepth 100000 in
set_option maxHeartbeats 4000000 in
theorem toCandidates_any (a b : Int) (a1 : -1000 ≤ a) (a2 : a ≤ 1000) (b1 : -10000 ≤ b) (b2 : b ≤ 10000) (hD : dsc a b ≠ 0) (w : World) :
    Calls Tryz.prog 47 #[.agg #[.int .i64 a, .int .i64 b]] w (GivesP (cds a b 6001) w) := by
  have HV := Lib.hid (fun x w => ptValue_any a b x 1 w)
  have HVB := Lib.hid (fun x (h1 : -3000 ≤ x) (h2 : x ≤ 3000) => cVal_b (a := a) (b := b) (x := x) (e := 1) (by omega) (by omega) (by omega) (by omega))
  have HE := Lib.hid (fun w => ecDisc_any a b w)
  have hdb := dsc_b (a := a) (b := b) (by omega) (by omega)
  have hd1 := hdb.1
  have hd2 := hdb.2
  have HA := Lib.hid (show ∀ w, Calls Tryz.prog 94 #[.int .i64 (dsc a b)] w (Same (.int .i64 (max (dsc a b) (-(dsc a b)))) w) from fun w => by have := l1Abs_any (dsc a b) w; rwa [win (n := -(dsc a b)) (by omega)] at this)
  have HT := Lib.hid (fun v h => @tmod_big (dsc a b) v hD h)
  have HP := Lib.hid (fun x h1 h2 w => ptAtX_any a b x 1 h1 h2 w)
  have HPS := Lib.hid (fun k => cds_succ a b k)
  have HPL := Lib.hid (fun k => cds_len a b k)
  have HPX := Lib.hid (fun x n => ptsX_len x 1 n)
  have HP0 := Lib.hid (show cds a b 0 = [] from rfl)
  have HC := Lib.hid (fun x => show cnd a b x = if cVal a b x 1 = 0 ∨ (dsc a b).tmod (cVal a b x 1) = 0 then ptsX x 1 (cVal a b x 1) else [] from rfl)
  generalize cds a b = cd at *
  generalize cnd a b = cn at *
  generalize dsc a b = D at *
  clear hdb
  have hDh := Lib.hid hD
  clear hD
  go_enter Tryz.func47, Tryz.ntmps47
  go_wp2_with (first | (go_at_call 90; refine (HE.out _).mono ?_; rintro e wa ⟨rfl, hba⟩; have hza := hba.size; (try simp only [wz1, wz2, wz3, wz4] at hza); try (refine keepc hba (w.heap.size) ?_ ?_; (focus (first | omega | (simp <;> omega))); intro hca_0 hfa_0 hla_0); try (refine keepc hba (w.heap.size + 1) ?_ ?_; (focus (first | omega | (simp <;> omega))); intro hca_1 hfa_1 hla_1); try (refine keepc hba (w.heap.size + 1 + 1) ?_ ?_; (focus (first | omega | (simp <;> omega))); intro hca_2 hfa_2 hla_2)))
  have c0 := (hca_0 0).trans (show _ = some (Value.int .i64 a) by simp)
  have c1 := (hca_0 1).trans (show _ = some (Value.int .i64 b) by simp)
  have hB1 : Below w.heap.size w wa := gr
  have hs1 : w.heap.size < wa.heap.size := hla_0
  clear hca_0 hfa_0 hla_0 hba hza
  go_loopw [3, 5] (fun v3 v5 wr => ∃ (k : Nat) (x : Int), k ≤ 6001 ∧ v5 = .int .i64 x ∧ Hid (x = -3000 + (k : Int)) ∧ OwnP wr wa.heap.size v3 (cd k) ∧ Below wa.heap.size wa wr) (fun _ v5 _ => (3001 - intOf v5).toNat)
  case atStart => exact ⟨0, -3000, by omega, rfl, Lib.hid (by simp), by rw [HP0.out]; exact OwnP.nil _ _, Below.refl _ _⟩
  case round =>
    clear HP0
    obtain ⟨k, x, hk, rfl, HX, hown, hbw⟩ := hrel
    have hx := HX.out
    have hz := hbw.size
    have d0 := (hbw.cell (p := ⟨w.heap.size, 0, none⟩) hs1).trans c0
    have d1 := (hbw.cell (p := ⟨w.heap.size, 1, none⟩) hs1).trans c1
    obtain ⟨ca, cc, rfl⟩ := hown.slice
    by_cases hlt : x ≤ 3000
    · have x1 : -3000 ≤ x := by omega
      have hk2 : k + 1 ≤ 6001 := by omega
      have HX2 := Lib.hid (show x + 1 = -3000 + ((k + 1 : Nat) : Int) by omega)
      have hps := HPS.out k
      rw [← hx, HC.out] at hps
      have hal : (cd k).length ≤ 1000000 := by have := HPL.out k; omega
      obtain ⟨v1, v2, -⟩ := HVB.out x x1 hlt
      have hpp := fun w => HP.out x (by omega) (by omega) w
      have hvv := HV.out x
      clear hx
      generalize cVal a b x 1 = V at *
      have hpl := HPX.out x V
      generalize cd k = cdk at hown hps hal
      have HVV := Lib.hid hvv
      by_cases hV0 : V = 0
      · rw [if_pos (.inl hV0)] at hps
        have hV0' : (V != 0) = false := by simpa using hV0
        have HPP := Lib.hid hpp
        have HQ := Lib.hid hps
        clear hvv hps hpp hV0
        generalize ptsX x 1 V = px at *
        go_wp2_with (first | (go_at_call 93; refine (HVV.out _).mono ?_; rintro e wb ⟨rfl, hbb⟩; have hzb := hbb.size; (try simp only [wz1, wz2, wz3, wz4] at hzb); try (refine keepc hbb (w.heap.size) ?_ ?_; (focus (first | omega | (simp <;> omega))); intro hcb_0 hfb_0 hlb_0); try (refine keepc hbb (w.heap.size + 1) ?_ ?_; (focus (first | omega | (simp <;> omega))); intro hcb_1 hfb_1 hlb_1); try (refine keepc hbb (w.heap.size + 1 + 1) ?_ ?_; (focus (first | omega | (simp <;> omega))); intro hcb_2 hfb_2 hlb_2)) | (go_at_call 95; refine (HPP.out _).mono ?_; rintro e wd ⟨sa, sl, sc, rfl, ownd, hbd⟩; have hzd := hbd.size; (try simp only [wz1, wz2, wz3, wz4] at hzd); try (refine keepc hbd (w.heap.size) ?_ ?_; (focus (first | omega | (simp <;> omega))); intro hcd_0 hfd_0 hld_0); try (refine keepc hbd (w.heap.size + 1) ?_ ?_; (focus (first | omega | (simp <;> omega))); intro hcd_1 hfd_1 hld_1); try (refine keepc hbd (w.heap.size + 1 + 1) ?_ ?_; (focus (first | omega | (simp <;> omega))); intro hcd_2 hfd_2 hld_2)) | (at_builtin; refine wpl_appPs (W := wa) rfl _ _ rfl wa.heap.size wb.heap.size _ _ cdk px rfl ((hown.below hbb).below hbd) rfl ownd (by omega) (bthen2 hbd (bthen2 hbb hbw)) (by omega) ?_; intro ap cp wp hownp hbwp hszp))
        go_roundw
        case rel => exact ⟨k + 1, x + 1, hk2, rfl, HX2, by rw [HQ.out]; exact hownp, hbwp⟩
        case measure => simp [intOf]; omega
      · have hV0' : (V != 0) = true := by simpa using hV0
        by_cases hneg : V < 0
        · have hpx : ptsX x 1 V = [] := by unfold ptsX sqB; rw [if_neg (by simp; omega)]
          rw [hpx, ite_self, List.append_nil] at hps
          have HQ := Lib.hid hps
          clear hvv hps hpp hV0 hpx
          go_wp2_with (first | (go_at_call 93; refine (HVV.out _).mono ?_; rintro e wb ⟨rfl, hbb⟩; have hzb := hbb.size; (try simp only [wz1, wz2, wz3, wz4] at hzb); try (refine keepc hbb (w.heap.size) ?_ ?_; (focus (first | omega | (simp <;> omega))); intro hcb_0 hfb_0 hlb_0); try (refine keepc hbb (w.heap.size + 1) ?_ ?_; (focus (first | omega | (simp <;> omega))); intro hcb_1 hfb_1 hlb_1); try (refine keepc hbb (w.heap.size + 1 + 1) ?_ ?_; (focus (first | omega | (simp <;> omega))); intro hcb_2 hfb_2 hlb_2)))
          go_roundw
          case rel => exact ⟨k + 1, x + 1, hk2, rfl, HX2, by rw [HQ.out]; exact hown.below hbb, bthen2 hbb hbw⟩
          case measure => simp [intOf]; omega
        · by_cases hbig : max D (-D) < V
          · have ht := HT.out V hbig
            rw [if_neg (by rintro (h | h); exact hV0 h; exact ht h), List.append_nil] at hps
            have HQ := Lib.hid hps
            clear hvv hps hpp hV0 ht
            go_wp2_with (first | (go_at_call 93; refine (HVV.out _).mono ?_; rintro e wb ⟨rfl, hbb⟩; have hzb := hbb.size; (try simp only [wz1, wz2, wz3, wz4] at hzb); try (refine keepc hbb (w.heap.size) ?_ ?_; (focus (first | omega | (simp <;> omega))); intro hcb_0 hfb_0 hlb_0); try (refine keepc hbb (w.heap.size + 1) ?_ ?_; (focus (first | omega | (simp <;> omega))); intro hcb_1 hfb_1 hlb_1); try (refine keepc hbb (w.heap.size + 1 + 1) ?_ ?_; (focus (first | omega | (simp <;> omega))); intro hcb_2 hfb_2 hlb_2)) | (go_at_call 94; refine (HA.out _).mono ?_; rintro e w1 ⟨rfl, rfl⟩))
            go_roundw
            case rel => exact ⟨k + 1, x + 1, hk2, rfl, HX2, by rw [HQ.out]; exact hown.below hbb, bthen2 hbb hbw⟩
            case measure => simp [intOf]; omega
          · cases gd : (D.tmod V != 0)
            · have gd' : D.tmod V = 0 := by simpa using gd
              rw [if_pos (.inr gd')] at hps
              have HPP := Lib.hid hpp
              have HQ := Lib.hid hps
              have hVne : ¬ V = 0 := hV0
              clear hvv hps hpp hV0 gd'
              generalize ptsX x 1 V = px at *
              go_wp2_with (first | (go_at_call 93; refine (HVV.out _).mono ?_; rintro e wb ⟨rfl, hbb⟩; have hzb := hbb.size; (try simp only [wz1, wz2, wz3, wz4] at hzb); try (refine keepc hbb (w.heap.size) ?_ ?_; (focus (first | omega | (simp <;> omega))); intro hcb_0 hfb_0 hlb_0); try (refine keepc hbb (w.heap.size + 1) ?_ ?_; (focus (first | omega | (simp <;> omega))); intro hcb_1 hfb_1 hlb_1); try (refine keepc hbb (w.heap.size + 1 + 1) ?_ ?_; (focus (first | omega | (simp <;> omega))); intro hcb_2 hfb_2 hlb_2)) | (go_at_call 94; refine (HA.out _).mono ?_; rintro e w1 ⟨rfl, rfl⟩) | (go_at_call 95; refine (HPP.out _).mono ?_; rintro e wd ⟨sa, sl, sc, rfl, ownd, hbd⟩; have hzd := hbd.size; (try simp only [wz1, wz2, wz3, wz4] at hzd); try (refine keepc hbd (w.heap.size) ?_ ?_; (focus (first | omega | (simp <;> omega))); intro hcd_0 hfd_0 hld_0); try (refine keepc hbd (w.heap.size + 1) ?_ ?_; (focus (first | omega | (simp <;> omega))); intro hcd_1 hfd_1 hld_1); try (refine keepc hbd (w.heap.size + 1 + 1) ?_ ?_; (focus (first | omega | (simp <;> omega))); intro hcd_2 hfd_2 hld_2)) | (at_builtin; refine wpl_appPs (W := wa) rfl _ _ rfl wa.heap.size wb.heap.size _ _ cdk px rfl ((hown.below hbb).below hbd) rfl ownd (by omega) (bthen2 hbd (bthen2 hbb hbw)) (by omega) ?_; intro ap cp wp hownp hbwp hszp))
              go_roundw
              case rel => exact ⟨k + 1, x + 1, hk2, rfl, HX2, by rw [HQ.out]; exact hownp, hbwp⟩
              case measure => simp [intOf]; omega
            · have gd' : ¬ D.tmod V = 0 := by simpa using gd
              rw [if_neg (by rintro (h | h); exact hV0 h; exact gd' h), List.append_nil] at hps
              have HQ := Lib.hid hps
              have hVne : ¬ V = 0 := hV0
              clear hvv hps hpp hV0 gd'
              go_wp2_with (first | (go_at_call 93; refine (HVV.out _).mono ?_; rintro e wb ⟨rfl, hbb⟩; have hzb := hbb.size; (try simp only [wz1, wz2, wz3, wz4] at hzb); try (refine keepc hbb (w.heap.size) ?_ ?_; (focus (first | omega | (simp <;> omega))); intro hcb_0 hfb_0 hlb_0); try (refine keepc hbb (w.heap.size + 1) ?_ ?_; (focus (first | omega | (simp <;> omega))); intro hcb_1 hfb_1 hlb_1); try (refine keepc hbb (w.heap.size + 1 + 1) ?_ ?_; (focus (first | omega | (simp <;> omega))); intro hcb_2 hfb_2 hlb_2)) | (go_at_call 94; refine (HA.out _).mono ?_; rintro e w1 ⟨rfl, rfl⟩))
              go_roundw
              case rel => exact ⟨k + 1, x + 1, hk2, rfl, HX2, by rw [HQ.out]; exact hown.below hbb, bthen2 hbb hbw⟩
              case measure => simp [intOf]; omega
    · have HRE := Lib.hid (show k = 6001 by omega)
      clear hx
      go_wp2
      go_ret
      exact ⟨_, _, _, rfl, by rw [← HRE.out]; exact hown.mono (by omega), bthen hB1 hbw⟩
def tcPs (a b : Int) : List P3 := if isC a b then cds a b 6001 else []
theorem isC_f {a b : Int} (h : isC a b = true) : -1000 ≤ a ∧ a ≤ 1000 ∧ -10000 ≤ b ∧ b ≤ 10000 ∧ dsc a b ≠ 0 := by
  unfold isC at h
  simp only [Bool.and_eq_true, inB_iff, bne_iff_ne, ne_eq] at h
  exact ⟨h.1.1.1, h.1.1.2, h.1.2.1, h.1.2.2, h.2⟩
theorem TorsionCandidates_any (a b : Int) (w : World) : Calls Tryz.prog 9 #[.agg #[.int .i64 a, .int .i64 b]] w (GivesPB (tcPs a b) (isC a b) w) := by
  have HF := Lib.hid (fun w => isCurve_any a b w)
  cases g1 : isC a b
  · have E1 := Lib.hid (show tcPs a b = [] by simp [tcPs, g1])
    rw [E1.out]
    rw [g1] at HF
    go_enter Tryz.func9, Tryz.ntmps9
    go_wp2_with (first | (go_at_call 42; refine (HF.out _).mono ?_; rintro e wa ⟨rfl, hba⟩; have hza := hba.size; (try simp only [wz1, wz2, wz3, wz4] at hza); try (refine keepc hba (w.heap.size) ?_ ?_; (focus (first | omega | (simp <;> omega))); intro hca_0 hfa_0 hla_0); try (refine keepc hba (w.heap.size + 1) ?_ ?_; (focus (first | omega | (simp <;> omega))); intro hca_1 hfa_1 hla_1); try (refine keepc hba (w.heap.size + 1 + 1) ?_ ?_; (focus (first | omega | (simp <;> omega))); intro hca_2 hfa_2 hla_2)))
    go_ret2
    exact ⟨none, 0, 0, rfl, OwnP.nil _ _, gr⟩
  · rw [g1] at HF
    have E1 := Lib.hid (show tcPs a b = cds a b 6001 by simp [tcPs, g1])
    rw [E1.out]
    obtain ⟨k1, k2, k3, k4, hD⟩ := isC_f g1
    have HC := Lib.hid (fun w => candidates_any a b k1 k2 k3 k4 w)
    clear E1 hD
    generalize cds a b 6001 = R at *
    go_enter Tryz.func9, Tryz.ntmps9
    go_wp2_with (first | (go_at_call 42; refine (HF.out _).mono ?_; rintro e wa ⟨rfl, hba⟩; have hza := hba.size; (try simp only [wz1, wz2, wz3, wz4] at hza); try (refine keepc hba (w.heap.size) ?_ ?_; (focus (first | omega | (simp <;> omega))); intro hca_0 hfa_0 hla_0); try (refine keepc hba (w.heap.size + 1) ?_ ?_; (focus (first | omega | (simp <;> omega))); intro hca_1 hfa_1 hla_1); try (refine keepc hba (w.heap.size + 1 + 1) ?_ ?_; (focus (first | omega | (simp <;> omega))); intro hca_2 hfa_2 hla_2)) | (go_at_call 46; refine (HC.out _).mono ?_; rintro e wb ⟨a1, len1, cap1, rfl, hown, hbb⟩))
    go_ret2
    exact ⟨a1, len1, cap1, rfl, hown.mono (by first | omega | (simp; omega)), gr⟩
theorem sTorsionCandidates_any (a b : Int) (w : World) : Calls Tryz.prog 10 #[.agg #[.int .i64 a, .int .i64 b]] w (GivesPB (tcPs a b) (isC a b) w) := by
  have HF := Lib.hid (fun w => ecGood_any a b w)
  cases g1 : isC a b
  · have E1 := Lib.hid (show tcPs a b = [] by simp [tcPs, g1])
    rw [E1.out]
    rw [g1] at HF
    go_enter Tryz.func10, Tryz.ntmps10
    go_wp2_with (first | (go_at_call 44; refine (HF.out _).mono ?_; rintro e wa ⟨rfl, hba⟩; have hza := hba.size; (try simp only [wz1, wz2, wz3, wz4] at hza); try (refine keepc hba (w.heap.size) ?_ ?_; (focus (first | omega | (simp <;> omega))); intro hca_0 hfa_0 hla_0); try (refine keepc hba (w.heap.size + 1) ?_ ?_; (focus (first | omega | (simp <;> omega))); intro hca_1 hfa_1 hla_1); try (refine keepc hba (w.heap.size + 1 + 1) ?_ ?_; (focus (first | omega | (simp <;> omega))); intro hca_2 hfa_2 hla_2)))
    go_ret2
    exact ⟨none, 0, 0, rfl, OwnP.nil _ _, gr⟩
  · rw [g1] at HF
    have E1 := Lib.hid (show tcPs a b = cds a b 6001 by simp [tcPs, g1])
    rw [E1.out]
    obtain ⟨k1, k2, k3, k4, hD⟩ := isC_f g1
    have HC := Lib.hid (fun w => toCandidates_any a b k1 k2 k3 k4 hD w)
    clear E1 hD
    generalize cds a b 6001 = R at *
    go_enter Tryz.func10, Tryz.ntmps10
    go_wp2_with (first | (go_at_call 44; refine (HF.out _).mono ?_; rintro e wa ⟨rfl, hba⟩; have hza := hba.size; (try simp only [wz1, wz2, wz3, wz4] at hza); try (refine keepc hba (w.heap.size) ?_ ?_; (focus (first | omega | (simp <;> omega))); intro hca_0 hfa_0 hla_0); try (refine keepc hba (w.heap.size + 1) ?_ ?_; (focus (first | omega | (simp <;> omega))); intro hca_1 hfa_1 hla_1); try (refine keepc hba (w.heap.size + 1 + 1) ?_ ?_; (focus (first | omega | (simp <;> omega))); intro hca_2 hfa_2 hla_2)) | (go_at_call 47; refine (HC.out _).mono ?_; rintro e wb ⟨a1, len1, cap1, rfl, hown, hbb⟩))
    go_ret2
    exact ⟨a1, len1, cap1, rfl, hown.mono (by first | omega | (simp; omega)), gr⟩
/-! ### the ratio of a point's x -/
end Go.Proofs.YtjgdajeoeagggaaGreat
