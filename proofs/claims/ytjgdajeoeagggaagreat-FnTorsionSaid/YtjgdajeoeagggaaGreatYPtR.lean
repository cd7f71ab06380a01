import Derived.Test.YtjgdajeoeagggaaGreatYK9
set_option linter.unusedSimpArgs false
set_option linter.unusedVariables false
namespace Go.Proofs.YtjgdajeoeagggaaGreat
open Go.RowKit
/-! ### the program's sum of points -/
set_option maxRecDepth 100000 in
set_option maxHeartbeats 16000000 in
theorem addPoints_main (A B x1 y1 e1 x2 y2 e2 N M G n m EE SS : Int) (h1 : e1 ≠ 0) (h2 : e2 ≠ 0) (hno : ¬ (x1 = x2 ∧ y1 = -y2 ∧ e1 = e2)) (ry : -2000000 ≤ y2 ∧ y2 ≤ 2000000)
    (HS0 : ∀ W, Calls Tryz.prog 114 #[.agg #[.int .i64 A, .int .i64 B], .agg #[.int .i64 x1, .int .i64 y1, .int .i64 e1], .agg #[.int .i64 x2, .int .i64 y2, .int .i64 e2]] W (Gives (.tuple #[.int .i64 N, .int .i64 M]) W))
    (HG0 : ∀ W, Calls Tryz.prog 54 #[.int .i64 N, .int .i64 M] W (Gives (.int .i64 G) W)) (hG : 0 < G) (hn : N.tdiv G = n) (hm : M.tdiv G = m) (rn : n.natAbs ≤ 100000000000) (rm : m.natAbs ≤ 10000000000)
    (kwpe : wrap64 (wrap64 (wrap64 (e1 * e1) * e2) * e2) = EE) (rE : EE.natAbs ≤ 160000) (kwps : wrap64 (wrap64 (wrap64 (x1 * e2) * e2) + wrap64 (wrap64 (x2 * e1) * e1)) = SS) (rS : SS.natAbs ≤ 8000000)
    (hD : 0 < m * m * EE)
    (HV0 : ∀ x e W, Calls Tryz.prog 92 #[.agg #[.int .i64 A, .int .i64 B], .int .i64 x, .int .i64 e] W (Gives (.int .i64 (cVal A B x e)) W))
    (hhit : ∀ e X, 1 ≤ e → e ≤ 20 → -10000 ≤ X → X ≤ 10000 → m * m * EE * X = (n * n * EE + -(m * m * SS)) * (e * e) → Int.gcd X e = 1 → ∃ Y, EC.sumO A (x1, y1, e1) (x2, y2, e2) = some (X, Y, e) ∧ sqB (cVal A B X e) = true ∧ cVal A B X e ≤ 4000000000000 ∧
      wrap64 (wrap64 (wrap64 (n * wrap64 (wrap64 (wrap64 (x1 * e) * e) - wrap64 (wrap64 (X * e1) * e1))) * e1) - wrap64 (wrap64 (wrap64 (y1 * m) * e) * e)) = EC.sideI (x1, y1, e1) n m X e ∧ Y = (if (decide (EC.sideI (x1, y1, e1) n m X e < 0) != decide (m < 0)) = true then -rt (cVal A B X e) else rt (cVal A B X e)))
    (hmiss : ∀ X Y e, EC.sumO A (x1, y1, e1) (x2, y2, e2) = some (X, Y, e) → 1 ≤ e ∧ e ≤ 20 ∧ -10000 ≤ X ∧ X ≤ 10000 ∧ m * m * EE * X = (n * n * EE + -(m * m * SS)) * (e * e) ∧ Int.gcd X e = 1) (w : World) :
    Calls Tryz.prog 80 #[.agg #[.int .i64 A, .int .i64 B], .agg #[.int .i64 x1, .int .i64 y1, .int .i64 e1], .agg #[.int .i64 x2, .int .i64 y2, .int .i64 e2]] w (Gives (sumV A (x1, y1, e1) (x2, y2, e2)) w) := by
  have k1 : (e1 == 0) = false := by simpa using h1
  have k2 : (e2 == 0) = false := by simpa using h2
  have HO := Lib.hid (fun W => opposite_any x2 y2 e2 (by omega) (by omega) W)
  have HS := Lib.hid HS0; have HGC := Lib.hid HG0; have HV := Lib.hid HV0; have HIT := Lib.hid hhit; have HMI := Lib.hid hmiss; have HNO := Lib.hid hno
  obtain ⟨pa, hpa⟩ : ∃ v, v = m := ⟨_, rfl⟩
  have hlpa : (dg pa.natAbs).length ≤ 5 := dg_len _ (by omega)
  have Cpa := Lib.hid (show ∀ W, Calls Tryz.prog 116 #[.int .i64 m] W (GivesZ pa W) from fun W => by rw [hpa]; exact wholeOf_any m (by omega) (by omega) W)
  obtain ⟨pb, hpb⟩ : ∃ v, v = m := ⟨_, rfl⟩
  have hlpb : (dg pb.natAbs).length ≤ 5 := dg_len _ (by omega)
  have Cpb := Lib.hid (show ∀ W, Calls Tryz.prog 116 #[.int .i64 m] W (GivesZ pb W) from fun W => by rw [hpb]; exact wholeOf_any m (by omega) (by omega) W)
  obtain ⟨pm, hpm⟩ : ∃ v, v = pa * pb := ⟨_, rfl⟩
  have hlpm : (dg pm.natAbs).length ≤ 10 := by rw [hpm]; have := dg_len_mul pa pb; omega
  have Cpm := Lib.hid (show ∀ a l c a2 l2 c2 W, Ints W (.slice a l c) (dg pa.natAbs) → Ints W (.slice a2 l2 c2) (dg pb.natAbs) → Calls Tryz.prog 115 #[.agg #[.bool (decide (pa < 0)), .slice a l c], .agg #[.bool (decide (pb < 0)), .slice a2 l2 c2]] W (GivesZ pm W) from fun a l c a2 l2 c2 W h h2 => by rw [hpm]; exact mulWholes_any pa pb _ _ _ _ _ _ W h h2 (by omega) (by omega))
  obtain ⟨pe, hpe⟩ : ∃ v, v = EE := ⟨_, rfl⟩
  have hlpe : (dg pe.natAbs).length ≤ 5 := dg_len _ (by omega)
  have Cpe := Lib.hid (show ∀ W, Calls Tryz.prog 116 #[.int .i64 EE] W (GivesZ pe W) from fun W => by rw [hpe]; exact wholeOf_any EE (by omega) (by omega) W)
  obtain ⟨pc, hpc⟩ : ∃ v, v = n := ⟨_, rfl⟩
  have hlpc : (dg pc.natAbs).length ≤ 5 := dg_len _ (by omega)
  have Cpc := Lib.hid (show ∀ W, Calls Tryz.prog 116 #[.int .i64 n] W (GivesZ pc W) from fun W => by rw [hpc]; exact wholeOf_any n (by omega) (by omega) W)
  obtain ⟨pd, hpd⟩ : ∃ v, v = n := ⟨_, rfl⟩
  have hlpd : (dg pd.natAbs).length ≤ 5 := dg_len _ (by omega)
  have Cpd := Lib.hid (show ∀ W, Calls Tryz.prog 116 #[.int .i64 n] W (GivesZ pd W) from fun W => by rw [hpd]; exact wholeOf_any n (by omega) (by omega) W)
  obtain ⟨pn, hpn⟩ : ∃ v, v = pc * pd := ⟨_, rfl⟩
  have hlpn : (dg pn.natAbs).length ≤ 10 := by rw [hpn]; have := dg_len_mul pc pd; omega
  have Cpn := Lib.hid (show ∀ a l c a2 l2 c2 W, Ints W (.slice a l c) (dg pc.natAbs) → Ints W (.slice a2 l2 c2) (dg pd.natAbs) → Calls Tryz.prog 115 #[.agg #[.bool (decide (pc < 0)), .slice a l c], .agg #[.bool (decide (pd < 0)), .slice a2 l2 c2]] W (GivesZ pn W) from fun a l c a2 l2 c2 W h h2 => by rw [hpn]; exact mulWholes_any pc pd _ _ _ _ _ _ W h h2 (by omega) (by omega))
  obtain ⟨pt, hpt⟩ : ∃ v, v = pn * pe := ⟨_, rfl⟩
  have hlpt : (dg pt.natAbs).length ≤ 15 := by rw [hpt]; have := dg_len_mul pn pe; omega
  have Cpt := Lib.hid (show ∀ a l c a2 l2 c2 W, Ints W (.slice a l c) (dg pn.natAbs) → Ints W (.slice a2 l2 c2) (dg pe.natAbs) → Calls Tryz.prog 115 #[.agg #[.bool (decide (pn < 0)), .slice a l c], .agg #[.bool (decide (pe < 0)), .slice a2 l2 c2]] W (GivesZ pt W) from fun a l c a2 l2 c2 W h h2 => by rw [hpt]; exact mulWholes_any pn pe _ _ _ _ _ _ W h h2 (by omega) (by omega))
  obtain ⟨ps, hps⟩ : ∃ v, v = SS := ⟨_, rfl⟩
  have hlps : (dg ps.natAbs).length ≤ 5 := dg_len _ (by omega)
  have Cps := Lib.hid (show ∀ W, Calls Tryz.prog 116 #[.int .i64 SS] W (GivesZ ps W) from fun W => by rw [hps]; exact wholeOf_any SS (by omega) (by omega) W)
  obtain ⟨pq, hpq⟩ : ∃ v, v = pm * ps := ⟨_, rfl⟩
  have hlpq : (dg pq.natAbs).length ≤ 15 := by rw [hpq]; have := dg_len_mul pm ps; omega
  have Cpq := Lib.hid (show ∀ a l c a2 l2 c2 W, Ints W (.slice a l c) (dg pm.natAbs) → Ints W (.slice a2 l2 c2) (dg ps.natAbs) → Calls Tryz.prog 115 #[.agg #[.bool (decide (pm < 0)), .slice a l c], .agg #[.bool (decide (ps < 0)), .slice a2 l2 c2]] W (GivesZ pq W) from fun a l c a2 l2 c2 W h h2 => by rw [hpq]; exact mulWholes_any pm ps _ _ _ _ _ _ W h h2 (by omega) (by omega))
  obtain ⟨pg, hpg⟩ : ∃ v, v = -pq := ⟨_, rfl⟩
  have hlpg : (dg pg.natAbs).length ≤ 15 := by rw [hpg, Int.natAbs_neg]; exact hlpq
  have Cpg := Lib.hid (show ∀ a l c W, Ints W (.slice a l c) (dg pq.natAbs) → Calls Tryz.prog 118 #[.agg #[.bool (decide (pq < 0)), .slice a l c]] W (GivesZ pg W) from fun a l c W h => by rw [hpg]; exact negated_any pq _ _ _ W h (by omega))
  obtain ⟨pT, hpT⟩ : ∃ v, v = pt + pg := ⟨_, rfl⟩
  have hlpT : (dg pT.natAbs).length ≤ 16 := by rw [hpT]; have := dg_len_add pt pg (n := 15) (by omega) (by omega); omega
  have CpT := Lib.hid (show ∀ a l c a2 l2 c2 W, Ints W (.slice a l c) (dg pt.natAbs) → Ints W (.slice a2 l2 c2) (dg pg.natAbs) → Calls Tryz.prog 117 #[.agg #[.bool (decide (pt < 0)), .slice a l c], .agg #[.bool (decide (pg < 0)), .slice a2 l2 c2]] W (GivesZ pT W) from fun a l c a2 l2 c2 W h h2 => by rw [hpT]; exact addWholes_any pt pg _ _ _ _ _ _ W h h2 (by omega) (by omega))
  obtain ⟨pD, hpD⟩ : ∃ v, v = pm * pe := ⟨_, rfl⟩
  have hlpD : (dg pD.natAbs).length ≤ 15 := by rw [hpD]; have := dg_len_mul pm pe; omega
  have CpD := Lib.hid (show ∀ a l c a2 l2 c2 W, Ints W (.slice a l c) (dg pm.natAbs) → Ints W (.slice a2 l2 c2) (dg pe.natAbs) → Calls Tryz.prog 115 #[.agg #[.bool (decide (pm < 0)), .slice a l c], .agg #[.bool (decide (pe < 0)), .slice a2 l2 c2]] W (GivesZ pD W) from fun a l c a2 l2 c2 W h h2 => by rw [hpD]; exact mulWholes_any pm pe _ _ _ _ _ _ W h h2 (by omega) (by omega))
  have eT : pT = n * n * EE + -(m * m * SS) := by rw [hpT, hpt, hpg, hpq, hpn, hpm, hpa, hpb, hpc, hpd, hpe, hps]
  have eD : pD = m * m * EE := by rw [hpD, hpm, hpa, hpb, hpe]
  have hD0 : 0 < pD := by rw [eD]; exact hD
  rw [← eT, ← eD] at HIT HMI
  have CTI := Lib.hid (fun (e : Int) (q1 : 1 ≤ e) (q2 : e ≤ 20) a l c W h => timesInt_any pT (e * e) (by have := nmul (a := e) (b := e) (x := 20) (y := 20) (by omega) (by omega); omega) (by have := nmul (a := e) (b := e) (x := 20) (y := 20) (by omega) (by omega); omega) a l c W h (by omega))
  have CSQ := Lib.hid (fun (e : Int) (q1 : 1 ≤ e) (q2 : e ≤ 20) a l c a' l' c' W h h' => (smallQuotient_any (pT * (e * e)) pD hD0 a a' l c l' c' W h h' (by have := dg_len_mul pT (e * e); have := dg_len (e * e).natAbs (by have := nmul (a := e) (b := e) (x := 20) (y := 20) (by omega) (by omega); omega); omega) (by omega)).mono fun _ _ hh => hh.two)
  have CGC := Lib.hid (fun (x e : Int) (q1 : -10000 ≤ x) (q2 : x ≤ 10000) (q3 : 1 ≤ e) (q4 : e ≤ 20) W => (gcd_any x e (by omega) (by omega) (by omega) (by omega) W).mono fun _ _ h => gives_of_quiet h)
  clear eT eD hD hD0 HS0 HG0 HV0 hhit hmiss hno rE rS ry h1 h2 hpD hlpD hpT hlpT hpg hlpg hpq hlpq hps hlps hpt hlpt hpn hlpn hpd hlpd hpc hlpc hpe hlpe hpm hlpm hpb hlpb hpa hlpa
  unfold GivesZ at *
  generalize dg pa.natAbs = Dpa at *
  generalize decide (pa < 0) = npa at *
  generalize dg pb.natAbs = Dpb at *
  generalize decide (pb < 0) = npb at *
  generalize dg pm.natAbs = Dpm at *
  generalize decide (pm < 0) = npm at *
  generalize dg pe.natAbs = Dpe at *
  generalize decide (pe < 0) = npe at *
  generalize dg pc.natAbs = Dpc at *
  generalize decide (pc < 0) = npc at *
  generalize dg pd.natAbs = Dpd at *
  generalize decide (pd < 0) = npd at *
  generalize dg pn.natAbs = Dpn at *
  generalize decide (pn < 0) = npn at *
  generalize dg pt.natAbs = Dpt at *
  generalize decide (pt < 0) = npt at *
  generalize dg ps.natAbs = Dps at *
  generalize decide (ps < 0) = nps at *
  generalize dg pq.natAbs = Dpq at *
  generalize decide (pq < 0) = npq at *
  generalize dg pg.natAbs = Dpg at *
  generalize decide (pg < 0) = npg at *
  generalize dg pT.natAbs = DpT at *
  generalize decide (pT < 0) = npT at *
  generalize dg pD.natAbs = DpD at *
  generalize decide (pD < 0) = npD at *
  obtain ⟨SV, hSV⟩ : ∃ v, sumV A (x1, y1, e1) (x2, y2, e2) = v := ⟨_, rfl⟩
  rw [hSV]
  have HSV := Lib.hid hSV
  clear hSV
  go_enter Tryz.func80, Tryz.ntmps80
  go_upto_region 5 with fail
  refine name_world (fun W1 hW1 => ?_)
  have Bc : Box W1 (w.heap.size) [.int .i64 A, .int .i64 B] := by subst hW1; exact box_two (by first | omega | (simp; done) | (simp; omega)) (by simp [go_sem]) (by simp [go_sem]) (fun o => by simp [go_sem])
  have BP : Box W1 (w.heap.size + 1) [.int .i64 x1, .int .i64 y1, .int .i64 e1] := by subst hW1; exact box_three (by first | omega | (simp; done) | (simp; omega)) (by simp [go_sem]) (by simp [go_sem]) (by simp [go_sem]) (fun o => by simp [go_sem])
  have BQ : Box W1 (w.heap.size + 1 + 1) [.int .i64 x2, .int .i64 y2, .int .i64 e2] := by subst hW1; exact box_three (by first | omega | (simp; done) | (simp; omega)) (by simp [go_sem]) (by simp [go_sem]) (by simp [go_sem]) (fun o => by simp [go_sem])
  have BR : Box W1 (w.heap.size + 1 + 1 + 1) [.int .i64 0, .int .i64 0, .int .i64 0] := by subst hW1; exact box_three (by first | omega | (simp; done) | (simp; omega)) (by simp [go_sem]) (by simp [go_sem]) (by simp [go_sem]) (fun o => by simp [go_sem])
  have hB : Below w.heap.size w W1 := by subst hW1; exact gr
  clear hW1
  have hl_c := Bc.1; have hl_P := BP.1; have hl_Q := BQ.1; have hl_R := BR.1
  go_cut [31] (fun s31 wx => s31 = .bool false ∧ Below W1.heap.size W1 wx)
  case first =>
    have z0 := BP.2.1 0 _ rfl; have z1 := BP.2.1 1 _ rfl; have z2 := BP.2.1 2 _ rfl; have y0 := BQ.2.1 0 _ rfl; have yy1 := BQ.2.1 1 _ rfl; have yy2 := BQ.2.1 2 _ rfl
    clear Cpa Cpb Cpm Cpe Cpc Cpd Cpn Cpt Cps Cpq Cpg CpT CpD CTI CSQ CGC HS HGC HV HIT HMI
    rcases (show (¬ x1 = x2) ∨ (x1 = x2 ∧ ¬ y1 = -y2) ∨ (x1 = x2 ∧ y1 = -y2 ∧ ¬ e1 = e2) by have := HNO.out; omega) with g | ⟨g0, g⟩ | ⟨g0, g1, g⟩
    · have q : (x1 == x2) = false := by simpa using g
      go_region_held3 (fun w' => Below W1.heap.size W1 w' ∧ w'.cell? ⟨w.heap.size + 1, 0, none⟩ = some (.int .i64 x1) ∧ w'.cell? ⟨w.heap.size + 1, 1, none⟩ = some (.int .i64 y1) ∧ w'.cell? ⟨w.heap.size + 1, 2, none⟩ = some (.int .i64 e1) ∧ w'.cell? ⟨w.heap.size + 1 + 1, 0, none⟩ = some (.int .i64 x2) ∧ w'.cell? ⟨w.heap.size + 1 + 1, 1, none⟩ = some (.int .i64 y2) ∧ w'.cell? ⟨w.heap.size + 1 + 1, 2, none⟩ = some (.int .i64 e2)) ((refine (fun hbK => And.intro hbK (by exact ⟨(hbK.cell (p := ⟨w.heap.size + 1, 0, none⟩) (by first | assumption | omega | (simp; omega))).trans z0, (hbK.cell (p := ⟨w.heap.size + 1, 1, none⟩) (by first | assumption | omega | (simp; omega))).trans z1, (hbK.cell (p := ⟨w.heap.size + 1, 2, none⟩) (by first | assumption | omega | (simp; omega))).trans z2, (hbK.cell (p := ⟨w.heap.size + 1 + 1, 0, none⟩) (by first | assumption | omega | (simp; omega))).trans y0, (hbK.cell (p := ⟨w.heap.size + 1 + 1, 1, none⟩) (by first | assumption | omega | (simp; omega))).trans yy1, (hbK.cell (p := ⟨w.heap.size + 1 + 1, 2, none⟩) (by first | assumption | omega | (simp; omega))).trans yy2⟩)) ?_; repeat' (first | (with_reducible first | exact bq1 _ _ | assumption | refine bq2 ?_ ?_ _ | refine bq3 ?_ ?_ _ | refine bq4 ?_ | refine bq5 ?_ _) | (apply bthen2; (with_reducible assumption)) | go_size))) ((first | (go_at_call 113; refine (HO.out _).mono ?_; rintro e wf ⟨rfl, hbf⟩)))
      all_goals (go_wp2_with fail; go_meet; exact ⟨rfl, gr⟩)
    · have q : (y1 == -y2) = false := by simpa using g
      subst g0
      go_region_held3 (fun w' => Below W1.heap.size W1 w' ∧ w'.cell? ⟨w.heap.size + 1, 0, none⟩ = some (.int .i64 x1) ∧ w'.cell? ⟨w.heap.size + 1, 1, none⟩ = some (.int .i64 y1) ∧ w'.cell? ⟨w.heap.size + 1, 2, none⟩ = some (.int .i64 e1) ∧ w'.cell? ⟨w.heap.size + 1 + 1, 0, none⟩ = some (.int .i64 x1) ∧ w'.cell? ⟨w.heap.size + 1 + 1, 1, none⟩ = some (.int .i64 y2) ∧ w'.cell? ⟨w.heap.size + 1 + 1, 2, none⟩ = some (.int .i64 e2)) ((refine (fun hbK => And.intro hbK (by exact ⟨(hbK.cell (p := ⟨w.heap.size + 1, 0, none⟩) (by first | assumption | omega | (simp; omega))).trans z0, (hbK.cell (p := ⟨w.heap.size + 1, 1, none⟩) (by first | assumption | omega | (simp; omega))).trans z1, (hbK.cell (p := ⟨w.heap.size + 1, 2, none⟩) (by first | assumption | omega | (simp; omega))).trans z2, (hbK.cell (p := ⟨w.heap.size + 1 + 1, 0, none⟩) (by first | assumption | omega | (simp; omega))).trans y0, (hbK.cell (p := ⟨w.heap.size + 1 + 1, 1, none⟩) (by first | assumption | omega | (simp; omega))).trans yy1, (hbK.cell (p := ⟨w.heap.size + 1 + 1, 2, none⟩) (by first | assumption | omega | (simp; omega))).trans yy2⟩)) ?_; repeat' (first | (with_reducible first | exact bq1 _ _ | assumption | refine bq2 ?_ ?_ _ | refine bq3 ?_ ?_ _ | refine bq4 ?_ | refine bq5 ?_ _) | (apply bthen2; (with_reducible assumption)) | go_size))) ((first | (go_at_call 113; refine (HO.out _).mono ?_; rintro e wf ⟨rfl, hbf⟩)))
      all_goals (go_wp2_with fail; go_meet; exact ⟨rfl, gr⟩)
    · have q : (e1 == e2) = false := by simpa using g
      subst g0; subst g1
      go_region_held3 (fun w' => Below W1.heap.size W1 w' ∧ w'.cell? ⟨w.heap.size + 1, 0, none⟩ = some (.int .i64 x1) ∧ w'.cell? ⟨w.heap.size + 1, 1, none⟩ = some (.int .i64 (-y2)) ∧ w'.cell? ⟨w.heap.size + 1, 2, none⟩ = some (.int .i64 e1) ∧ w'.cell? ⟨w.heap.size + 1 + 1, 0, none⟩ = some (.int .i64 x1) ∧ w'.cell? ⟨w.heap.size + 1 + 1, 1, none⟩ = some (.int .i64 y2) ∧ w'.cell? ⟨w.heap.size + 1 + 1, 2, none⟩ = some (.int .i64 e2)) ((refine (fun hbK => And.intro hbK (by exact ⟨(hbK.cell (p := ⟨w.heap.size + 1, 0, none⟩) (by first | assumption | omega | (simp; omega))).trans z0, (hbK.cell (p := ⟨w.heap.size + 1, 1, none⟩) (by first | assumption | omega | (simp; omega))).trans z1, (hbK.cell (p := ⟨w.heap.size + 1, 2, none⟩) (by first | assumption | omega | (simp; omega))).trans z2, (hbK.cell (p := ⟨w.heap.size + 1 + 1, 0, none⟩) (by first | assumption | omega | (simp; omega))).trans y0, (hbK.cell (p := ⟨w.heap.size + 1 + 1, 1, none⟩) (by first | assumption | omega | (simp; omega))).trans yy1, (hbK.cell (p := ⟨w.heap.size + 1 + 1, 2, none⟩) (by first | assumption | omega | (simp; omega))).trans yy2⟩)) ?_; repeat' (first | (with_reducible first | exact bq1 _ _ | assumption | refine bq2 ?_ ?_ _ | refine bq3 ?_ ?_ _ | refine bq4 ?_ | refine bq5 ?_ _) | (apply bthen2; (with_reducible assumption)) | go_size))) ((first | (go_at_call 113; refine (HO.out _).mono ?_; rintro e wf ⟨rfl, hbf⟩)))
      all_goals (go_wp2_with fail; go_meet; exact ⟨rfl, gr⟩)
  case rest =>
  obtain ⟨rfl, hb⟩ := hcut
  obtain ⟨W2, hW⟩ : ∃ x, x = wc := ⟨_, rfl⟩
  subst hW
  clear HNO HO
  have BcW2 := Bc.below hb
  have BPW2 := BP.below hb
  have BQW2 := BQ.below hb
  have BRW2 := BR.below hb
  have hB := hB.trans (hb.mono hB.size)
  clear Bc BP BQ BR hb
  replace hl_c := BcW2.1
  replace hl_P := BPW2.1
  replace hl_Q := BQW2.1
  replace hl_R := BRW2.1
  have ec0 := BcW2.2.1 0 _ rfl
  have ec1 := BcW2.2.1 1 _ rfl
  have ecf := BcW2.2.2
  have eP0 := BPW2.2.1 0 _ rfl
  have eP1 := BPW2.2.1 1 _ rfl
  have eP2 := BPW2.2.1 2 _ rfl
  have ePf := BPW2.2.2
  have eQ0 := BQW2.2.1 0 _ rfl
  have eQ1 := BQW2.2.1 1 _ rfl
  have eQ2 := BQW2.2.1 2 _ rfl
  have eQf := BQW2.2.2
  have kG : (G == 0) = false := by simp; omega
  have kG2 : ¬ G = 0 := by omega
  have rN1 : -9223372036854775808 ≤ N.tdiv G := by omega
  have rN2 : N.tdiv G ≤ 9223372036854775807 := by omega
  have rM1 : -9223372036854775808 ≤ M.tdiv G := by omega
  have rM2 : M.tdiv G ≤ 9223372036854775807 := by omega
  go_wp2_with fail
  refine (HS.out _).mono ?_
  rintro e wa ⟨rfl, hba⟩
  go_wp2_with fail
  refine (HGC.out _).mono ?_
  rintro e wb ⟨rfl, hbb⟩
  go_wp2_with fail
  go_quiet (fail)
  go_upto_region 10 with fail
  (try simp only [hn, hm])
  refine name_world (fun W3 hW3 => ?_)
  have hb3 : Below W2.heap.size W2 W3 := by subst hW3; repeat' (first | (with_reducible first | exact bq1 _ _ | assumption | refine bq2 ?_ ?_ _ | refine bq3 ?_ ?_ _ | refine bq4 ?_ | refine bq5 ?_ _) | (apply bthen2; (with_reducible assumption)) | go_size)
  clear hW3 hba hbb HS HGC kG kG2 rN1 rN2 rM1 rM2 hn hm hG
  clear ec0 ec1 eP0 eP1 eP2 eQ0 eQ1 eQ2 ecf ePf eQf
  have BcW3 := BcW2.below hb3
  have BPW3 := BPW2.below hb3
  have BQW3 := BQW2.below hb3
  have BRW3 := BRW2.below hb3
  have hB := hB.trans (hb3.mono hB.size)
  clear BcW2 BPW2 BQW2 BRW2 hb3
  replace hl_c := BcW3.1
  replace hl_P := BPW3.1
  replace hl_Q := BQW3.1
  replace hl_R := BRW3.1
  go_cut [11] (fun s11 wx => ∃ (bn : Nat) (a : Option Addr) (l c : Nat), s11 = .pointer (some ⟨bn, 0, none⟩) ∧ Box wx bn [.bool npm, .slice a l c] ∧ Ints wx (.slice a l c) Dpm ∧ W3.heap.size ≤ bn ∧ Below W3.heap.size W3 wx)
  case first =>
    have tok1 := True.intro
    go_wp2_with fail
    ((try simp only [IntWalk.i64_left]); go_at_call 116; clear tok1; refine (Cpa.out _).mono ?_; rintro e u1 ⟨apa_, lpa_, cpa_, rfl, opa, hb1⟩; have hz1 := hb1.size; (try simp only [wz1, wz2, wz3, wz4] at hz1); have ipa := opa.ints; (try (have qB := Box.below (by first | (with_reducible exact box_made2 _ _ _ _) | (with_reducible assumption) | (with_reducible exact Box.alloc (box_made2 _ _ _ _) _) | (have hq := qB; exact hq.alloc _)) hb1; (try simp only [World.size_alloc, World.size_drew, World.heap_drewN] at qB); have qB0 := qB.2.1 0 _ rfl; have qB1 := qB.2.1 1 _ rfl; have qBf := qB.2.2)); obtain ⟨loz, hiz, sgz, hlz, hhz⟩ := Own.segL opa; (try simp only [wz1, wz2, wz3, wz4] at hlz))
    have tok2 := True.intro
    go_wp2_with fail
    ((try simp only [IntWalk.i64_left]); go_at_call 116; clear tok2; refine (Cpb.out _).mono ?_; rintro e u2 ⟨apb_, lpb_, cpb_, rfl, opb, hb2⟩; have hz2 := hb2.size; (try simp only [wz1, wz2, wz3, wz4] at hz2); have ipb := opb.ints; (try (have qB := Box.below (by first | (with_reducible exact box_made2 _ _ _ _) | (with_reducible assumption) | (with_reducible exact Box.alloc (box_made2 _ _ _ _) _) | (have hq := qB; exact hq.alloc _)) hb2; (try simp only [World.size_alloc, World.size_drew, World.heap_drewN] at qB); have qB0 := qB.2.1 0 _ rfl; have qB1 := qB.2.1 1 _ rfl; have qBf := qB.2.2)); obtain ⟨loz, hiz, sgz, hlz, hhz⟩ := Own.segL opb; (try simp only [wz1, wz2, wz3, wz4] at hlz))
    have tok3 := True.intro
    go_wp2_with fail
    (go_at_call 115; clear tok3; refine (Cpm.out _ _ _ _ _ _ _ ?_ ?_).mono ?_; (focus (exact (by refine Ints.below ipa ?_; repeat' (first | (with_reducible first | exact bq1 _ _ | assumption | refine bq2 ?_ ?_ _ | refine bq3 ?_ ?_ _ | refine bq4 ?_ | refine bq5 ?_ _) | (apply bthen2; (with_reducible assumption)) | go_size)))); (focus (exact (by refine Ints.below ipb ?_; repeat' (first | (with_reducible first | exact bq1 _ _ | assumption | refine bq2 ?_ ?_ _ | refine bq3 ?_ ?_ _ | refine bq4 ?_ | refine bq5 ?_ _) | (apply bthen2; (with_reducible assumption)) | go_size)))); rintro e u3 ⟨apm_, lpm_, cpm_, rfl, opm, hb3⟩; have hz3 := hb3.size; (try simp only [wz1, wz2, wz3, wz4] at hz3); have ipm := opm.ints; (try (have qB := Box.below (by first | (with_reducible exact box_made2 _ _ _ _) | (with_reducible assumption) | (with_reducible exact Box.alloc (box_made2 _ _ _ _) _) | (have hq := qB; exact hq.alloc _)) hb3; (try simp only [World.size_alloc, World.size_drew, World.heap_drewN] at qB); have qB0 := qB.2.1 0 _ rfl; have qB1 := qB.2.1 1 _ rfl; have qBf := qB.2.2)); obtain ⟨loz, hiz, sgz, hlz, hhz⟩ := Own.segL opm; (try simp only [wz1, wz2, wz3, wz4] at hlz))
    all_goals (go_wp2_with fail; go_meet; exact ⟨_, apm_, lpm_, cpm_, rfl, (by first | (with_reducible exact box_made2 _ _ _ _) | (exact Box.set (Box.set (vs := [_, _]) (by first | assumption | exact box_made2 _ _ _ _) 0 (by simp) _) 1 (by simp) _)), Seg.ints (lo := loz) (hi := hiz) (by (repeat' (first | (with_reducible first | assumption | refine Seg.set ?_ ?_ _ | refine Seg.alloc ?_ _ | refine Seg.drew ?_))); all_goals (first | omega | (simp; done) | (simp; omega))), (by first | omega | (simp; done) | (simp; omega)), gr⟩)
  case rest =>
  obtain ⟨b_pm, apm_, lpm_, cpm_, rfl, Bn4, In4, hn4, hb⟩ := hcut
  have hq_c_pm : w.heap.size < b_pm := by omega
  have hq_P_pm : w.heap.size + 1 < b_pm := by omega
  have hq_Q_pm : w.heap.size + 1 + 1 < b_pm := by omega
  have hq_R_pm : w.heap.size + 1 + 1 + 1 < b_pm := by omega
  obtain ⟨W5, hW⟩ : ∃ x, x = wc := ⟨_, rfl⟩
  subst hW
  have BcW5 := BcW3.below hb
  have BPW5 := BPW3.below hb
  have BQW5 := BQW3.below hb
  have BRW5 := BRW3.below hb
  have hB := hB.trans (hb.mono hB.size)
  clear BcW3 BPW3 BQW3 BRW3 hb
  replace hl_c := BcW5.1
  replace hl_P := BPW5.1
  replace hl_Q := BQW5.1
  replace hl_R := BRW5.1
  have hl_pm := Bn4.1
  go_upto_region 11 with fail
  go_cut [12] (fun s12 wx => ∃ (bn : Nat) (a : Option Addr) (l c : Nat), s12 = .pointer (some ⟨bn, 0, none⟩) ∧ Box wx bn [.bool npe, .slice a l c] ∧ Ints wx (.slice a l c) Dpe ∧ W5.heap.size ≤ bn ∧ Below W5.heap.size W5 wx)
  case first =>
    have eP0 := BPW5.2.1 0 _ rfl
    have eP1 := BPW5.2.1 1 _ rfl
    have eP2 := BPW5.2.1 2 _ rfl
    have ePf := BPW5.2.2
    have ePl := BPW5.1
    have eQ0 := BQW5.2.1 0 _ rfl
    have eQ1 := BQW5.2.1 1 _ rfl
    have eQ2 := BQW5.2.1 2 _ rfl
    have eQf := BQW5.2.2
    have eQl := BQW5.1
    have tok1 := True.intro
    go_wp2_with fail
    ((try simp only [IntWalk.i64_left, kwpe]); go_at_call 116; clear tok1; refine (Cpe.out _).mono ?_; rintro e u1 ⟨ape_, lpe_, cpe_, rfl, ope, hb1⟩; have hz1 := hb1.size; (try simp only [wz1, wz2, wz3, wz4] at hz1); have ipe := ope.ints; (try (have qB := Box.below (by first | (with_reducible exact box_made2 _ _ _ _) | (with_reducible assumption) | (with_reducible exact Box.alloc (box_made2 _ _ _ _) _) | (have hq := qB; exact hq.alloc _)) hb1; (try simp only [World.size_alloc, World.size_drew, World.heap_drewN] at qB); have qB0 := qB.2.1 0 _ rfl; have qB1 := qB.2.1 1 _ rfl; have qBf := qB.2.2)); obtain ⟨loz, hiz, sgz, hlz, hhz⟩ := Own.segL ope; (try simp only [wz1, wz2, wz3, wz4] at hlz))
    have PP1 := Box.below (show Box _ (w.heap.size + 1) [.int .i64 x1, .int .i64 y1, .int .i64 e1] from qa5) hb1
    have PQ1 := Box.below (show Box _ (w.heap.size + 1 + 1) [.int .i64 x2, .int .i64 y2, .int .i64 e2] from qa5) hb1
    clear eP0 eP1 eP2 ePf ePl eQ0 eQ1 eQ2 eQf eQl
    have eP0 := PP1.2.1 0 _ rfl
    have eP1 := PP1.2.1 1 _ rfl
    have eP2 := PP1.2.1 2 _ rfl
    have ePf := PP1.2.2
    have ePl := PP1.1
    have eQ0 := PQ1.2.1 0 _ rfl
    have eQ1 := PQ1.2.1 1 _ rfl
    have eQ2 := PQ1.2.1 2 _ rfl
    have eQf := PQ1.2.2
    have eQl := PQ1.1
    all_goals (go_wp2_with fail; go_meet; exact ⟨_, ape_, lpe_, cpe_, rfl, (by first | (with_reducible exact box_made2 _ _ _ _) | (exact Box.set (Box.set (vs := [_, _]) (by first | assumption | exact box_made2 _ _ _ _) 0 (by simp) _) 1 (by simp) _)), Seg.ints (lo := loz) (hi := hiz) (by (repeat' (first | (with_reducible first | assumption | refine Seg.set ?_ ?_ _ | refine Seg.alloc ?_ _ | refine Seg.drew ?_))); all_goals (first | omega | (simp; done) | (simp; omega))), (by first | omega | (simp; done) | (simp; omega)), gr⟩)
  case rest =>
  obtain ⟨b_pe, ape_, lpe_, cpe_, rfl, Bn5, In5, hn5, hb⟩ := hcut
  have hq_c_pe : w.heap.size < b_pe := by omega
  have hq_P_pe : w.heap.size + 1 < b_pe := by omega
  have hq_Q_pe : w.heap.size + 1 + 1 < b_pe := by omega
  have hq_R_pe : w.heap.size + 1 + 1 + 1 < b_pe := by omega
  have hq_pm_pe : b_pm < b_pe := by omega
  obtain ⟨W6, hW⟩ : ∃ x, x = wc := ⟨_, rfl⟩
  subst hW
  have BcW6 := BcW5.below hb
  have BPW6 := BPW5.below hb
  have BQW6 := BQW5.below hb
  have BRW6 := BRW5.below hb
  have BpmW6 := Bn4.below hb
  have IpmW6 := In4.below hb
  have hB := hB.trans (hb.mono hB.size)
  clear BcW5 BPW5 BQW5 BRW5 Bn4 In4 hb
  replace hl_c := BcW6.1
  replace hl_P := BPW6.1
  replace hl_Q := BQW6.1
  replace hl_R := BRW6.1
  replace hl_pm := BpmW6.1
  have hl_pe := Bn5.1
  go_upto_region 12 with fail
  go_cut [13] (fun s13 wx => ∃ (bn : Nat) (a : Option Addr) (l c : Nat), s13 = .pointer (some ⟨bn, 0, none⟩) ∧ Box wx bn [.bool npt, .slice a l c] ∧ Ints wx (.slice a l c) Dpt ∧ W6.heap.size ≤ bn ∧ Below W6.heap.size W6 wx)
  case first =>
    have HBcW6 := Lib.hid BcW6
    have HBPW6 := Lib.hid BPW6
    have HBQW6 := Lib.hid BQW6
    have HBRW6 := Lib.hid BRW6
    have HBpmW6 := Lib.hid BpmW6
    have HBn5 := Lib.hid Bn5
    clear BcW6 BPW6 BQW6 BRW6 BpmW6 Bn5
    have tok1 := True.intro
    have tok2 := True.intro
    have tok3 := True.intro
    have tok4 := True.intro
    go_region_held3 (fun w' => Below W6.heap.size W6 w' ∧ w'.cell? ⟨b_pe, 0, none⟩ = some (.bool npe) ∧ w'.cell? ⟨b_pe, 1, none⟩ = some (.slice ape_ lpe_ cpe_)) ((refine (fun hK => And.intro hK (by exact ⟨(hK.cell (p := ⟨b_pe, 0, none⟩) HBn5.out.1).trans (HBn5.out.2.1 0 _ rfl), (hK.cell (p := ⟨b_pe, 1, none⟩) HBn5.out.1).trans (HBn5.out.2.1 1 _ rfl)⟩)) ?_; repeat' (first | (with_reducible first | exact bq1 _ _ | assumption | refine bq2 ?_ ?_ _ | refine bq3 ?_ ?_ _ | refine bq4 ?_ | refine bq5 ?_ _) | (apply bthen2; (with_reducible assumption)) | go_size))) ((first | ((try simp only [IntWalk.i64_left]); go_at_call 116; clear tok1; refine (Cpc.out _).mono ?_; rintro e u1 ⟨apc_, lpc_, cpc_, rfl, opc, hb1⟩; have hz1 := hb1.size; (try simp only [wz1, wz2, wz3, wz4] at hz1); have ipc := opc.ints; (first | (have q_ := g1; clear q_; (try (first | (have q_ := Box.below g1 hb1) | (with_reducible first | have q_ := Box.below (Box.alloc g1 _) hb1 | have q_ := Box.below (Box.alloc (Box.alloc g1 _) _) hb1)); clear g1; have g1 := q_; clear q_)) | (with_reducible have g1 := Box.below (Box.drew (Box.alloc (box_made2 _ _ _ _) _)) hb1; (try simp only [World.size_alloc, World.size_drew, World.heap_drewN] at g1)) | (with_reducible have g1 := Box.below (Box.drew (box_made2 _ _ _ _)) hb1; (try simp only [World.size_alloc, World.size_drew, World.heap_drewN] at g1)) | skip); (try (have g1a := g1.2.1 0 _ rfl; have g1b := g1.2.1 1 _ rfl; have g1c := g1.2.2; have g1d := g1.1))) | ((try simp only [IntWalk.i64_left]); go_at_call 116; clear tok2; refine (Cpd.out _).mono ?_; rintro e u2 ⟨apd_, lpd_, cpd_, rfl, opd, hb2⟩; have hz2 := hb2.size; (try simp only [wz1, wz2, wz3, wz4] at hz2); have ipd := opd.ints; (first | (have q_ := g1; clear q_; (try (first | (have q_ := Box.below g1 hb2) | (with_reducible first | have q_ := Box.below (Box.alloc g1 _) hb2 | have q_ := Box.below (Box.alloc (Box.alloc g1 _) _) hb2)); clear g1; have g1 := q_; clear q_)) | (with_reducible have g1 := Box.below (Box.alloc (box_made2 _ _ _ _) _) hb2; (try simp only [World.size_alloc, World.size_drew, World.heap_drewN] at g1)) | (with_reducible have g1 := Box.below (box_made2 _ _ _ _) hb2; (try simp only [World.size_alloc, World.size_drew, World.heap_drewN] at g1)) | skip); (try (have g1a := g1.2.1 0 _ rfl; have g1b := g1.2.1 1 _ rfl; have g1c := g1.2.2; have g1d := g1.1))) | (go_at_call 115; clear tok3; refine (Cpn.out _ _ _ _ _ _ _ ?_ ?_).mono ?_; (focus (exact (by refine Ints.below ipc ?_; repeat' (first | (with_reducible first | exact bq1 _ _ | assumption | refine bq2 ?_ ?_ _ | refine bq3 ?_ ?_ _ | refine bq4 ?_ | refine bq5 ?_ _) | (apply bthen2; (with_reducible assumption)) | go_size)))); (focus (exact (by refine Ints.below ipd ?_; repeat' (first | (with_reducible first | exact bq1 _ _ | assumption | refine bq2 ?_ ?_ _ | refine bq3 ?_ ?_ _ | refine bq4 ?_ | refine bq5 ?_ _) | (apply bthen2; (with_reducible assumption)) | go_size)))); rintro e u3 ⟨apn_, lpn_, cpn_, rfl, opn, hb3⟩; have hz3 := hb3.size; (try simp only [wz1, wz2, wz3, wz4] at hz3); have ipn := opn.ints; (first | (have q_ := g1; clear q_; (try (first | (have q_ := Box.below g1 hb3) | (with_reducible first | have q_ := Box.below (Box.alloc g1 _) hb3 | have q_ := Box.below (Box.alloc (Box.alloc g1 _) _) hb3)); clear g1; have g1 := q_; clear q_)) | (with_reducible have g1 := Box.below (Box.alloc (box_made2 _ _ _ _) _) hb3; (try simp only [World.size_alloc, World.size_drew, World.heap_drewN] at g1)) | (with_reducible have g1 := Box.below (box_made2 _ _ _ _) hb3; (try simp only [World.size_alloc, World.size_drew, World.heap_drewN] at g1)) | skip); (try (have g1a := g1.2.1 0 _ rfl; have g1b := g1.2.1 1 _ rfl; have g1c := g1.2.2; have g1d := g1.1))) | (go_at_call 115; clear tok4; refine (Cpt.out _ _ _ _ _ _ _ ?_ ?_).mono ?_; (focus (exact (by refine Ints.below ipn ?_; repeat' (first | (with_reducible first | exact bq1 _ _ | assumption | refine bq2 ?_ ?_ _ | refine bq3 ?_ ?_ _ | refine bq4 ?_ | refine bq5 ?_ _) | (apply bthen2; (with_reducible assumption)) | go_size)))); (focus (exact (by refine Ints.below In5 ?_; repeat' (first | (with_reducible first | exact bq1 _ _ | assumption | refine bq2 ?_ ?_ _ | refine bq3 ?_ ?_ _ | refine bq4 ?_ | refine bq5 ?_ _) | (apply bthen2; (with_reducible assumption)) | go_size)))); rintro e u4 ⟨apt_, lpt_, cpt_, rfl, opt, hb4⟩; have hz4 := hb4.size; (try simp only [wz1, wz2, wz3, wz4] at hz4); have ipt := opt.ints; (first | (have q_ := g1; clear q_; (try (first | (have q_ := Box.below g1 hb4) | (with_reducible first | have q_ := Box.below (Box.alloc g1 _) hb4 | have q_ := Box.below (Box.alloc (Box.alloc g1 _) _) hb4)); clear g1; have g1 := q_; clear q_)) | (with_reducible have g1 := Box.below (Box.alloc (box_made2 _ _ _ _) _) hb4; (try simp only [World.size_alloc, World.size_drew, World.heap_drewN] at g1)) | (with_reducible have g1 := Box.below (box_made2 _ _ _ _) hb4; (try simp only [World.size_alloc, World.size_drew, World.heap_drewN] at g1)) | skip); (try (have g1a := g1.2.1 0 _ rfl; have g1b := g1.2.1 1 _ rfl; have g1c := g1.2.2; have g1d := g1.1)))))
    all_goals (go_wp2_with fail; go_meet; first | (with_reducible refine ⟨_, apt_, lpt_, cpt_, rfl, fresh_leafA ?_ ?_ ?_⟩; (focus (first | omega | (simp; done) | (simp; omega))); (focus (refine Ints.below ipt ?_; repeat' (first | (with_reducible first | exact bq1 _ _ | assumption | refine bq2 ?_ ?_ _ | refine bq3 ?_ ?_ _ | refine bq4 ?_ | refine bq5 ?_ _) | (apply bthen2; (with_reducible assumption)) | go_size))); (focus (repeat' (first | (with_reducible first | exact bq1 _ _ | assumption | refine bq2 ?_ ?_ _ | refine bq3 ?_ ?_ _ | refine bq4 ?_ | refine bq5 ?_ _) | (apply bthen2; (with_reducible assumption)) | go_size)))) | (with_reducible refine ⟨_, apt_, lpt_, cpt_, rfl, fresh_leaf ?_ ?_ ?_ ?_⟩; (focus (first | omega | (simp; done) | (simp; omega))); (focus (refine Ints.below ipt ?_; repeat' (first | (with_reducible first | exact bq1 _ _ | assumption | refine bq2 ?_ ?_ _ | refine bq3 ?_ ?_ _ | refine bq4 ?_ | refine bq5 ?_ _) | (apply bthen2; (with_reducible assumption)) | go_size))); (focus (repeat' (first | (with_reducible first | exact bq1 _ _ | assumption | refine bq2 ?_ ?_ _ | refine bq3 ?_ ?_ _ | refine bq4 ?_ | refine bq5 ?_ _) | (apply bthen2; (with_reducible assumption)) | go_size))); (focus ((repeat' (first | (with_reducible first | assumption | exact box_made2 _ _ _ _) | (refine box_made2' _ _ _ _ (by first | rfl | (simp; done))) | (with_reducible first | refine Box.alloc ?_ _ | refine Box.drew ?_)))))))
  case rest =>
  obtain ⟨b_pt, apt_, lpt_, cpt_, rfl, Bn6, In6, hn6, hb⟩ := hcut
  have hq_c_pt : w.heap.size < b_pt := by omega
  have hq_P_pt : w.heap.size + 1 < b_pt := by omega
  have hq_Q_pt : w.heap.size + 1 + 1 < b_pt := by omega
  have hq_R_pt : w.heap.size + 1 + 1 + 1 < b_pt := by omega
  have hq_pm_pt : b_pm < b_pt := by omega
  have hq_pe_pt : b_pe < b_pt := by omega
  obtain ⟨W7, hW⟩ : ∃ x, x = wc := ⟨_, rfl⟩
  subst hW
  have BcW7 := BcW6.below hb
  have BPW7 := BPW6.below hb
  have BQW7 := BQW6.below hb
  have BRW7 := BRW6.below hb
  have BpmW7 := BpmW6.below hb
  have BpeW7 := Bn5.below hb
  have IpmW7 := IpmW6.below hb
  have IpeW7 := In5.below hb
  have hB := hB.trans (hb.mono hB.size)
  clear BcW6 BPW6 BQW6 BRW6 BpmW6 Bn5 IpmW6 In5 hb
  replace hl_c := BcW7.1
  replace hl_P := BPW7.1
  replace hl_Q := BQW7.1
  replace hl_R := BRW7.1
  replace hl_pm := BpmW7.1
  replace hl_pe := BpeW7.1
  have hl_pt := Bn6.1
  go_upto_region 13 with fail
  go_cut [] (fun wx => ∃ (W0 : World) (a : Option Addr) (l c : Nat), Below W7.heap.size W7 W0 ∧ Ints W0 (.slice a l c) DpT ∧ wx = sto W0 (b_pt) npT (.slice a l c))
  case first =>
    have tok1 := True.intro
    have tok2 := True.intro
    have tok3 := True.intro
    have tok4 := True.intro
    have qT := Bn6
    have qT0 := qT.2.1 0 _ rfl
    have qT1 := qT.2.1 1 _ rfl
    have qTf := qT.2.2
    have qTl := qT.1
    refine wp_region_x (fun w' => Below W7.heap.size W7 w' ∧ w'.cell? ⟨b_pm, 0, none⟩ = some (.bool npm) ∧ w'.cell? ⟨b_pm, 1, none⟩ = some (.slice apm_ lpm_ cpm_) ∧ w'.cell? ⟨w.heap.size + 1, 0, none⟩ = some (.int .i64 x1) ∧ w'.cell? ⟨w.heap.size + 1, 1, none⟩ = some (.int .i64 y1) ∧ w'.cell? ⟨w.heap.size + 1, 2, none⟩ = some (.int .i64 e1) ∧ w'.cell? ⟨w.heap.size + 1 + 1, 0, none⟩ = some (.int .i64 x2) ∧ w'.cell? ⟨w.heap.size + 1 + 1, 1, none⟩ = some (.int .i64 y2) ∧ w'.cell? ⟨w.heap.size + 1 + 1, 2, none⟩ = some (.int .i64 e2) ∧ w'.cell? ⟨b_pt, 0, none⟩ = some (.bool npt) ∧ w'.cell? ⟨b_pt, 1, none⟩ = some (.slice apt_ lpt_ cpt_)) (fun i => decide (i < 23)) (by kernel_rfl) ?_ (fun hHeld => ?_)
    focus ((try dsimp only); (refine (fun hbK => And.intro hbK (by exact ⟨(hbK.cell (p := ⟨b_pm, 0, none⟩) BpmW7.1).trans (BpmW7.2.1 0 _ rfl), (hbK.cell (p := ⟨b_pm, 1, none⟩) BpmW7.1).trans (BpmW7.2.1 1 _ rfl), (hbK.cell (p := ⟨w.heap.size + 1, 0, none⟩) BPW7.1).trans (BPW7.2.1 0 _ rfl), (hbK.cell (p := ⟨w.heap.size + 1, 1, none⟩) BPW7.1).trans (BPW7.2.1 1 _ rfl), (hbK.cell (p := ⟨w.heap.size + 1, 2, none⟩) BPW7.1).trans (BPW7.2.1 2 _ rfl), (hbK.cell (p := ⟨w.heap.size + 1 + 1, 0, none⟩) BQW7.1).trans (BQW7.2.1 0 _ rfl), (hbK.cell (p := ⟨w.heap.size + 1 + 1, 1, none⟩) BQW7.1).trans (BQW7.2.1 1 _ rfl), (hbK.cell (p := ⟨w.heap.size + 1 + 1, 2, none⟩) BQW7.1).trans (BQW7.2.1 2 _ rfl), (hbK.cell (p := ⟨b_pt, 0, none⟩) Bn6.1).trans (Bn6.2.1 0 _ rfl), (hbK.cell (p := ⟨b_pt, 1, none⟩) Bn6.1).trans (Bn6.2.1 1 _ rfl)⟩)) ?_; repeat' (first | (with_reducible first | exact bq1 _ _ | assumption | refine bq2 ?_ ?_ _ | refine bq3 ?_ ?_ _ | refine bq4 ?_ | refine bq5 ?_ _) | (apply bthen2; (with_reducible assumption)) | go_size)))
    refine wtk (v := ?_) 0 rfl ?_ (by assumption) ?_
    rotate_left
    focus (intro w hSw; (try dsimp only at hSw); go_simp; (try with_reducible rfl))
    (try simp only [Act.put, wz5, wz6, wz7])
    refine wtk (v := ?_) 1 rfl ?_ (by assumption) ?_
    rotate_left
    focus (intro w hSw; (try dsimp only at hSw); go_simp; (try with_reducible rfl))
    (try simp only [Act.put, wz5, wz6, wz7])
    refine wtk (v := ?_) 2 rfl ?_ (by assumption) ?_
    rotate_left
    focus (intro w hSw; (try dsimp only at hSw); go_simp; (try with_reducible rfl))
    (try simp only [Act.put, wz5, wz6, wz7])
    refine wtk (v := ?_) 3 rfl ?_ (by assumption) ?_
    rotate_left
    focus (intro w hSw; (try dsimp only at hSw); go_simp; (try with_reducible rfl))
    (try simp only [Act.put, wz5, wz6, wz7])
    refine wtk (v := ?_) 4 rfl ?_ (by assumption) ?_
    rotate_left
    focus (intro w hSw; (try dsimp only at hSw); go_simp; (try with_reducible rfl))
    (try simp only [Act.put, wz5, wz6, wz7])
    refine wtk (v := ?_) 5 rfl ?_ (by assumption) ?_
    rotate_left
    focus (intro w hSw; (try dsimp only at hSw); go_simp; (try with_reducible rfl))
    (try simp only [Act.put, wz5, wz6, wz7])
    refine wtk (v := ?_) 6 rfl ?_ (by assumption) ?_
    rotate_left
    focus (intro w hSw; (try dsimp only at hSw); go_simp; (try with_reducible rfl))
    (try simp only [Act.put, wz5, wz6, wz7])
    refine wtk (v := ?_) 7 rfl ?_ (by assumption) ?_
    rotate_left
    focus (intro w hSw; (try dsimp only at hSw); go_simp; (try with_reducible rfl))
    (try simp only [Act.put, wz5, wz6, wz7])
    refine wtk (v := ?_) 8 rfl ?_ (by assumption) ?_
    rotate_left
    focus (intro w hSw; (try dsimp only at hSw); go_simp; (try with_reducible rfl))
    (try simp only [Act.put, wz5, wz6, wz7])
    refine wtk (v := ?_) 9 rfl ?_ (by assumption) ?_
    rotate_left
    focus (intro w hSw; (try dsimp only at hSw); go_simp; (try with_reducible rfl))
    (try simp only [Act.put, wz5, wz6, wz7])
    refine wtk (v := ?_) 10 rfl ?_ (by assumption) ?_
    rotate_left
    focus (intro w hSw; (try dsimp only at hSw); go_simp; (try with_reducible rfl))
    (try simp only [Act.put, wz5, wz6, wz7])
    refine wtk (v := ?_) 11 rfl ?_ (by assumption) ?_
    rotate_left
    focus (intro w hSw; (try dsimp only at hSw); go_simp; (try with_reducible rfl))
    (try simp only [Act.put, wz5, wz6, wz7])
    refine wtk (v := ?_) 12 rfl ?_ (by assumption) ?_
    rotate_left
    focus (intro w hSw; (try dsimp only at hSw); go_simp; (try with_reducible rfl))
    (try simp only [Act.put, wz5, wz6, wz7])
    refine wtk (v := ?_) 13 rfl ?_ (by assumption) ?_
    rotate_left
    focus (intro w hSw; (try dsimp only at hSw); go_simp; (try with_reducible rfl))
    (try simp only [Act.put, wz5, wz6, wz7])
    refine wtk (v := ?_) 14 rfl ?_ (by assumption) ?_
    rotate_left
    focus (intro w hSw; (try dsimp only at hSw); go_simp; (try with_reducible rfl))
    (try simp only [Act.put, wz5, wz6, wz7])
    refine wtk (v := ?_) 15 rfl ?_ (by assumption) ?_
    rotate_left
    focus (intro w hSw; (try dsimp only at hSw); go_simp; (try with_reducible rfl))
    (try simp only [Act.put, wz5, wz6, wz7])
    refine wtk (v := ?_) 16 rfl ?_ (by assumption) ?_
    rotate_left
    focus (intro w hSw; (try dsimp only at hSw); go_simp; (try with_reducible rfl))
    (try simp only [Act.put, wz5, wz6, wz7])
    refine wtk (v := ?_) 17 rfl ?_ (by assumption) ?_
    rotate_left
    focus (intro w hSw; (try dsimp only at hSw); go_simp; (try with_reducible rfl))
    (try simp only [Act.put, wz5, wz6, wz7])
    refine wtk (v := ?_) 18 rfl ?_ (by assumption) ?_
    rotate_left
    focus (intro w hSw; (try dsimp only at hSw); go_simp; (try with_reducible rfl))
    (try simp only [Act.put, wz5, wz6, wz7])
    refine wpAnyX_one 19 rfl (by kernel_rfl) (fun K hK => ?_)
    go_simp
    ((try simp only [IntWalk.i64_left, kwps]); go_at_call 116; clear tok1; refine (Cps.out _).mono ?_; rintro e u1 ⟨aps_, lps_, cps_, rfl, ops, hb1⟩; have hz1 := hb1.size; (try simp only [wz1, wz2, wz3, wz4] at hz1); have ips := ops.ints; have qT := Box.below (show Box _ (b_pt) [.bool npt, .slice apt_ lpt_ cpt_] from qa5) hb1; have qT0 := qT.2.1 0 _ rfl; have qT1 := qT.2.1 1 _ rfl; have qTf := qT.2.2; have qTl := qT.1)
    go_wp2_with fail
    clear hHeld
    refine hK.out _ _ ?_ (fun hHeld => ?_)
    focus ((try dsimp only); (refine (fun hbK => And.intro hbK (by exact ⟨(hbK.cell (p := ⟨b_pm, 0, none⟩) BpmW7.1).trans (BpmW7.2.1 0 _ rfl), (hbK.cell (p := ⟨b_pm, 1, none⟩) BpmW7.1).trans (BpmW7.2.1 1 _ rfl), (hbK.cell (p := ⟨w.heap.size + 1, 0, none⟩) BPW7.1).trans (BPW7.2.1 0 _ rfl), (hbK.cell (p := ⟨w.heap.size + 1, 1, none⟩) BPW7.1).trans (BPW7.2.1 1 _ rfl), (hbK.cell (p := ⟨w.heap.size + 1, 2, none⟩) BPW7.1).trans (BPW7.2.1 2 _ rfl), (hbK.cell (p := ⟨w.heap.size + 1 + 1, 0, none⟩) BQW7.1).trans (BQW7.2.1 0 _ rfl), (hbK.cell (p := ⟨w.heap.size + 1 + 1, 1, none⟩) BQW7.1).trans (BQW7.2.1 1 _ rfl), (hbK.cell (p := ⟨w.heap.size + 1 + 1, 2, none⟩) BQW7.1).trans (BQW7.2.1 2 _ rfl), (hbK.cell (p := ⟨b_pt, 0, none⟩) Bn6.1).trans (Bn6.2.1 0 _ rfl), (hbK.cell (p := ⟨b_pt, 1, none⟩) Bn6.1).trans (Bn6.2.1 1 _ rfl)⟩)) ?_; repeat' (first | (with_reducible first | exact bq1 _ _ | assumption | refine bq2 ?_ ?_ _ | refine bq3 ?_ ?_ _ | refine bq4 ?_ | refine bq5 ?_ _) | (apply bthen2; (with_reducible assumption)) | go_size)))
    clear hK K
    (try simp only [Act.put, wz5, wz6, wz7])
    refine wpAnyX_one 20 rfl (by kernel_rfl) (fun K hK => ?_)
    go_simp
    (go_at_call 115; clear tok2; refine (Cpq.out _ _ _ _ _ _ _ ?_ ?_).mono ?_; (focus (exact (by refine Ints.below IpmW7 ?_; repeat' (first | (with_reducible first | exact bq1 _ _ | assumption | refine bq2 ?_ ?_ _ | refine bq3 ?_ ?_ _ | refine bq4 ?_ | refine bq5 ?_ _) | (apply bthen2; (with_reducible assumption)) | go_size)))); (focus (exact (by refine Ints.below ips ?_; repeat' (first | (with_reducible first | exact bq1 _ _ | assumption | refine bq2 ?_ ?_ _ | refine bq3 ?_ ?_ _ | refine bq4 ?_ | refine bq5 ?_ _) | (apply bthen2; (with_reducible assumption)) | go_size)))); rintro e u2 ⟨apq_, lpq_, cpq_, rfl, opq, hb2⟩; have hz2 := hb2.size; (try simp only [wz1, wz2, wz3, wz4] at hz2); have ipq := opq.ints; have qT := Box.below (show Box _ (b_pt) [.bool npt, .slice apt_ lpt_ cpt_] from qa5) hb2; have qT0 := qT.2.1 0 _ rfl; have qT1 := qT.2.1 1 _ rfl; have qTf := qT.2.2; have qTl := qT.1)
    go_wp2_with fail
    clear hHeld
    refine hK.out _ _ ?_ (fun hHeld => ?_)
    focus ((try dsimp only); (refine (fun hbK => And.intro hbK (by exact ⟨(hbK.cell (p := ⟨b_pm, 0, none⟩) BpmW7.1).trans (BpmW7.2.1 0 _ rfl), (hbK.cell (p := ⟨b_pm, 1, none⟩) BpmW7.1).trans (BpmW7.2.1 1 _ rfl), (hbK.cell (p := ⟨w.heap.size + 1, 0, none⟩) BPW7.1).trans (BPW7.2.1 0 _ rfl), (hbK.cell (p := ⟨w.heap.size + 1, 1, none⟩) BPW7.1).trans (BPW7.2.1 1 _ rfl), (hbK.cell (p := ⟨w.heap.size + 1, 2, none⟩) BPW7.1).trans (BPW7.2.1 2 _ rfl), (hbK.cell (p := ⟨w.heap.size + 1 + 1, 0, none⟩) BQW7.1).trans (BQW7.2.1 0 _ rfl), (hbK.cell (p := ⟨w.heap.size + 1 + 1, 1, none⟩) BQW7.1).trans (BQW7.2.1 1 _ rfl), (hbK.cell (p := ⟨w.heap.size + 1 + 1, 2, none⟩) BQW7.1).trans (BQW7.2.1 2 _ rfl), (hbK.cell (p := ⟨b_pt, 0, none⟩) Bn6.1).trans (Bn6.2.1 0 _ rfl), (hbK.cell (p := ⟨b_pt, 1, none⟩) Bn6.1).trans (Bn6.2.1 1 _ rfl)⟩)) ?_; repeat' (first | (with_reducible first | exact bq1 _ _ | assumption | refine bq2 ?_ ?_ _ | refine bq3 ?_ ?_ _ | refine bq4 ?_ | refine bq5 ?_ _) | (apply bthen2; (with_reducible assumption)) | go_size)))
    clear hK K
    (try simp only [Act.put, wz5, wz6, wz7])
    refine wpAnyX_one 21 rfl (by kernel_rfl) (fun K hK => ?_)
    go_simp
    (go_at_call 118; clear tok3; refine (Cpg.out _ _ _ _ ?_).mono ?_; (focus (exact (by refine Ints.below ipq ?_; repeat' (first | (with_reducible first | exact bq1 _ _ | assumption | refine bq2 ?_ ?_ _ | refine bq3 ?_ ?_ _ | refine bq4 ?_ | refine bq5 ?_ _) | (apply bthen2; (with_reducible assumption)) | go_size)))); rintro e u3 ⟨apg_, lpg_, cpg_, rfl, opg, hb3⟩; have hz3 := hb3.size; (try simp only [wz1, wz2, wz3, wz4] at hz3); have ipg := opg.ints; have qT := Box.below (show Box _ (b_pt) [.bool npt, .slice apt_ lpt_ cpt_] from qa5) hb3; have qT0 := qT.2.1 0 _ rfl; have qT1 := qT.2.1 1 _ rfl; have qTf := qT.2.2; have qTl := qT.1)
    go_wp2_with fail
    clear hHeld
    refine hK.out _ _ ?_ (fun hHeld => ?_)
    focus ((try dsimp only); (refine (fun hbK => And.intro hbK (by exact ⟨(hbK.cell (p := ⟨b_pm, 0, none⟩) BpmW7.1).trans (BpmW7.2.1 0 _ rfl), (hbK.cell (p := ⟨b_pm, 1, none⟩) BpmW7.1).trans (BpmW7.2.1 1 _ rfl), (hbK.cell (p := ⟨w.heap.size + 1, 0, none⟩) BPW7.1).trans (BPW7.2.1 0 _ rfl), (hbK.cell (p := ⟨w.heap.size + 1, 1, none⟩) BPW7.1).trans (BPW7.2.1 1 _ rfl), (hbK.cell (p := ⟨w.heap.size + 1, 2, none⟩) BPW7.1).trans (BPW7.2.1 2 _ rfl), (hbK.cell (p := ⟨w.heap.size + 1 + 1, 0, none⟩) BQW7.1).trans (BQW7.2.1 0 _ rfl), (hbK.cell (p := ⟨w.heap.size + 1 + 1, 1, none⟩) BQW7.1).trans (BQW7.2.1 1 _ rfl), (hbK.cell (p := ⟨w.heap.size + 1 + 1, 2, none⟩) BQW7.1).trans (BQW7.2.1 2 _ rfl), (hbK.cell (p := ⟨b_pt, 0, none⟩) Bn6.1).trans (Bn6.2.1 0 _ rfl), (hbK.cell (p := ⟨b_pt, 1, none⟩) Bn6.1).trans (Bn6.2.1 1 _ rfl)⟩)) ?_; repeat' (first | (with_reducible first | exact bq1 _ _ | assumption | refine bq2 ?_ ?_ _ | refine bq3 ?_ ?_ _ | refine bq4 ?_ | refine bq5 ?_ _) | (apply bthen2; (with_reducible assumption)) | go_size)))
    clear hK K
    (try simp only [Act.put, wz5, wz6, wz7])
    refine wpAnyX_one 22 rfl (by kernel_rfl) (fun K hK => ?_)
    go_simp
    (go_at_call 117; clear tok4; refine (CpT.out _ _ _ _ _ _ _ ?_ ?_).mono ?_; (focus (exact (by refine Ints.below In6 ?_; repeat' (first | (with_reducible first | exact bq1 _ _ | assumption | refine bq2 ?_ ?_ _ | refine bq3 ?_ ?_ _ | refine bq4 ?_ | refine bq5 ?_ _) | (apply bthen2; (with_reducible assumption)) | go_size)))); (focus (exact (by refine Ints.below ipg ?_; repeat' (first | (with_reducible first | exact bq1 _ _ | assumption | refine bq2 ?_ ?_ _ | refine bq3 ?_ ?_ _ | refine bq4 ?_ | refine bq5 ?_ _) | (apply bthen2; (with_reducible assumption)) | go_size)))); rintro e u4 ⟨apT_, lpT_, cpT_, rfl, opT, hb4⟩; have hz4 := hb4.size; (try simp only [wz1, wz2, wz3, wz4] at hz4); have ipT := opT.ints; have qT := Box.below (show Box _ (b_pt) [.bool npt, .slice apt_ lpt_ cpt_] from qa5) hb4; have qT0 := qT.2.1 0 _ rfl; have qT1 := qT.2.1 1 _ rfl; have qTf := qT.2.2; have qTl := qT.1)
    go_wp2_with fail
    clear hHeld
    refine hK.out _ _ ?_ (fun hHeld => ?_)
    focus ((try dsimp only); (refine (fun hbK => And.intro hbK (by exact ⟨(hbK.cell (p := ⟨b_pm, 0, none⟩) BpmW7.1).trans (BpmW7.2.1 0 _ rfl), (hbK.cell (p := ⟨b_pm, 1, none⟩) BpmW7.1).trans (BpmW7.2.1 1 _ rfl), (hbK.cell (p := ⟨w.heap.size + 1, 0, none⟩) BPW7.1).trans (BPW7.2.1 0 _ rfl), (hbK.cell (p := ⟨w.heap.size + 1, 1, none⟩) BPW7.1).trans (BPW7.2.1 1 _ rfl), (hbK.cell (p := ⟨w.heap.size + 1, 2, none⟩) BPW7.1).trans (BPW7.2.1 2 _ rfl), (hbK.cell (p := ⟨w.heap.size + 1 + 1, 0, none⟩) BQW7.1).trans (BQW7.2.1 0 _ rfl), (hbK.cell (p := ⟨w.heap.size + 1 + 1, 1, none⟩) BQW7.1).trans (BQW7.2.1 1 _ rfl), (hbK.cell (p := ⟨w.heap.size + 1 + 1, 2, none⟩) BQW7.1).trans (BQW7.2.1 2 _ rfl), (hbK.cell (p := ⟨b_pt, 0, none⟩) Bn6.1).trans (Bn6.2.1 0 _ rfl), (hbK.cell (p := ⟨b_pt, 1, none⟩) Bn6.1).trans (Bn6.2.1 1 _ rfl)⟩)) ?_; repeat' (first | (with_reducible first | exact bq1 _ _ | assumption | refine bq2 ?_ ?_ _ | refine bq3 ?_ ?_ _ | refine bq4 ?_ | refine bq5 ?_ _) | (apply bthen2; (with_reducible assumption)) | go_size)))
    clear hK K
    (try simp only [Act.put, wz5, wz6, wz7])
    refine wpAnyX_last 23 rfl (by kernel_rfl) rfl (fun K hK => ?_)
    go_simp
    refine hK.out _ _ ?_
    clear hK K
    (try simp only [Act.put, wz5, wz6, wz7])
    refine wpAnyX_done (by kernel_rfl) ?_ _
    refine NoPanic.normal ?_
    all_goals (go_wp2_with fail; go_meet; exact ⟨u4, apT_, lpT_, cpT_, gr, ipT, rfl⟩)
  case rest =>
  obtain ⟨V8, apT_, lpT_, cpT_, hb, In7, rfl⟩ := hcut
  have BcV8 := BcW7.below hb
  have BPV8 := BPW7.below hb
  have BQV8 := BQW7.below hb
  have BRV8 := BRW7.below hb
  have BpmV8 := BpmW7.below hb
  have BpeV8 := BpeW7.below hb
  have BptV8 := Bn6.below hb
  have IpmV8 := IpmW7.below hb
  have IpeV8 := IpeW7.below hb
  have IptV8 := In6.below hb
  have hB := hB.trans (hb.mono hB.size)
  clear BcW7 BPW7 BQW7 BRW7 BpmW7 BpeW7 Bn6 IpmW7 IpeW7 In6 hb
  replace hl_c := BcV8.1
  replace hl_P := BPV8.1
  replace hl_Q := BQV8.1
  replace hl_R := BRV8.1
  replace hl_pm := BpmV8.1
  replace hl_pe := BpeV8.1
  replace hl_pt := BptV8.1
  obtain ⟨W8, hW⟩ : ∃ x, x = sto V8 (b_pt) npT (.slice apT_ lpT_ cpT_) := ⟨_, rfl⟩
  have BcW8 : Box W8 (w.heap.size) [.int .i64 A, .int .i64 B] := by rw [hW]; exact BcV8.sto_ne (by omega) _ _
  have BPW8 : Box W8 (w.heap.size + 1) [.int .i64 x1, .int .i64 y1, .int .i64 e1] := by rw [hW]; exact BPV8.sto_ne (by omega) _ _
  have BQW8 : Box W8 (w.heap.size + 1 + 1) [.int .i64 x2, .int .i64 y2, .int .i64 e2] := by rw [hW]; exact BQV8.sto_ne (by omega) _ _
  have BRW8 : Box W8 (w.heap.size + 1 + 1 + 1) [.int .i64 0, .int .i64 0, .int .i64 0] := by rw [hW]; exact BRV8.sto_ne (by omega) _ _
  have BpmW8 : Box W8 (b_pm) [.bool npm, .slice apm_ lpm_ cpm_] := by rw [hW]; exact BpmV8.sto_ne (by omega) _ _
  have BpeW8 : Box W8 (b_pe) [.bool npe, .slice ape_ lpe_ cpe_] := by rw [hW]; exact BpeV8.sto_ne (by omega) _ _
  have BptW8 : Box W8 (b_pt) [.bool npT, .slice apT_ lpT_ cpT_] := by rw [hW]; exact BptV8.sto _ _
  have IpmW8 : Ints W8 (.slice apm_ lpm_ cpm_) Dpm := by rw [hW]; exact IpmV8.sto BptV8 _ _
  have IpeW8 : Ints W8 (.slice ape_ lpe_ cpe_) Dpe := by rw [hW]; exact IpeV8.sto BptV8 _ _
  have IptW8 : Ints W8 (.slice apt_ lpt_ cpt_) Dpt := by rw [hW]; exact IptV8.sto BptV8 _ _
  have IpTW8 : Ints W8 (.slice apT_ lpT_ cpT_) DpT := by rw [hW]; exact In7.sto BptV8 _ _
  have hB : Below w.heap.size w W8 := by rw [hW]; exact below_sto hB (by omega) _ _
  rw [← hW]
  clear hW BcV8 BPV8 BQV8 BRV8 BpmV8 BpeV8 BptV8 IpmV8 IpeV8 IptV8 In7
  replace hl_c := BcW8.1
  replace hl_P := BPW8.1
  replace hl_Q := BQW8.1
  replace hl_R := BRW8.1
  replace hl_pm := BpmW8.1
  replace hl_pe := BpeW8.1
  replace hl_pt := BptW8.1
  go_upto_region 14 with fail
  go_cut [14] (fun s14 wx => ∃ (bn : Nat) (a : Option Addr) (l c : Nat), s14 = .pointer (some ⟨bn, 0, none⟩) ∧ Box wx bn [.bool npD, .slice a l c] ∧ Ints wx (.slice a l c) DpD ∧ W8.heap.size ≤ bn ∧ Below W8.heap.size W8 wx)
  case first =>
    have epm0 := BpmW8.2.1 0 _ rfl
    have epm1 := BpmW8.2.1 1 _ rfl
    have epmf := BpmW8.2.2
    have epml := BpmW8.1
    have epe0 := BpeW8.2.1 0 _ rfl
    have epe1 := BpeW8.2.1 1 _ rfl
    have epef := BpeW8.2.2
    have epel := BpeW8.1
    have tok1 := True.intro
    go_wp2_with fail
    (go_at_call 115; clear tok1; refine (CpD.out _ _ _ _ _ _ _ ?_ ?_).mono ?_; (focus (exact (by refine Ints.below IpmW8 ?_; repeat' (first | (with_reducible first | exact bq1 _ _ | assumption | refine bq2 ?_ ?_ _ | refine bq3 ?_ ?_ _ | refine bq4 ?_ | refine bq5 ?_ _) | (apply bthen2; (with_reducible assumption)) | go_size)))); (focus (exact (by refine Ints.below IpeW8 ?_; repeat' (first | (with_reducible first | exact bq1 _ _ | assumption | refine bq2 ?_ ?_ _ | refine bq3 ?_ ?_ _ | refine bq4 ?_ | refine bq5 ?_ _) | (apply bthen2; (with_reducible assumption)) | go_size)))); rintro e u1 ⟨apD_, lpD_, cpD_, rfl, opD, hb1⟩; have hz1 := hb1.size; (try simp only [wz1, wz2, wz3, wz4] at hz1); have ipD := opD.ints; (try (have qB := Box.below (by first | (with_reducible exact box_made2 _ _ _ _) | (with_reducible assumption) | (with_reducible exact Box.alloc (box_made2 _ _ _ _) _) | (have hq := qB; exact hq.alloc _)) hb1; (try simp only [World.size_alloc, World.size_drew, World.heap_drewN] at qB); have qB0 := qB.2.1 0 _ rfl; have qB1 := qB.2.1 1 _ rfl; have qBf := qB.2.2)); obtain ⟨loz, hiz, sgz, hlz, hhz⟩ := Own.segL opD; (try simp only [wz1, wz2, wz3, wz4] at hlz))
    have Ppm1 := Box.below (show Box _ (b_pm) [.bool npm, .slice apm_ lpm_ cpm_] from qa5) hb1
    have Ppe1 := Box.below (show Box _ (b_pe) [.bool npe, .slice ape_ lpe_ cpe_] from qa5) hb1
    clear epm0 epm1 epmf epml epe0 epe1 epef epel
    have epm0 := Ppm1.2.1 0 _ rfl
    have epm1 := Ppm1.2.1 1 _ rfl
    have epmf := Ppm1.2.2
    have epml := Ppm1.1
    have epe0 := Ppe1.2.1 0 _ rfl
    have epe1 := Ppe1.2.1 1 _ rfl
    have epef := Ppe1.2.2
    have epel := Ppe1.1
    all_goals (go_wp2_with fail; go_meet; exact ⟨_, apD_, lpD_, cpD_, rfl, (by first | (with_reducible exact box_made2 _ _ _ _) | (exact Box.set (Box.set (vs := [_, _]) (by first | assumption | exact box_made2 _ _ _ _) 0 (by simp) _) 1 (by simp) _)), Seg.ints (lo := loz) (hi := hiz) (by (repeat' (first | (with_reducible first | assumption | refine Seg.set ?_ ?_ _ | refine Seg.alloc ?_ _ | refine Seg.drew ?_))); all_goals (first | omega | (simp; done) | (simp; omega))), (by first | omega | (simp; done) | (simp; omega)), gr⟩)
  case rest =>
  obtain ⟨b_pD, apD_, lpD_, cpD_, rfl, Bn8, In8, hn8, hb⟩ := hcut
  have hq_c_pD : w.heap.size < b_pD := by omega
  have hq_P_pD : w.heap.size + 1 < b_pD := by omega
  have hq_Q_pD : w.heap.size + 1 + 1 < b_pD := by omega
  have hq_R_pD : w.heap.size + 1 + 1 + 1 < b_pD := by omega
  have hq_pm_pD : b_pm < b_pD := by omega
  have hq_pe_pD : b_pe < b_pD := by omega
  have hq_pt_pD : b_pt < b_pD := by omega
  obtain ⟨W9, hW⟩ : ∃ x, x = wc := ⟨_, rfl⟩
  subst hW
  have BcW9 := BcW8.below hb
  have BPW9 := BPW8.below hb
  have BQW9 := BQW8.below hb
  have BRW9 := BRW8.below hb
  have BpmW9 := BpmW8.below hb
  have BpeW9 := BpeW8.below hb
  have BptW9 := BptW8.below hb
  have IpmW9 := IpmW8.below hb
  have IpeW9 := IpeW8.below hb
  have IptW9 := IptW8.below hb
  have IpTW9 := IpTW8.below hb
  have hB := hB.trans (hb.mono hB.size)
  clear BcW8 BPW8 BQW8 BRW8 BpmW8 BpeW8 BptW8 IpmW8 IpeW8 IptW8 IpTW8 hb
  replace hl_c := BcW9.1
  replace hl_P := BPW9.1
  replace hl_Q := BQW9.1
  replace hl_R := BRW9.1
  replace hl_pm := BpmW9.1
  replace hl_pe := BpeW9.1
  replace hl_pt := BptW9.1
  have hl_pD := Bn8.1
  clear hl_c hl_P hl_Q hl_R hl_pm hl_pe hl_pt hl_pD Cpa Cpb Cpm Cpe Cpc Cpd Cpn Cpt Cps Cpq Cpg CpT CpD IpmW9 IpeW9 IptW9 BpmW9 BpeW9 kwpe kwps BQW9
  go_wp2_with fail
  go_loopw [15] (fun v15 wr => ∃ e : Int, v15 = .int .i64 e ∧ 1 ≤ e ∧ e ≤ 21 ∧ Hid (∀ X Y k, EC.sumO A (x1, y1, e1) (x2, y2, e2) = some (X, Y, k) → e ≤ k) ∧ Below W9.heap.size W9 wr) (fun v15 _ => (21 - intOf v15).toNat)
  case atStart => exact ⟨1, rfl, by omega, by omega, Lib.hid (fun X Y k h => (HMI.out X Y k h).1), Below.refl _ _⟩
  case round =>
    obtain ⟨e, rfl, he1, he21, hI, hbw⟩ := hrel
    have hzw := hbw.size
    have Bc := BcW9.below hbw
    have BP := BPW9.below hbw
    have BR := BRW9.below hbw
    have Bt := BptW9.below hbw
    have BD := Bn8.below hbw
    have ec0 := Bc.2.1 0 _ rfl
    have ec1 := Bc.2.1 1 _ rfl
    have ecl := Bc.1
    have eP0 := BP.2.1 0 _ rfl
    have eP1 := BP.2.1 1 _ rfl
    have eP2 := BP.2.1 2 _ rfl
    have ePl := BP.1
    have et0 := Bt.2.1 0 _ rfl
    have et1 := Bt.2.1 1 _ rfl
    have etl := Bt.1
    have eD0 := BD.2.1 0 _ rfl
    have eD1 := BD.2.1 1 _ rfl
    have eDl := BD.1
    have hT := IpTW9.below hbw; have hD := In8.below hbw
    by_cases hle : e ≤ 20
    · have kee : wrap64 (e * e) = e * e := by have := nmul (a := e) (b := e) (x := 20) (y := 20) (by omega) (by omega); exact win (by omega)
      have ke1 : wrap64 (e + 1) = e + 1 := win (by omega)
      have HTI := Lib.hid (CTI.out e he1 hle)
      have HSQ := Lib.hid (CSQ.out e he1 hle)
      have HIe := Lib.hid (fun X => HIT.out e X he1 hle)
      have HGv := Lib.hid (fun x h1 h2 => CGC.out x e h1 h2 he1 hle)
      obtain ⟨Te, hTe⟩ : ∃ t, pT * (e * e) = t := ⟨_, rfl⟩
      rw [hTe] at HTI HSQ HIe
      have HMe := Lib.hid (show ∀ X Y, EC.sumO A (x1, y1, e1) (x2, y2, e2) = some (X, Y, e) → -10000 ≤ X ∧ X ≤ 10000 ∧ pD * X = Te ∧ Int.gcd X e = 1 from fun X Y h => by obtain ⟨-, -, m3, m4, m5, m6⟩ := HMI.out X Y e h; exact ⟨m3, m4, by rw [m5, hTe], m6⟩)
      clear hTe CTI CSQ HIT HMI CGC
      generalize dg Te.natAbs = DTe at *
      generalize decide (Te < 0) = nTe at *
      go_upto_region 18 with fail
      go_region_held3 (fun w' => Below wr.heap.size wr w' ∧ w'.cell? ⟨b_pt, 0, none⟩ = some (.bool npT) ∧ w'.cell? ⟨b_pt, 1, none⟩ = some (.slice apT_ lpT_ cpT_) ∧ w'.cell? ⟨b_pD, 0, none⟩ = some (.bool npD) ∧ w'.cell? ⟨b_pD, 1, none⟩ = some (.slice apD_ lpD_ cpD_)) ((refine (fun hbK => And.intro hbK (by exact ⟨(hbK.cell (p := ⟨b_pt, 0, none⟩) (by first | assumption | omega | (simp; omega))).trans et0, (hbK.cell (p := ⟨b_pt, 1, none⟩) (by first | assumption | omega | (simp; omega))).trans et1, (hbK.cell (p := ⟨b_pD, 0, none⟩) (by first | assumption | omega | (simp; omega))).trans eD0, (hbK.cell (p := ⟨b_pD, 1, none⟩) (by first | assumption | omega | (simp; omega))).trans eD1⟩)) ?_; repeat' (first | (with_reducible first | exact bq1 _ _ | assumption | refine bq2 ?_ ?_ _ | refine bq3 ?_ ?_ _ | refine bq4 ?_ | refine bq5 ?_ _) | (apply bthen2; (with_reducible assumption)) | go_size))) ((first | ((try simp only [IntWalk.i64_left, kee]); go_at_call 120; refine (HTI.out _ _ _ _ ?_).mono ?_; (focus (refine Ints.below hT ?_; repeat' (first | (with_reducible first | exact bq1 _ _ | assumption | refine bq2 ?_ ?_ _ | refine bq3 ?_ ?_ _ | refine bq4 ?_ | refine bq5 ?_ _) | (apply bthen2; (with_reducible assumption)) | go_size))); rintro e9 wf ⟨a3, l3, c3, rfl, ho3, hbf⟩; have Bc1 := Box.below (show Box _ (w.heap.size) [.int .i64 A, .int .i64 B] from qa5) hbf; have BP1 := Box.below (show Box _ (w.heap.size + 1) [.int .i64 x1, .int .i64 y1, .int .i64 e1] from qa5) hbf; have BR1 := Box.below (show Box _ (w.heap.size + 1 + 1 + 1) [.int .i64 0, .int .i64 0, .int .i64 0] from qa5) hbf) | (go_at_call 119; refine (HSQ.out _ _ _ _ _ _ _ ?_ ?_).mono ?_; (focus (refine Ints.below ho3.ints ?_; repeat' (first | (with_reducible first | exact bq1 _ _ | assumption | refine bq2 ?_ ?_ _ | refine bq3 ?_ ?_ _ | refine bq4 ?_ | refine bq5 ?_ _) | (apply bthen2; (with_reducible assumption)) | go_size))); (focus (refine Ints.below hD ?_; repeat' (first | (with_reducible first | exact bq1 _ _ | assumption | refine bq2 ?_ ?_ _ | refine bq3 ?_ ?_ _ | refine bq4 ?_ | refine bq5 ?_ _) | (apply bthen2; (with_reducible assumption)) | go_size))); rintro e9 wg ⟨v, ok, rfl, hok, hv1, hv2, hv3, hbg⟩; have Bc2 := Box.below (show Box _ (w.heap.size) [.int .i64 A, .int .i64 B] from qa5) hbg; have BP2 := Box.below (show Box _ (w.heap.size + 1) [.int .i64 x1, .int .i64 y1, .int .i64 e1] from qa5) hbg; have BR2 := Box.below (show Box _ (w.heap.size + 1 + 1 + 1) [.int .i64 0, .int .i64 0, .int .i64 0] from qa5) hbg)))
      cases ok
      · have hnq : ¬ pD * v = Te := fun h => by have := hok.2 h; cases this
        have HN := Lib.hid (show ∀ X Y k, EC.sumO A (x1, y1, e1) (x2, y2, e2) = some (X, Y, k) → e + 1 ≤ k from fun X Y k h => by
          have q1 := hI.out X Y k h
          rcases Int.lt_or_le e k with q | q
          · omega
          · exfalso; obtain rfl : k = e := by omega
            obtain ⟨m3, m4, m5, m6⟩ := HMe.out X Y h
            exact hnq (by rw [hv3 X m3 m4 m5]; exact m5))
        clear HIe HMe hv3 hok hnq HGv
        go_wp2_with fail
        go_roundw
        case rel => exact ⟨e + 1, rfl, by omega, by omega, HN, gr⟩
        case measure => simp [intOf]; omega
      have hq := hok.1 rfl
      have HG0 := Lib.hid (HGv.out v hv1 hv2)
      obtain ⟨gg, hgg⟩ : ∃ g : Int, (Int.gcd v e : Int) = g := ⟨_, rfl⟩
      rw [hgg] at HG0
      by_cases hg1 : gg = 1
      · have hgc : Int.gcd v e = 1 := by omega
        subst hg1
        obtain ⟨Y, hs, hsq, hV2, hside, hY⟩ := HIe.out v hv1 hv2 hq hgc
        clear HIe HMe HGv hgg hgc hv3 hok
        have HVV := Lib.hid (HV.out v e)
        have HR := Lib.hid (fun W => exactRoot_any (cVal A B v e) (by omega) W)
        have hr0 := rt_nonneg (cVal A B v e)
        have hr1 : rt (cVal A B v e) ≤ 2000000 := by
          have h5 := rt_le (n := cVal A B v e) (by obtain ⟨r, q1, q2⟩ := sqB_iff.1 hsq; have := Int.mul_nonneg q1 q1; omega)
          have := sq_lt (a := rt (cVal A B v e)) (b := 2000001) (by omega) (by omega); omega
        unfold xrR at HR; rw [if_pos hsq] at HR
        have HS := Lib.hid hs
        clear hs hsq
        generalize rt (cVal A B v e) = Rt at *
        generalize cVal A B v e = VV at *
        generalize EC.sideI (x1, y1, e1) n m v e = sd at *
        have kneg : wrap64 (-Rt) = -Rt := win (by omega)
        have HYY := Lib.hid hY; have HSD := Lib.hid hside; have HKN := Lib.hid kneg
        clear hY hside hq hr0 hr1 kneg hV2
        go_upto_region 23 with (first | (go_at_call 54; refine (HG0.out _).mono ?_; rintro e9 wh ⟨rfl, hbh⟩; have Bc3 := Box.below (show Box _ (w.heap.size) [.int .i64 A, .int .i64 B] from qa5) hbh; have fc0_3 := Bc3.2.1 0 _ rfl; have fc1_3 := Bc3.2.1 1 _ rfl; have fcf_3 := Bc3.2.2; have fcl_3 := Bc3.1; have BP3 := Box.below (show Box _ (w.heap.size + 1) [.int .i64 x1, .int .i64 y1, .int .i64 e1] from qa5) hbh; have fP0_3 := BP3.2.1 0 _ rfl; have fP1_3 := BP3.2.1 1 _ rfl; have fP2_3 := BP3.2.1 2 _ rfl; have fPf_3 := BP3.2.2; have fPl_3 := BP3.1; have BR3 := Box.below (show Box _ (w.heap.size + 1 + 1 + 1) [.int .i64 0, .int .i64 0, .int .i64 0] from qa5) hbh; have fR0_3 := BR3.2.1 0 _ rfl; have fR1_3 := BR3.2.1 1 _ rfl; have fR2_3 := BR3.2.1 2 _ rfl; have fRf_3 := BR3.2.2; have fRl_3 := BR3.1) | (go_at_call 92; refine (HVV.out _).mono ?_; rintro e9 wi ⟨rfl, hbi⟩; have Bc4 := Box.below (show Box _ (w.heap.size) [.int .i64 A, .int .i64 B] from qa5) hbi; have fc0_4 := Bc4.2.1 0 _ rfl; have fc1_4 := Bc4.2.1 1 _ rfl; have fcf_4 := Bc4.2.2; have fcl_4 := Bc4.1; have BP4 := Box.below (show Box _ (w.heap.size + 1) [.int .i64 x1, .int .i64 y1, .int .i64 e1] from qa5) hbi; have fP0_4 := BP4.2.1 0 _ rfl; have fP1_4 := BP4.2.1 1 _ rfl; have fP2_4 := BP4.2.1 2 _ rfl; have fPf_4 := BP4.2.2; have fPl_4 := BP4.1; have BR4 := Box.below (show Box _ (w.heap.size + 1 + 1 + 1) [.int .i64 0, .int .i64 0, .int .i64 0] from qa5) hbi; have fR0_4 := BR4.2.1 0 _ rfl; have fR1_4 := BR4.2.1 1 _ rfl; have fR2_4 := BR4.2.1 2 _ rfl; have fRf_4 := BR4.2.2; have fRl_4 := BR4.1) | (go_at_call 91; refine (HR.out _).mono ?_; rintro e w1 ⟨rfl, rfl⟩))
        rw [HSD.out]
        have kneg := HKN.out
        by_cases s1 : sd < 0 <;> by_cases s2 : m < 0
        · have hYv := HYY.out
          simp only [s1, s2, decide_true, decide_false, bne_self_eq_false, Bool.false_eq_true, if_false, if_true, Bool.true_bne, Bool.false_bne, Bool.not_true, Bool.not_false] at hYv
          rw [hYv] at HS; clear hYv
          repeat (first | go_values | go_skip | go_guarded | go_step | go_upon)
          refine bodyPost_ret (v := .tuple #[.agg #[.int .i64 v, .int .i64 Rt, .int .i64 e], .bool true]) (by simp [results, Tryz.results80, go_sem, fR0_4, fR1_4, fR2_4, fRf_4, fRl_4]) rfl (gives (by rw [← HSV.out]; unfold sumV; rw [HS.out]) gr)
        · have hYv := HYY.out
          simp only [s1, s2, decide_true, decide_false, bne_self_eq_false, Bool.false_eq_true, if_false, if_true, Bool.true_bne, Bool.false_bne, Bool.not_true, Bool.not_false] at hYv
          rw [hYv] at HS; clear hYv
          repeat (first | go_values | go_skip | go_guarded | go_step | go_upon)
          refine bodyPost_ret (v := .tuple #[.agg #[.int .i64 v, .int .i64 (-Rt), .int .i64 e], .bool true]) (by simp [results, Tryz.results80, go_sem, fR0_4, fR1_4, fR2_4, fRf_4, fRl_4]) rfl (gives (by rw [← HSV.out]; unfold sumV; rw [HS.out]) gr)
        · have hYv := HYY.out
          simp only [s1, s2, decide_true, decide_false, bne_self_eq_false, Bool.false_eq_true, if_false, if_true, Bool.true_bne, Bool.false_bne, Bool.not_true, Bool.not_false] at hYv
          rw [hYv] at HS; clear hYv
          repeat (first | go_values | go_skip | go_guarded | go_step | go_upon)
          refine bodyPost_ret (v := .tuple #[.agg #[.int .i64 v, .int .i64 (-Rt), .int .i64 e], .bool true]) (by simp [results, Tryz.results80, go_sem, fR0_4, fR1_4, fR2_4, fRf_4, fRl_4]) rfl (gives (by rw [← HSV.out]; unfold sumV; rw [HS.out]) gr)
        · have hYv := HYY.out
          simp only [s1, s2, decide_true, decide_false, bne_self_eq_false, Bool.false_eq_true, if_false, if_true, Bool.true_bne, Bool.false_bne, Bool.not_true, Bool.not_false] at hYv
          rw [hYv] at HS; clear hYv
          repeat (first | go_values | go_skip | go_guarded | go_step | go_upon)
          refine bodyPost_ret (v := .tuple #[.agg #[.int .i64 v, .int .i64 Rt, .int .i64 e], .bool true]) (by simp [results, Tryz.results80, go_sem, fR0_4, fR1_4, fR2_4, fRf_4, fRl_4]) rfl (gives (by rw [← HSV.out]; unfold sumV; rw [HS.out]) gr)
      · have hgf : (gg != 1) = true := by simpa using hg1
        have HN := Lib.hid (show ∀ X Y k, EC.sumO A (x1, y1, e1) (x2, y2, e2) = some (X, Y, k) → e + 1 ≤ k from fun X Y k h => by
          have q1 := hI.out X Y k h
          rcases Int.lt_or_le e k with q | q
          · omega
          · exfalso; obtain rfl : k = e := by omega
            obtain ⟨m3, m4, m5, m6⟩ := HMe.out X Y h
            rw [← hv3 X m3 m4 m5] at m6
            exact hg1 (by omega))
        clear HIe HMe hv3 hok hgg hg1
        clear hq
        go_wp2_with (first | (go_at_call 54; refine (HG0.out _).mono ?_; rintro e9 wh ⟨rfl, hbh⟩))
        go_roundw
        case rel => exact ⟨e + 1, rfl, by omega, by omega, HN, gr⟩
        case measure => simp [intOf]; omega
    · have HS := Lib.hid (show EC.sumO A (x1, y1, e1) (x2, y2, e2) = none from by
        rcases h : EC.sumO A (x1, y1, e1) (x2, y2, e2) with _ | ⟨X, Y, k⟩
        · rfl
        · exact absurd (Int.le_trans (hI.out X Y k h) (HMI.out X Y k h).2.1) hle)
      clear CTI CSQ HIT HMI CGC hI
      have eR0 := BR.2.1 0 _ rfl; have eR1 := BR.2.1 1 _ rfl; have eR2 := BR.2.1 2 _ rfl; have eRf := BR.2.2; have eRl := BR.1
      repeat (first | go_values | go_skip | go_guarded | go_step | go_upon)
      refine bodyPost_ret (v := .tuple #[.agg #[.int .i64 0, .int .i64 0, .int .i64 0], .bool false]) (by simp [results, Tryz.results80, go_sem, eR0, eR1, eR2, eRf, eRl]) rfl (gives (by rw [← HSV.out]; unfold sumV; rw [HS.out]) gr)
end Go.Proofs.YtjgdajeoeagggaaGreat
