import Derived.Test.YtelkmldmebdcgaaMarkL
import Derived.Test.YtelkmldmebdcgaaLawS
set_option linter.unusedSimpArgs false
set_option linter.unusedVariables false
namespace Go.Proofs.Ytelkmldmebdcgaa
open Go.RowKit
/-! ### points of quartics -/

theorem qVal_b {d a c m e : Int} (h1 : d.natAbs ≤ 100000) (h2 : a.natAbs ≤ 100000) (h3 : c.natAbs ≤ 100000) (h4 : m.natAbs ≤ 60) (h5 : e.natAbs ≤ 60) : -3888000000000 ≤ qVal d a c m e ∧ qVal d a c m e ≤ 3888000000000 := by
  have t1 := abs_mul (abs_mul (abs_mul (abs_mul h1 h4) h4) h4) h4
  have t2 := abs_mul (abs_mul (abs_mul (abs_mul h2 h4) h4) h5) h5
  have t3 := abs_mul (abs_mul (abs_mul (abs_mul h3 h5) h5) h5) h5
  unfold qVal
  generalize d*m*m*m*m = X at *
  generalize a*m*m*e*e = Y at *
  generalize c*e*e*e*e = Z at *
  rw [win (by omega)]
  omega
def qpt (d a c m e : Int) : Option (List Int) := if (Int.gcd m e : Int) = 1 ∧ sqB (qVal d a c m e) = true then some [m, e, rt (qVal d a c m e)] else none
def qrow (d a c m : Int) (k : Nat) : List (List Int) := (List.range k).filterMap fun (e : Nat) => qpt d a c m (e : Int)
def qall (d a c M : Int) (k : Nat) : List (List Int) := (List.range k).flatMap fun (m : Nat) => qrow d a c (m : Int) (M + 1).toNat
theorem qrow_succ (d a c m : Int) (k : Nat) : qrow d a c m (k + 1) = qrow d a c m k ++ (match qpt d a c m (k : Int) with | some p => [p] | none => []) := by
  unfold qrow
  rw [List.range_succ, List.filterMap_append]
  simp only [List.filterMap_cons, List.filterMap_nil]
  split <;> rename_i h <;> simp [h]
theorem qall_succ (d a c M : Int) (k : Nat) : qall d a c M (k + 1) = qall d a c M k ++ qrow d a c (k : Int) (M + 1).toNat := by
  unfold qall; rw [List.range_succ, List.flatMap_append]; simp
theorem qrow_len (d a c m : Int) (k : Nat) : (qrow d a c m k).length ≤ k := by
  have := List.length_filterMap_le (fun e : Nat => qpt d a c m (e : Int)) (List.range k)
  unfold qrow; simpa using this
theorem qall_len (d a c M : Int) (hM : M ≤ 60) (k : Nat) : (qall d a c M k).length ≤ 61 * k := by
  induction k with
  | zero => simp [qall]
  | succ k ih => rw [qall_succ, List.length_append]; have := qrow_len d a c (k : Int) (M + 1).toNat; omega
theorem qrow_3 {d a c m : Int} {k : Nat} {r : List Int} (h : r ∈ qrow d a c m k) : r.length = 3 := by
  unfold qrow at h
  obtain ⟨e, -, he⟩ := List.mem_filterMap.1 h
  unfold qpt at he
  split at he
  · rw [← Option.some.inj he]; rfl
  · cases he
theorem qall_3 {d a c M : Int} {k : Nat} {r : List Int} (h : r ∈ qall d a c M k) : r.length = 3 := by
  unfold qall at h
  obtain ⟨m, -, hm⟩ := List.mem_flatMap.1 h
  exact qrow_3 hm
theorem tot3 : ∀ (rows : List (List Int)), (∀ r ∈ rows, r.length = 3) → totL rows = 3 * (rows.length : Int) := by
  intro rows
  induction rows with
  | nil => intro _; rfl
  | cons r rs ih =>
    intro h
    have h1 := h r List.mem_cons_self
    have h2 := ih fun q hq => h q (List.mem_cons_of_mem _ hq)
    simp only [totL, h1, h2, List.length_cons]; omega
theorem qpt_no1 {d a c m e : Int} (h : ¬ (Int.gcd m e : Int) = 1) : qpt d a c m e = none := by unfold qpt; rw [if_neg (fun g => h g.1)]
theorem qpt_no2 {d a c m e : Int} (h : sqB (qVal d a c m e) = false) : qpt d a c m e = none := by unfold qpt; rw [if_neg (fun g => by rw [h] at g; cases g.2)]
theorem qpt_yes {d a c m e : Int} (h : (Int.gcd m e : Int) = 1) (h2 : sqB (qVal d a c m e) = true) : qpt d a c m e = some [m, e, rt (qVal d a c m e)] := by unfold qpt; rw [if_pos ⟨h, h2⟩]

set_option maxRecDepth 100000 in
set_option maxHeartbeats 4000000 in
theorem points_any (d a c M : Int) (d1 : d.natAbs ≤ 100000) (a1 : a.natAbs ≤ 100000) (c1 : c.natAbs ≤ 100000) (m1 : 1 ≤ M) (m2 : M ≤ 60) (w : World) :
    Calls Try.prog 52 #[.agg #[.int .i64 d, .int .i64 a, .int .i64 c], .int .i64 M] w (GivesLL (qall d a c M (M + 1).toNat) w) := by
  have HG := Lib.hid (fun m e w (h1 : 0 ≤ m) (h2 : m ≤ 60) (h3 : 0 ≤ e) (h4 : e ≤ 60) => (gcd_any m e (by omega) (by omega) (by omega) (by omega) w).mono fun _ _ h => gives_of_quiet h)
  have HV := Lib.hid (fun m e w => value_any d a c m e w)
  have HVB := Lib.hid (fun m e (h1 : 0 ≤ m) (h2 : m ≤ 60) (h3 : 0 ≤ e) (h4 : e ≤ 60) => qVal_b (d := d) (a := a) (c := c) (m := m) (e := e) d1 a1 c1 (by omega) (by omega))
  have HR := Lib.hid (fun n w (h : n ≤ 4000000000000) => exactRoot_any n (by omega) w)
  have HPS := Lib.hid (fun k => qall_succ d a c M k)
  have HPL := Lib.hid (fun k => qall_len d a c M m2 k)
  have HQS := Lib.hid (fun m k => qrow_succ d a c m k)
  have HQL := Lib.hid (fun m k => qrow_len d a c m k)
  have HP0 := Lib.hid (show qall d a c M 0 = [] from rfl)
  have HQ0 := Lib.hid (fun m => show qrow d a c m 0 = [] from rfl)
  have HN1 := Lib.hid (fun m e => @qpt_no1 d a c m e)
  have HN2 := Lib.hid (fun m e => @qpt_no2 d a c m e)
  have HY := Lib.hid (fun m e => @qpt_yes d a c m e)
  generalize hN : (M + 1).toNat = N at *
  have hN2 : M + 1 = (N : Int) := by omega
  have HN := Lib.hid hN2
  have hNb : N ≤ 61 := by omega
  clear hN hN2 d1 a1 c1
  generalize qall d a c M = qa at *
  generalize qrow d a c = qr at *
  generalize qpt d a c = ptf at *
  generalize hV : qVal d a c = vf at *
  clear hV
  go_enter Try.func52, Try.ntmps52
  go_wp2
  refine name_world (fun W1 hW1 => ?_)
  have k0 : W1.cell? ⟨w.heap.size, 0, none⟩ = some (.int .i64 d) := by rw [hW1]; simp
  have k1 : W1.cell? ⟨w.heap.size, 1, none⟩ = some (.int .i64 a) := by rw [hW1]; simp
  have k2 : W1.cell? ⟨w.heap.size, 2, none⟩ = some (.int .i64 c) := by rw [hW1]; simp
  have hB1 : Below w.heap.size w W1 := by rw [hW1]; repeat' (first | (with_reducible exact Below.refl _ _) | (with_reducible assumption) | (with_reducible refine Below.alloc ?_ ?_ _) | (with_reducible refine Below.setCell ?_ ?_ _) | (with_reducible refine Below.drew ?_) | (with_reducible refine below_drewN ?_ _) | (apply bthen2; (with_reducible assumption)) | go_size)
  have hs1 : w.heap.size < W1.heap.size := by rw [hW1]; simp
  clear hW1
  go_loopw [5, 12] (fun v5 vo wr => ∃ (k : Nat) (m : Int), m ≤ M + 1 ∧ vo = .int .i64 m ∧ Hid (m = (k : Int)) ∧ OwnLL wr W1.heap.size v5 (qa k) ∧ Below W1.heap.size W1 wr) (fun _ vo _ => (M + 1 - intOf vo).toNat)
  case atStart => exact ⟨0, 0, by omega, rfl, Lib.hid (by simp), by rw [HP0.out]; exact OwnLL.nil _ _, Below.refl _ _⟩
  case round =>
    clear HP0
    obtain ⟨k, m, hmM, rfl, HX, hown, hbw⟩ := hrel
    by_cases hlt : m ≤ M
    · have hx := HX.out
      have hm0 : 0 ≤ m := by omega
      have hm60 : m ≤ 60 := by omega
      have hps := HPS.out k
      rw [← hx] at hps
      have hql := HPL.out k
      have hk : k ≤ 60 := by omega
      have HX2 := Lib.hid (show m + 1 = ((k + 1 : Nat) : Int) by omega)
      have HPS2 := Lib.hid hps
      clear hx hps
      have hdd1 : decide (m < M + 1) = true := by simp; omega
      have hdd2 : decide (m ≤ M) = true := by simpa using hlt
      go_wp2
      refine name_world (fun Wo hWo => ?_)
      subst hWo
      go_loopw [5, 17] (fun v5 vi wi => ∃ (j : Nat) (e : Int), e ≤ M + 1 ∧ vi = .int .i64 e ∧ Hid (e = (j : Int)) ∧ OwnLL wi W1.heap.size v5 (qa k ++ qr m j) ∧ Below W1.heap.size W1 wi) (fun _ vi _ => (M + 1 - intOf vi).toNat)
      case atStart => exact ⟨0, 0, by omega, rfl, Lib.hid (by simp), by rw [HQ0.out, List.append_nil]; exact hown, hbw⟩
      case round =>
        clear hown hbw
        obtain ⟨j, e, heM, rfl, HE, hown, hbw⟩ := hrel
        have he := HE.out
        have hz := hbw.size
        have d0 := (hbw.cell (p := ⟨w.heap.size, 0, none⟩) hs1).trans k0
        have d1 := (hbw.cell (p := ⟨w.heap.size, 1, none⟩) hs1).trans k1
        have d2 := (hbw.cell (p := ⟨w.heap.size, 2, none⟩) hs1).trans k2
        obtain ⟨ca, cc, rfl⟩ := hown.slice
        by_cases hle : e ≤ M
        · have he0 : 0 ≤ e := by omega
          have he60 : e ≤ 60 := by omega
          have HE2 := Lib.hid (show e + 1 = ((j + 1 : Nat) : Int) by omega)
          have hqs0 := HQS.out m j
          rw [← he] at hqs0
          have hqs : qa k ++ qr m (j + 1) = (qa k ++ qr m j) ++ (match ptf m e with | some p => [p] | none => []) := by rw [hqs0, List.append_assoc]
          clear hqs0
          have hal : (qa k ++ qr m j).length ≤ 1000000000000 := by have := HQL.out m j; rw [List.length_append]; omega
          generalize qa k ++ qr m j = RW at hown hqs hal
          have hne1 := HN1.out m e
          have hne2 := HN2.out m e
          have hye := HY.out m e
          have hgc := fun w => HG.out m e w hm0 hm60 he0 he60
          clear he
          by_cases g1 : (Int.gcd m e : Int) = 1
          · obtain ⟨v1, v2⟩ := HVB.out m e hm0 hm60 he0 he60
            have hrr := fun w => HR.out (vf m e) w (by omega)
            have hrn := rt_nonneg (vf m e)
            have hvv := HV.out m e
            rw [g1] at hgc
            cases g2 : sqB (vf m e)
            · rw [hne2 g2] at hqs
              simp only [List.append_nil] at hqs
              unfold xrR at hrr
              rw [g2] at hrr
              simp only [Bool.false_eq_true, if_false] at hrr
              generalize vf m e = V at *
              have HGC := Lib.hid hgc; have HRR := Lib.hid hrr; have HVV := Lib.hid hvv
              have HQ := Lib.hid hqs
              clear hgc hrr hvv hqs hne1 hne2 hye g1 g2 hrn
              go_wp2_with (first | (go_at_call 93; refine (HGC.out _).mono ?_; rintro e wa ⟨rfl, hba⟩; have hza := hba.size; (try simp only [World.size_alloc, World.size_setCell, World.size_drew, World.heap_drewN] at hza); try (refine keepc hba (w.heap.size) ?_ ?_; (focus (first | omega | (simp <;> omega))); intro hca_0 hfa_0 hla_0); try (refine keepc hba (w.heap.size + 1) ?_ ?_; (focus (first | omega | (simp <;> omega))); intro hca_1 hfa_1 hla_1); try (refine keepc hba (w.heap.size + 1 + 1) ?_ ?_; (focus (first | omega | (simp <;> omega))); intro hca_2 hfa_2 hla_2)) | (go_at_call 57; refine (HVV.out _).mono ?_; rintro e wb ⟨rfl, hbb⟩; have hzb := hbb.size; (try simp only [World.size_alloc, World.size_setCell, World.size_drew, World.heap_drewN] at hzb); try (refine keepc hbb (w.heap.size) ?_ ?_; (focus (first | omega | (simp <;> omega))); intro hcb_0 hfb_0 hlb_0); try (refine keepc hbb (w.heap.size + 1) ?_ ?_; (focus (first | omega | (simp <;> omega))); intro hcb_1 hfb_1 hlb_1); try (refine keepc hbb (w.heap.size + 1 + 1) ?_ ?_; (focus (first | omega | (simp <;> omega))); intro hcb_2 hfb_2 hlb_2)) | (go_at_call 58; refine (HRR.out _).mono ?_; rintro e w1 ⟨rfl, rfl⟩))
              go_roundw
              case rel => exact ⟨j + 1, e + 1, by omega, rfl, HE2, by rw [HQ.out]; exact (hown.below hba).below hbb, bthen2 hbb (bthen2 hba hbw)⟩
              case measure => simp [intOf]; omega
            · rw [hye g1 g2] at hqs
              unfold xrR at hrr
              rw [g2] at hrr
              simp only [if_true] at hrr
              generalize rt (vf m e) = Y at *
              generalize vf m e = V at *
              have HGC := Lib.hid hgc; have HRR := Lib.hid hrr; have HVV := Lib.hid hvv
              have HQ := Lib.hid hqs
              clear hgc hrr hvv hqs hne1 hne2 hye g1 g2
              go_wp2_with (first | (go_at_call 93; refine (HGC.out _).mono ?_; rintro e wa ⟨rfl, hba⟩; have hza := hba.size; (try simp only [World.size_alloc, World.size_setCell, World.size_drew, World.heap_drewN] at hza); try (refine keepc hba (w.heap.size) ?_ ?_; (focus (first | omega | (simp <;> omega))); intro hca_0 hfa_0 hla_0); try (refine keepc hba (w.heap.size + 1) ?_ ?_; (focus (first | omega | (simp <;> omega))); intro hca_1 hfa_1 hla_1); try (refine keepc hba (w.heap.size + 1 + 1) ?_ ?_; (focus (first | omega | (simp <;> omega))); intro hca_2 hfa_2 hla_2)) | (go_at_call 57; refine (HVV.out _).mono ?_; rintro e wb ⟨rfl, hbb⟩; have hzb := hbb.size; (try simp only [World.size_alloc, World.size_setCell, World.size_drew, World.heap_drewN] at hzb); try (refine keepc hbb (w.heap.size) ?_ ?_; (focus (first | omega | (simp <;> omega))); intro hcb_0 hfb_0 hlb_0); try (refine keepc hbb (w.heap.size + 1) ?_ ?_; (focus (first | omega | (simp <;> omega))); intro hcb_1 hfb_1 hlb_1); try (refine keepc hbb (w.heap.size + 1 + 1) ?_ ?_; (focus (first | omega | (simp <;> omega))); intro hcb_2 hfb_2 hlb_2)) | (go_at_call 58; refine (HRR.out _).mono ?_; rintro e w1 ⟨rfl, rfl⟩) | (at_builtin; refine wpl_appLL (W := W1) rfl _ _ rfl W1.heap.size _ RW rfl ((hown.below hba).below hbb) 1 [m, e, Y] _ rfl rfl _ rfl hal (bthen2 hbb (bthen2 hba hbw)) (by omega) ?_; intro ap cp wp hownp hbwp hszp))
              go_roundw
              case rel => exact ⟨j + 1, e + 1, by omega, rfl, HE2, by rw [HQ.out]; exact hownp, hbwp⟩
              case measure => simp [intOf]; omega
          · rw [hne1 g1] at hqs
            simp only [List.append_nil] at hqs
            generalize (Int.gcd m e : Int) = G at *
            have g1' : (G != 1) = true := by simpa using g1
            have HGC := Lib.hid hgc
            have HQ := Lib.hid hqs
            clear hgc hqs hne1 hne2 hye g1
            go_wp2_with (first | (go_at_call 93; refine (HGC.out _).mono ?_; rintro e wa ⟨rfl, hba⟩; have hza := hba.size; (try simp only [World.size_alloc, World.size_setCell, World.size_drew, World.heap_drewN] at hza); try (refine keepc hba (w.heap.size) ?_ ?_; (focus (first | omega | (simp <;> omega))); intro hca_0 hfa_0 hla_0); try (refine keepc hba (w.heap.size + 1) ?_ ?_; (focus (first | omega | (simp <;> omega))); intro hca_1 hfa_1 hla_1); try (refine keepc hba (w.heap.size + 1 + 1) ?_ ?_; (focus (first | omega | (simp <;> omega))); intro hca_2 hfa_2 hla_2)))
            go_roundw
            case rel => exact ⟨j + 1, e + 1, by omega, rfl, HE2, by rw [HQ.out]; exact hown.below hba, bthen2 hba hbw⟩
            case measure => simp [intOf]; omega
        · have hjN : j = N := by have := HN.out; omega
          have HQ := Lib.hid (show qa (k + 1) = qa k ++ qr m j by rw [HPS2.out, hjN])
          clear he hjN
          go_wp2
          go_roundw
          case rel => exact ⟨k + 1, m + 1, by omega, rfl, HX2, by rw [HQ.out]; exact hown, hbw⟩
          case measure => simp [intOf]; omega
    · have hkN : k = N := by have := HX.out; have := HN.out; omega
      have HRE := Lib.hid hkN
      clear hkN
      obtain ⟨ca, cc, rfl⟩ := hown.slice
      go_wp2
      go_ret
      exact ⟨_, _, _, rfl, by rw [← HRE.out]; exact hown.mono (by omega), bthen hB1 hbw⟩

set_option maxRecDepth 100000 in
set_option maxHeartbeats 4000000 in
theorem seOnQuartic_any (d a c M : Int) (d1 : d.natAbs ≤ 100000) (a1 : a.natAbs ≤ 100000) (c1 : c.natAbs ≤ 100000) (m1 : 1 ≤ M) (m2 : M ≤ 60) (w : World) :
    Calls Try.prog 55 #[.agg #[.int .i64 d, .int .i64 a, .int .i64 c], .int .i64 M] w (GivesLL (qall d a c M (M + 1).toNat) w) := by
  have HG := Lib.hid (fun m e w (h1 : 0 ≤ m) (h2 : m ≤ 60) (h3 : 0 ≤ e) (h4 : e ≤ 60) => (bgCommon_any m e h1 h3 w).mono fun _ _ h => gives_of_same h)
  have HV := Lib.hid (fun m e w => loValue_any d a c m e w)
  have HVB := Lib.hid (fun m e (h1 : 0 ≤ m) (h2 : m ≤ 60) (h3 : 0 ≤ e) (h4 : e ≤ 60) => qVal_b (d := d) (a := a) (c := c) (m := m) (e := e) d1 a1 c1 (by omega) (by omega))
  have HR := Lib.hid (fun n w (h : n ≤ 4000000000000) => seRoot_any n (by omega) w)
  have HPS := Lib.hid (fun k => qall_succ d a c M k)
  have HPL := Lib.hid (fun k => qall_len d a c M m2 k)
  have HQS := Lib.hid (fun m k => qrow_succ d a c m k)
  have HQL := Lib.hid (fun m k => qrow_len d a c m k)
  have HP0 := Lib.hid (show qall d a c M 0 = [] from rfl)
  have HQ0 := Lib.hid (fun m => show qrow d a c m 0 = [] from rfl)
  have HN1 := Lib.hid (fun m e => @qpt_no1 d a c m e)
  have HN2 := Lib.hid (fun m e => @qpt_no2 d a c m e)
  have HY := Lib.hid (fun m e => @qpt_yes d a c m e)
  generalize hN : (M + 1).toNat = N at *
  have hN2 : M + 1 = (N : Int) := by omega
  have HN := Lib.hid hN2
  have hNb : N ≤ 61 := by omega
  clear hN hN2 d1 a1 c1
  generalize qall d a c M = qa at *
  generalize qrow d a c = qr at *
  generalize qpt d a c = ptf at *
  generalize hV : qVal d a c = vf at *
  clear hV
  go_enter Try.func55, Try.ntmps55
  go_wp2
  refine name_world (fun W1 hW1 => ?_)
  have k0 : W1.cell? ⟨w.heap.size, 0, none⟩ = some (.int .i64 d) := by rw [hW1]; simp
  have k1 : W1.cell? ⟨w.heap.size, 1, none⟩ = some (.int .i64 a) := by rw [hW1]; simp
  have k2 : W1.cell? ⟨w.heap.size, 2, none⟩ = some (.int .i64 c) := by rw [hW1]; simp
  have hB1 : Below w.heap.size w W1 := by rw [hW1]; repeat' (first | (with_reducible exact Below.refl _ _) | (with_reducible assumption) | (with_reducible refine Below.alloc ?_ ?_ _) | (with_reducible refine Below.setCell ?_ ?_ _) | (with_reducible refine Below.drew ?_) | (with_reducible refine below_drewN ?_ _) | (apply bthen2; (with_reducible assumption)) | go_size)
  have hs1 : w.heap.size < W1.heap.size := by rw [hW1]; simp
  clear hW1
  go_loopw [5, 6] (fun v5 vo wr => ∃ (k : Nat) (m : Int), m ≤ M + 1 ∧ vo = .int .i64 m ∧ Hid (m = (k : Int)) ∧ OwnLL wr W1.heap.size v5 (qa k) ∧ Below W1.heap.size W1 wr) (fun _ vo _ => (M + 1 - intOf vo).toNat)
  case atStart => exact ⟨0, 0, by omega, rfl, Lib.hid (by simp), by rw [HP0.out]; exact OwnLL.nil _ _, Below.refl _ _⟩
  case round =>
    clear HP0
    obtain ⟨k, m, hmM, rfl, HX, hown, hbw⟩ := hrel
    by_cases hlt : m ≤ M
    · have hx := HX.out
      have hm0 : 0 ≤ m := by omega
      have hm60 : m ≤ 60 := by omega
      have hps := HPS.out k
      rw [← hx] at hps
      have hql := HPL.out k
      have hk : k ≤ 60 := by omega
      have HX2 := Lib.hid (show m + 1 = ((k + 1 : Nat) : Int) by omega)
      have HPS2 := Lib.hid hps
      clear hx hps
      have hdd1 : decide (m < M + 1) = true := by simp; omega
      have hdd2 : decide (m ≤ M) = true := by simpa using hlt
      go_wp2
      refine name_world (fun Wo hWo => ?_)
      subst hWo
      go_loopw [5, 7] (fun v5 vi wi => ∃ (j : Nat) (e : Int), e ≤ M + 1 ∧ vi = .int .i64 e ∧ Hid (e = (j : Int)) ∧ OwnLL wi W1.heap.size v5 (qa k ++ qr m j) ∧ Below W1.heap.size W1 wi) (fun _ vi _ => (M + 1 - intOf vi).toNat)
      case atStart => exact ⟨0, 0, by omega, rfl, Lib.hid (by simp), by rw [HQ0.out, List.append_nil]; exact hown, hbw⟩
      case round =>
        clear hown hbw
        obtain ⟨j, e, heM, rfl, HE, hown, hbw⟩ := hrel
        have he := HE.out
        have hz := hbw.size
        have d0 := (hbw.cell (p := ⟨w.heap.size, 0, none⟩) hs1).trans k0
        have d1 := (hbw.cell (p := ⟨w.heap.size, 1, none⟩) hs1).trans k1
        have d2 := (hbw.cell (p := ⟨w.heap.size, 2, none⟩) hs1).trans k2
        obtain ⟨ca, cc, rfl⟩ := hown.slice
        by_cases hle : e ≤ M
        · have he0 : 0 ≤ e := by omega
          have he60 : e ≤ 60 := by omega
          have HE2 := Lib.hid (show e + 1 = ((j + 1 : Nat) : Int) by omega)
          have hqs0 := HQS.out m j
          rw [← he] at hqs0
          have hqs : qa k ++ qr m (j + 1) = (qa k ++ qr m j) ++ (match ptf m e with | some p => [p] | none => []) := by rw [hqs0, List.append_assoc]
          clear hqs0
          have hal : (qa k ++ qr m j).length ≤ 1000000000000 := by have := HQL.out m j; rw [List.length_append]; omega
          generalize qa k ++ qr m j = RW at hown hqs hal
          have hne1 := HN1.out m e
          have hne2 := HN2.out m e
          have hye := HY.out m e
          have hgc := fun w => HG.out m e w hm0 hm60 he0 he60
          clear he
          by_cases g1 : (Int.gcd m e : Int) = 1
          · obtain ⟨v1, v2⟩ := HVB.out m e hm0 hm60 he0 he60
            have hrr := fun w => HR.out (vf m e) w (by omega)
            have hrn := rt_nonneg (vf m e)
            have hvv := HV.out m e
            rw [g1] at hgc
            cases g2 : sqB (vf m e)
            · rw [hne2 g2] at hqs
              simp only [List.append_nil] at hqs
              rw [g2] at hrr
              simp only [Bool.false_eq_true, if_false] at hrr
              generalize vf m e = V at *
              have HGC := Lib.hid hgc; have HRR := Lib.hid hrr; have HVV := Lib.hid hvv
              have HQ := Lib.hid hqs
              clear hgc hrr hvv hqs hne1 hne2 hye g1 g2 hrn
              go_wp2_with (first | (go_at_call 94; refine (HGC.out _).mono ?_; rintro e wa ⟨rfl, hba⟩; have hza := hba.size; (try simp only [World.size_alloc, World.size_setCell, World.size_drew, World.heap_drewN] at hza); try (refine keepc hba (w.heap.size) ?_ ?_; (focus (first | omega | (simp <;> omega))); intro hca_0 hfa_0 hla_0); try (refine keepc hba (w.heap.size + 1) ?_ ?_; (focus (first | omega | (simp <;> omega))); intro hca_1 hfa_1 hla_1); try (refine keepc hba (w.heap.size + 1 + 1) ?_ ?_; (focus (first | omega | (simp <;> omega))); intro hca_2 hfa_2 hla_2)) | (go_at_call 95; refine (HVV.out _).mono ?_; rintro e wb ⟨rfl, hbb⟩; have hzb := hbb.size; (try simp only [World.size_alloc, World.size_setCell, World.size_drew, World.heap_drewN] at hzb); try (refine keepc hbb (w.heap.size) ?_ ?_; (focus (first | omega | (simp <;> omega))); intro hcb_0 hfb_0 hlb_0); try (refine keepc hbb (w.heap.size + 1) ?_ ?_; (focus (first | omega | (simp <;> omega))); intro hcb_1 hfb_1 hlb_1); try (refine keepc hbb (w.heap.size + 1 + 1) ?_ ?_; (focus (first | omega | (simp <;> omega))); intro hcb_2 hfb_2 hlb_2)) | (go_at_call 61; refine (HRR.out _).mono ?_; rintro e w1 ⟨rfl, rfl⟩))
              go_roundw
              case rel => exact ⟨j + 1, e + 1, by omega, rfl, HE2, by rw [HQ.out]; exact (hown.below hba).below hbb, bthen2 hbb (bthen2 hba hbw)⟩
              case measure => simp [intOf]; omega
            · rw [hye g1 g2] at hqs
              rw [g2] at hrr
              simp only [if_true] at hrr
              generalize rt (vf m e) = Y at *
              generalize vf m e = V at *
              have HGC := Lib.hid hgc; have HRR := Lib.hid hrr; have HVV := Lib.hid hvv
              have HQ := Lib.hid hqs
              clear hgc hrr hvv hqs hne1 hne2 hye g1 g2
              go_wp2_with (first | (go_at_call 94; refine (HGC.out _).mono ?_; rintro e wa ⟨rfl, hba⟩; have hza := hba.size; (try simp only [World.size_alloc, World.size_setCell, World.size_drew, World.heap_drewN] at hza); try (refine keepc hba (w.heap.size) ?_ ?_; (focus (first | omega | (simp <;> omega))); intro hca_0 hfa_0 hla_0); try (refine keepc hba (w.heap.size + 1) ?_ ?_; (focus (first | omega | (simp <;> omega))); intro hca_1 hfa_1 hla_1); try (refine keepc hba (w.heap.size + 1 + 1) ?_ ?_; (focus (first | omega | (simp <;> omega))); intro hca_2 hfa_2 hla_2)) | (go_at_call 95; refine (HVV.out _).mono ?_; rintro e wb ⟨rfl, hbb⟩; have hzb := hbb.size; (try simp only [World.size_alloc, World.size_setCell, World.size_drew, World.heap_drewN] at hzb); try (refine keepc hbb (w.heap.size) ?_ ?_; (focus (first | omega | (simp <;> omega))); intro hcb_0 hfb_0 hlb_0); try (refine keepc hbb (w.heap.size + 1) ?_ ?_; (focus (first | omega | (simp <;> omega))); intro hcb_1 hfb_1 hlb_1); try (refine keepc hbb (w.heap.size + 1 + 1) ?_ ?_; (focus (first | omega | (simp <;> omega))); intro hcb_2 hfb_2 hlb_2)) | (go_at_call 61; refine (HRR.out _).mono ?_; rintro e w1 ⟨rfl, rfl⟩) | (at_builtin; refine wpl_appLL (W := W1) rfl _ _ rfl W1.heap.size _ RW rfl ((hown.below hba).below hbb) 1 [m, e, Y] _ rfl rfl _ rfl hal (bthen2 hbb (bthen2 hba hbw)) (by omega) ?_; intro ap cp wp hownp hbwp hszp))
              go_roundw
              case rel => exact ⟨j + 1, e + 1, by omega, rfl, HE2, by rw [HQ.out]; exact hownp, hbwp⟩
              case measure => simp [intOf]; omega
          · rw [hne1 g1] at hqs
            simp only [List.append_nil] at hqs
            generalize (Int.gcd m e : Int) = G at *
            have g1' : (G != 1) = true := by simpa using g1
            have HGC := Lib.hid hgc
            have HQ := Lib.hid hqs
            clear hgc hqs hne1 hne2 hye g1
            go_wp2_with (first | (go_at_call 94; refine (HGC.out _).mono ?_; rintro e wa ⟨rfl, hba⟩; have hza := hba.size; (try simp only [World.size_alloc, World.size_setCell, World.size_drew, World.heap_drewN] at hza); try (refine keepc hba (w.heap.size) ?_ ?_; (focus (first | omega | (simp <;> omega))); intro hca_0 hfa_0 hla_0); try (refine keepc hba (w.heap.size + 1) ?_ ?_; (focus (first | omega | (simp <;> omega))); intro hca_1 hfa_1 hla_1); try (refine keepc hba (w.heap.size + 1 + 1) ?_ ?_; (focus (first | omega | (simp <;> omega))); intro hca_2 hfa_2 hla_2)))
            go_roundw
            case rel => exact ⟨j + 1, e + 1, by omega, rfl, HE2, by rw [HQ.out]; exact hown.below hba, bthen2 hba hbw⟩
            case measure => simp [intOf]; omega
        · have hjN : j = N := by have := HN.out; omega
          have HQ := Lib.hid (show qa (k + 1) = qa k ++ qr m j by rw [HPS2.out, hjN])
          clear he hjN
          go_wp2
          go_roundw
          case rel => exact ⟨k + 1, m + 1, by omega, rfl, HX2, by rw [HQ.out]; exact hown, hbw⟩
          case measure => simp [intOf]; omega
    · have hkN : k = N := by have := HX.out; have := HN.out; omega
      have HRE := Lib.hid hkN
      clear hkN
      obtain ⟨ca, cc, rfl⟩ := hown.slice
      go_wp2
      go_ret
      exact ⟨_, _, _, rfl, by rw [← HRE.out]; exact hown.mono (by omega), bthen hB1 hbw⟩

def GivesLB (rows : List (List Int)) (ok : Bool) (w : World) (e : Ending) (w' : World) : Prop := ∃ a len cap, e = .returned (.tuple #[.slice a len cap, .bool ok]) ∧ OwnLL w' w.heap.size (.slice a len cap) rows ∧ Below w.heap.size w w'
def qpOk (d a c M : Int) : Bool := isQ d a c && inB M 1 60
def qpRows (d a c M : Int) : List (List Int) := if qpOk d a c M then qall d a c M (M + 1).toNat else []
theorem isQ_f {d a c : Int} (h : isQ d a c = true) : d.natAbs ≤ 100000 ∧ a.natAbs ≤ 100000 ∧ c.natAbs ≤ 100000 := by
  unfold isQ at h
  simp only [Bool.and_eq_true, inB_iff] at h
  omega
theorem QuarticPoints_any (d a c M : Int) (w : World) : Calls Try.prog 8 #[.agg #[.int .i64 d, .int .i64 a, .int .i64 c], .int .i64 M] w (GivesLB (qpRows d a c M) (qpOk d a c M) w) := by
  have HF := Lib.hid (fun w => isQuartic_any d a c w)
  cases g1 : isQ d a c
  · have E1 := Lib.hid (show qpRows d a c M = [] by simp [qpRows, qpOk, g1])
    have E2 := Lib.hid (show qpOk d a c M = false by simp [qpOk, g1])
    rw [E1.out, E2.out]
    rw [g1] at HF
    go_enter Try.func8, Try.ntmps8
    go_wp2_with (first | (go_at_call 50; refine (HF.out _).mono ?_; rintro e wa ⟨rfl, hba⟩; have hza := hba.size; (try simp only [World.size_alloc, World.size_setCell, World.size_drew, World.heap_drewN] at hza); try (refine keepc hba (w.heap.size) ?_ ?_; (focus (first | omega | (simp <;> omega))); intro hca_0 hfa_0 hla_0); try (refine keepc hba (w.heap.size + 1) ?_ ?_; (focus (first | omega | (simp <;> omega))); intro hca_1 hfa_1 hla_1); try (refine keepc hba (w.heap.size + 1 + 1) ?_ ?_; (focus (first | omega | (simp <;> omega))); intro hca_2 hfa_2 hla_2)))
    go_ret2
    exact ⟨none, 0, 0, rfl, OwnLL.nil _ _, (by repeat' (first | (with_reducible exact Below.refl _ _) | (with_reducible assumption) | (with_reducible refine Below.alloc ?_ ?_ _) | (with_reducible refine Below.setCell ?_ ?_ _) | (with_reducible refine Below.drew ?_) | (with_reducible refine below_drewN ?_ _) | (apply bthen2; (with_reducible assumption)) | go_size))⟩
  · rw [g1] at HF
    cases g2 : inB M 1 60
    · have E1 := Lib.hid (show qpRows d a c M = [] by simp [qpRows, qpOk, g1, g2])
      have E2 := Lib.hid (show qpOk d a c M = false by simp [qpOk, g1, g2])
      rw [E1.out, E2.out]
      go_enter Try.func8, Try.ntmps8
      go_wp2_with (first | (go_at_call 50; refine (HF.out _).mono ?_; rintro e wa ⟨rfl, hba⟩; have hza := hba.size; (try simp only [World.size_alloc, World.size_setCell, World.size_drew, World.heap_drewN] at hza); try (refine keepc hba (w.heap.size) ?_ ?_; (focus (first | omega | (simp <;> omega))); intro hca_0 hfa_0 hla_0); try (refine keepc hba (w.heap.size + 1) ?_ ?_; (focus (first | omega | (simp <;> omega))); intro hca_1 hfa_1 hla_1); try (refine keepc hba (w.heap.size + 1 + 1) ?_ ?_; (focus (first | omega | (simp <;> omega))); intro hca_2 hfa_2 hla_2)) | (go_at_call 51; refine (inside_any _ _ _ _).mono ?_; rintro e w1 ⟨rfl, rfl⟩))
      go_ret2
      exact ⟨none, 0, 0, rfl, OwnLL.nil _ _, (by repeat' (first | (with_reducible exact Below.refl _ _) | (with_reducible assumption) | (with_reducible refine Below.alloc ?_ ?_ _) | (with_reducible refine Below.setCell ?_ ?_ _) | (with_reducible refine Below.drew ?_) | (with_reducible refine below_drewN ?_ _) | (apply bthen2; (with_reducible assumption)) | go_size))⟩
    · have E1 := Lib.hid (show qpRows d a c M = qall d a c M (M + 1).toNat by simp [qpRows, qpOk, g1, g2])
      have E2 := Lib.hid (show qpOk d a c M = true by simp [qpOk, g1, g2])
      rw [E1.out, E2.out]
      have hM := inB_iff.1 g2
      obtain ⟨k1, k2, k3⟩ := isQ_f g1
      have HC := Lib.hid (fun w => points_any d a c M k1 k2 k3 hM.1 hM.2 w)
      clear E1 E2
      generalize qall d a c M (M + 1).toNat = R at *
      go_enter Try.func8, Try.ntmps8
      go_wp2_with (first | (go_at_call 50; refine (HF.out _).mono ?_; rintro e wa ⟨rfl, hba⟩; have hza := hba.size; (try simp only [World.size_alloc, World.size_setCell, World.size_drew, World.heap_drewN] at hza); try (refine keepc hba (w.heap.size) ?_ ?_; (focus (first | omega | (simp <;> omega))); intro hca_0 hfa_0 hla_0); try (refine keepc hba (w.heap.size + 1) ?_ ?_; (focus (first | omega | (simp <;> omega))); intro hca_1 hfa_1 hla_1); try (refine keepc hba (w.heap.size + 1 + 1) ?_ ?_; (focus (first | omega | (simp <;> omega))); intro hca_2 hfa_2 hla_2)) | (go_at_call 51; refine (inside_any _ _ _ _).mono ?_; rintro e w1 ⟨rfl, rfl⟩) | (go_at_call 52; refine (HC.out _).mono ?_; rintro e wb ⟨a1, len1, cap1, rfl, hown, hbb⟩))
      go_ret2
      exact ⟨a1, len1, cap1, rfl, hown.mono (by first | omega | (simp; omega)), (by repeat' (first | (with_reducible exact Below.refl _ _) | (with_reducible assumption) | (with_reducible refine Below.alloc ?_ ?_ _) | (with_reducible refine Below.setCell ?_ ?_ _) | (with_reducible refine Below.drew ?_) | (with_reducible refine below_drewN ?_ _) | (apply bthen2; (with_reducible assumption)) | go_size))⟩
theorem sQuarticPoints_any (d a c M : Int) (w : World) : Calls Try.prog 9 #[.agg #[.int .i64 d, .int .i64 a, .int .i64 c], .int .i64 M] w (GivesLB (qpRows d a c M) (qpOk d a c M) w) := by
  have HF := Lib.hid (fun w => loGood_any d a c w)
  cases g1 : isQ d a c
  · have E1 := Lib.hid (show qpRows d a c M = [] by simp [qpRows, qpOk, g1])
    have E2 := Lib.hid (show qpOk d a c M = false by simp [qpOk, g1])
    rw [E1.out, E2.out]
    rw [g1] at HF
    go_enter Try.func9, Try.ntmps9
    go_wp2_with (first | (go_at_call 53; refine (HF.out _).mono ?_; rintro e wa ⟨rfl, hba⟩; have hza := hba.size; (try simp only [World.size_alloc, World.size_setCell, World.size_drew, World.heap_drewN] at hza); try (refine keepc hba (w.heap.size) ?_ ?_; (focus (first | omega | (simp <;> omega))); intro hca_0 hfa_0 hla_0); try (refine keepc hba (w.heap.size + 1) ?_ ?_; (focus (first | omega | (simp <;> omega))); intro hca_1 hfa_1 hla_1); try (refine keepc hba (w.heap.size + 1 + 1) ?_ ?_; (focus (first | omega | (simp <;> omega))); intro hca_2 hfa_2 hla_2)))
    go_ret2
    exact ⟨none, 0, 0, rfl, OwnLL.nil _ _, (by repeat' (first | (with_reducible exact Below.refl _ _) | (with_reducible assumption) | (with_reducible refine Below.alloc ?_ ?_ _) | (with_reducible refine Below.setCell ?_ ?_ _) | (with_reducible refine Below.drew ?_) | (with_reducible refine below_drewN ?_ _) | (apply bthen2; (with_reducible assumption)) | go_size))⟩
  · rw [g1] at HF
    cases g2 : inB M 1 60
    · have E1 := Lib.hid (show qpRows d a c M = [] by simp [qpRows, qpOk, g1, g2])
      have E2 := Lib.hid (show qpOk d a c M = false by simp [qpOk, g1, g2])
      rw [E1.out, E2.out]
      go_enter Try.func9, Try.ntmps9
      go_wp2_with (first | (go_at_call 53; refine (HF.out _).mono ?_; rintro e wa ⟨rfl, hba⟩; have hza := hba.size; (try simp only [World.size_alloc, World.size_setCell, World.size_drew, World.heap_drewN] at hza); try (refine keepc hba (w.heap.size) ?_ ?_; (focus (first | omega | (simp <;> omega))); intro hca_0 hfa_0 hla_0); try (refine keepc hba (w.heap.size + 1) ?_ ?_; (focus (first | omega | (simp <;> omega))); intro hca_1 hfa_1 hla_1); try (refine keepc hba (w.heap.size + 1 + 1) ?_ ?_; (focus (first | omega | (simp <;> omega))); intro hca_2 hfa_2 hla_2)) | (go_at_call 54; refine (l1In_any _ _ _ _).mono ?_; rintro e w1 ⟨rfl, rfl⟩))
      go_ret2
      exact ⟨none, 0, 0, rfl, OwnLL.nil _ _, (by repeat' (first | (with_reducible exact Below.refl _ _) | (with_reducible assumption) | (with_reducible refine Below.alloc ?_ ?_ _) | (with_reducible refine Below.setCell ?_ ?_ _) | (with_reducible refine Below.drew ?_) | (with_reducible refine below_drewN ?_ _) | (apply bthen2; (with_reducible assumption)) | go_size))⟩
    · have E1 := Lib.hid (show qpRows d a c M = qall d a c M (M + 1).toNat by simp [qpRows, qpOk, g1, g2])
      have E2 := Lib.hid (show qpOk d a c M = true by simp [qpOk, g1, g2])
      rw [E1.out, E2.out]
      have hM := inB_iff.1 g2
      obtain ⟨k1, k2, k3⟩ := isQ_f g1
      have HC := Lib.hid (fun w => seOnQuartic_any d a c M k1 k2 k3 hM.1 hM.2 w)
      clear E1 E2
      generalize qall d a c M (M + 1).toNat = R at *
      go_enter Try.func9, Try.ntmps9
      go_wp2_with (first | (go_at_call 53; refine (HF.out _).mono ?_; rintro e wa ⟨rfl, hba⟩; have hza := hba.size; (try simp only [World.size_alloc, World.size_setCell, World.size_drew, World.heap_drewN] at hza); try (refine keepc hba (w.heap.size) ?_ ?_; (focus (first | omega | (simp <;> omega))); intro hca_0 hfa_0 hla_0); try (refine keepc hba (w.heap.size + 1) ?_ ?_; (focus (first | omega | (simp <;> omega))); intro hca_1 hfa_1 hla_1); try (refine keepc hba (w.heap.size + 1 + 1) ?_ ?_; (focus (first | omega | (simp <;> omega))); intro hca_2 hfa_2 hla_2)) | (go_at_call 54; refine (l1In_any _ _ _ _).mono ?_; rintro e w1 ⟨rfl, rfl⟩) | (go_at_call 55; refine (HC.out _).mono ?_; rintro e wb ⟨a1, len1, cap1, rfl, hown, hbb⟩))
      go_ret2
      exact ⟨a1, len1, cap1, rfl, hown.mono (by first | omega | (simp; omega)), (by repeat' (first | (with_reducible exact Below.refl _ _) | (with_reducible assumption) | (with_reducible refine Below.alloc ?_ ?_ _) | (with_reducible refine Below.setCell ?_ ?_ _) | (with_reducible refine Below.drew ?_) | (with_reducible refine below_drewN ?_ _) | (apply bthen2; (with_reducible assumption)) | go_size))⟩

end Go.Proofs.Ytelkmldmebdcgaa

