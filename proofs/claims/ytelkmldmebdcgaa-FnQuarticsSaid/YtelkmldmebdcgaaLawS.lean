import Derived.Test.YtelkmldmebdcgaaPts
import Derived.Test.YtelkmldmebdcgaaRoot
import Derived.Test.YtelkmldmebdcgaaNumC
import Derived.Test.YtelkmldmebdcgaaLawC
set_option linter.unusedSimpArgs false
set_option linter.unusedVariables false
namespace Go.Proofs.Ytelkmldmebdcgaa
open Go.RowKit
/-! ### searches for points -/

theorem abs_mul {x y : Int} {m n : Nat} (h1 : x.natAbs ≤ m) (h2 : y.natAbs ≤ n) : (x * y).natAbs ≤ m * n := by rw [Int.natAbs_mul]; exact Nat.mul_le_mul h1 h2
theorem cVal_b {a b x e : Int} (h1 : a.natAbs ≤ 1000) (h2 : b.natAbs ≤ 10000) (h3 : x.natAbs ≤ 10000) (h4 : e.natAbs ≤ 20) : -3240000000000 ≤ cVal a b x e ∧ cVal a b x e ≤ 3240000000000 ∧ cVal a b x e = x*x*x + a*x*e*e*e*e + b*e*e*e*e*e*e := by
  have t1 := abs_mul (abs_mul h3 h3) h3
  have t2 := abs_mul (abs_mul (abs_mul (abs_mul (abs_mul h1 h3) h4) h4) h4) h4
  have t3 := abs_mul (abs_mul (abs_mul (abs_mul (abs_mul (abs_mul h2 h4) h4) h4) h4) h4) h4
  unfold cVal
  generalize x*x*x = X at *
  generalize a*x*e*e*e*e = Y at *
  generalize b*e*e*e*e*e*e = Z at *
  rw [win (by omega)]
  omega

/-- the point with an x -/
def pt (a b e x : Int) : Option P3 := if (Int.gcd x e : Int) = 1 ∧ sqB (cVal a b x e) = true then some (x, rt (cVal a b x e), e) else none
def pre (a b e m : Int) (k : Nat) : List P3 := (List.range k).filterMap fun (i : Nat) => pt a b e (-m + (i : Int))
theorem pre_succ (a b e m : Int) (k : Nat) : pre a b e m (k + 1) = pre a b e m k ++ (match pt a b e (-m + (k : Int)) with | some p => [p] | none => []) := by
  unfold pre
  rw [List.range_succ, List.filterMap_append]
  simp only [List.filterMap_cons, List.filterMap_nil]
  split <;> rename_i h <;> simp [h]
theorem pre_len (a b e m : Int) (k : Nat) : (pre a b e m k).length ≤ k := by
  have := List.length_filterMap_le (fun i : Nat => pt a b e (-m + (i : Int))) (List.range k)
  unfold pre
  simpa using this
def ptsE (a b e m : Int) : List P3 := pre a b e m (2 * m + 1).toNat
theorem pt_no1 {a b e x : Int} (h : ¬ (Int.gcd x e : Int) = 1) : pt a b e x = none := by unfold pt; rw [if_neg (fun g => h g.1)]
theorem pt_no2 {a b e x : Int} (h : sqB (cVal a b x e) = false) : pt a b e x = none := by unfold pt; rw [if_neg (fun g => by rw [h] at g; cases g.2)]
theorem pt_yes {a b e x : Int} (h : (Int.gcd x e : Int) = 1) (h2 : sqB (cVal a b x e) = true) : pt a b e x = some (x, rt (cVal a b x e), e) := by unfold pt; rw [if_pos ⟨h, h2⟩]

set_option maxRecDepth 100000 in
set_option maxHeartbeats 2000000 in
theorem pointsWithE_any (a b e m : Int) (a1 : -1000 ≤ a) (a2 : a ≤ 1000) (b1 : -10000 ≤ b) (b2 : b ≤ 10000) (e1 : 1 ≤ e) (e2 : e ≤ 20) (m1 : 0 ≤ m) (m2 : m ≤ 10000) (w : World) :
    Calls Try.prog 74 #[.agg #[.int .i64 a, .int .i64 b], .int .i64 e, .int .i64 m] w (GivesP (ptsE a b e m) w) := by
  have HG := Lib.hid (fun x w (h1 : -10000 ≤ x) (h2 : x ≤ 10000) => (gcd_any x e (by omega) (by omega) (by omega) (by omega) w).mono fun _ _ h => gives_of_quiet h)
  have HV := Lib.hid (fun x w => curveValue_any a b x e w)
  have HVB := Lib.hid (fun x (h1 : -10000 ≤ x) (h2 : x ≤ 10000) => cVal_b (a := a) (b := b) (x := x) (e := e) (by omega) (by omega) (by omega) (by omega))
  have HR := Lib.hid (fun n w h => exactRoot_any n h w)
  have HE := Lib.hid (show ptsE a b e m = pre a b e m (2 * m + 1).toNat from rfl)
  have HPS := Lib.hid (fun k => pre_succ a b e m k)
  have HPL := Lib.hid (fun k => pre_len a b e m k)
  have HP0 := Lib.hid (show pre a b e m 0 = [] from rfl)
  have HN1 := Lib.hid (fun x => @pt_no1 a b e x)
  have HN2 := Lib.hid (fun x => @pt_no2 a b e x)
  have HY := Lib.hid (fun x => @pt_yes a b e x)
  generalize ptsE a b e m = R at *
  generalize hN : (2 * m + 1).toNat = N at *
  generalize pre a b e m = pr at *
  generalize pt a b e = ptf at *
  have hN2 : 2 * m + 1 = (N : Int) := by omega
  have HN := Lib.hid hN2
  have hNb : N ≤ 20001 := by omega
  clear hN hN2
  go_enter Try.func74, Try.ntmps74
  go_wp2
  refine name_world (fun W1 hW1 => ?_)
  have c0 : W1.cell? ⟨w.heap.size, 0, none⟩ = some (.int .i64 a) := by rw [hW1]; simp
  have c1 : W1.cell? ⟨w.heap.size, 1, none⟩ = some (.int .i64 b) := by rw [hW1]; simp
  have hB1 : Below w.heap.size w W1 := by rw [hW1]; repeat' (first | (with_reducible exact Below.refl _ _) | (with_reducible assumption) | (with_reducible refine Below.alloc ?_ ?_ _) | (with_reducible refine Below.setCell ?_ ?_ _) | (with_reducible refine Below.drew ?_) | (with_reducible refine below_drewN ?_ _) | (apply bthen2; (with_reducible assumption)) | go_size)
  have hs1 : w.heap.size < W1.heap.size := by rw [hW1]; simp
  clear hW1
  go_loopw [7, 8] (fun v7 v8 wr => ∃ (k : Nat) (x : Int), k ≤ N ∧ v8 = .int .i64 x ∧ Hid (x = -m + (k : Int)) ∧ OwnP wr W1.heap.size v7 (pr k) ∧ Below W1.heap.size W1 wr) (fun _ v8 _ => (m + 1 - intOf v8).toNat)
  case atStart => exact ⟨0, -m, by omega, rfl, Lib.hid (by simp), by rw [HP0.out]; exact OwnP.nil _ _, Below.refl _ _⟩
  case round =>
    clear HP0
    obtain ⟨k, x, hk, rfl, HX, hown, hbw⟩ := hrel
    have hx := HX.out
    have hN := HN.out
    have hz := hbw.size
    have d0 := (hbw.cell (p := ⟨w.heap.size, 0, none⟩) hs1).trans c0
    have d1 := (hbw.cell (p := ⟨w.heap.size, 1, none⟩) hs1).trans c1
    by_cases hlt : x ≤ m
    · have x1 : -10000 ≤ x := by omega
      have x2 : x ≤ 10000 := by omega
      have hk2 : k + 1 ≤ N := by omega
      have HX2 := Lib.hid (show x + 1 = -m + ((k + 1 : Nat) : Int) by omega)
      have hps := HPS.out k
      rw [← hx] at hps
      obtain ⟨ca, cc, rfl⟩ := hown.slice
      have hal : (pr k).length ≤ 1000000000000 := by have := HPL.out k; omega
      have hne1 := HN1.out x
      have hne2 := HN2.out x
      have hye := HY.out x
      have hgc := HG.out x
      have hgc1 := fun w => hgc w x1 x2
      clear hx hN
      by_cases g1 : (Int.gcd x e : Int) = 1
      · obtain ⟨v1, v2, -⟩ := HVB.out x x1 x2
        have hrr := fun w => HR.out (cVal a b x e) w (by omega)
        have hvv := HV.out x
        rw [g1] at hgc1
        cases g2 : sqB (cVal a b x e)
        · rw [hne2 g2] at hps
          simp only [List.append_nil] at hps
          unfold xrR at hrr
          rw [g2] at hrr
          simp only [Bool.false_eq_true, if_false] at hrr
          generalize cVal a b x e = V at *
          have HGC := Lib.hid hgc1; have HRR := Lib.hid hrr; have HVV := Lib.hid hvv
          have HQ := Lib.hid hps
          clear hgc1 hrr hvv hps hne1 hne2 hye hgc g1 g2
          go_wp2_with (first | (go_at_call 93; refine (HGC.out _).mono ?_; rintro e wa ⟨rfl, hba⟩; have hza := hba.size; (try simp only [World.size_alloc, World.size_setCell, World.size_drew, World.heap_drewN] at hza); try (refine keepc hba (w.heap.size) ?_ ?_; (focus (first | omega | (simp <;> omega))); intro hca_0 hfa_0 hla_0); try (refine keepc hba (w.heap.size + 1) ?_ ?_; (focus (first | omega | (simp <;> omega))); intro hca_1 hfa_1 hla_1); try (refine keepc hba (w.heap.size + 1 + 1) ?_ ?_; (focus (first | omega | (simp <;> omega))); intro hca_2 hfa_2 hla_2)) | (go_at_call 65; refine (HVV.out _).mono ?_; rintro e wb ⟨rfl, hbb⟩; have hzb := hbb.size; (try simp only [World.size_alloc, World.size_setCell, World.size_drew, World.heap_drewN] at hzb); try (refine keepc hbb (w.heap.size) ?_ ?_; (focus (first | omega | (simp <;> omega))); intro hcb_0 hfb_0 hlb_0); try (refine keepc hbb (w.heap.size + 1) ?_ ?_; (focus (first | omega | (simp <;> omega))); intro hcb_1 hfb_1 hlb_1); try (refine keepc hbb (w.heap.size + 1 + 1) ?_ ?_; (focus (first | omega | (simp <;> omega))); intro hcb_2 hfb_2 hlb_2)) | (go_at_call 58; refine (HRR.out _).mono ?_; rintro e w1 ⟨rfl, rfl⟩))
          go_roundw
          case rel => exact ⟨k + 1, x + 1, hk2, rfl, HX2, by rw [HQ.out]; exact (hown.below hba).below hbb, bthen2 hbb (bthen2 hba hbw)⟩
          case measure => simp [intOf]; omega
        · rw [hye g1 g2] at hps
          unfold xrR at hrr
          rw [g2] at hrr
          simp only [if_true] at hrr
          generalize cVal a b x e = V at *
          generalize rt V = Y at *
          have HGC := Lib.hid hgc1; have HRR := Lib.hid hrr; have HVV := Lib.hid hvv
          have HQ := Lib.hid hps
          clear hgc1 hrr hvv hps hne1 hne2 hye hgc g1 g2
          go_wp2_with (first | (go_at_call 93; refine (HGC.out _).mono ?_; rintro e wa ⟨rfl, hba⟩; have hza := hba.size; (try simp only [World.size_alloc, World.size_setCell, World.size_drew, World.heap_drewN] at hza); try (refine keepc hba (w.heap.size) ?_ ?_; (focus (first | omega | (simp <;> omega))); intro hca_0 hfa_0 hla_0); try (refine keepc hba (w.heap.size + 1) ?_ ?_; (focus (first | omega | (simp <;> omega))); intro hca_1 hfa_1 hla_1); try (refine keepc hba (w.heap.size + 1 + 1) ?_ ?_; (focus (first | omega | (simp <;> omega))); intro hca_2 hfa_2 hla_2)) | (go_at_call 65; refine (HVV.out _).mono ?_; rintro e wb ⟨rfl, hbb⟩; have hzb := hbb.size; (try simp only [World.size_alloc, World.size_setCell, World.size_drew, World.heap_drewN] at hzb); try (refine keepc hbb (w.heap.size) ?_ ?_; (focus (first | omega | (simp <;> omega))); intro hcb_0 hfb_0 hlb_0); try (refine keepc hbb (w.heap.size + 1) ?_ ?_; (focus (first | omega | (simp <;> omega))); intro hcb_1 hfb_1 hlb_1); try (refine keepc hbb (w.heap.size + 1 + 1) ?_ ?_; (focus (first | omega | (simp <;> omega))); intro hcb_2 hfb_2 hlb_2)) | (go_at_call 58; refine (HRR.out _).mono ?_; rintro e w1 ⟨rfl, rfl⟩) | (at_builtin; refine wpl_appP rfl _ _ rfl W1.heap.size _ (pr k) rfl (((hown.below hba).below hbb).alloc _) wb.heap.size 1 (x, Y, e) rfl (by simp) (by simp) (by simp) hal (Below.alloc (bthen2 hbb (bthen2 hba hbw)) (by omega) _) (by simp; omega) ?_; intro ap cp wp hownp hbwp hszp))
          go_roundw
          case rel => exact ⟨k + 1, x + 1, hk2, rfl, HX2, by rw [HQ.out]; exact hownp, hbwp⟩
          case measure => simp [intOf]; omega
      · rw [hne1 g1] at hps
        simp only [List.append_nil] at hps
        generalize (Int.gcd x e : Int) = G at *
        have g1' : (G != 1) = true := by simpa using g1
        have HGC := Lib.hid hgc1
        have HQ := Lib.hid hps
        clear hgc1 hps hne1 hne2 hye hgc g1
        go_wp2_with (first | (go_at_call 93; refine (HGC.out _).mono ?_; rintro e wa ⟨rfl, hba⟩; have hza := hba.size; (try simp only [World.size_alloc, World.size_setCell, World.size_drew, World.heap_drewN] at hza); try (refine keepc hba (w.heap.size) ?_ ?_; (focus (first | omega | (simp <;> omega))); intro hca_0 hfa_0 hla_0); try (refine keepc hba (w.heap.size + 1) ?_ ?_; (focus (first | omega | (simp <;> omega))); intro hca_1 hfa_1 hla_1); try (refine keepc hba (w.heap.size + 1 + 1) ?_ ?_; (focus (first | omega | (simp <;> omega))); intro hca_2 hfa_2 hla_2)))
        go_roundw
        case rel => exact ⟨k + 1, x + 1, hk2, rfl, HX2, by rw [HQ.out]; exact hown.below hba, bthen2 hba hbw⟩
        case measure => simp [intOf]; omega
    · have hkN : k = N := by omega
      have HRE := Lib.hid (show R = pr k by rw [HE.out, hkN])
      clear hx hN hkN
      obtain ⟨ca, cc, rfl⟩ := hown.slice
      go_wp2
      go_ret
      exact ⟨_, _, _, rfl, by rw [HRE.out]; exact hown.mono (by omega), bthen hB1 hbw⟩

def spR : Option P3 → Value
  | some (x, y, e) => .tuple #[.agg #[.int .i64 x, .int .i64 y, .int .i64 e], .bool true]
  | none => .tuple #[.agg #[.int .i64 0, .int .i64 0, .int .i64 0], .bool false]
theorem sePoint_any (a b e x : Int) (a1 : -1000 ≤ a) (a2 : a ≤ 1000) (b1 : -10000 ≤ b) (b2 : b ≤ 10000) (e1 : 1 ≤ e) (e2 : e ≤ 20) (x1 : -10000 ≤ x) (x2 : x ≤ 10000) (w : World) :
    Calls Try.prog 102 #[.agg #[.int .i64 a, .int .i64 b], .int .i64 x, .int .i64 e] w (Gives (spR (pt a b e x)) w) := by
  have HA := Lib.hid (show ∀ w, Calls Try.prog 125 #[.int .i64 x] w (Same (.int .i64 (max x (-x))) w) from fun w => by have := l1Abs_any x w; rwa [win (n := -x) (by omega)] at this)
  have hgc := fun w => bgCommon_any (max x (-x)) e (by omega) (by omega) w
  have hgx : Int.gcd (max x (-x)) e = Int.gcd x e := by unfold Int.gcd; rw [show (max x (-x)).natAbs = x.natAbs by omega]
  rw [hgx] at hgc
  have HV := Lib.hid (fun w => seValue_any a b x e w)
  obtain ⟨v1, v2, -⟩ := cVal_b (a := a) (b := b) (x := x) (e := e) (by omega) (by omega) (by omega) (by omega)
  have hrr := fun w => seRoot_any (cVal a b x e) (by omega) w
  have hrn := rt_nonneg (cVal a b x e)
  by_cases g1 : (Int.gcd x e : Int) = 1
  · rw [g1] at hgc
    have HG := Lib.hid hgc
    clear hgc hgx
    cases g2 : sqB (cVal a b x e)
    · have E := Lib.hid (show spR (pt a b e x) = .tuple #[.agg #[.int .i64 0, .int .i64 0, .int .i64 0], .bool false] by rw [pt_no2 g2]; rfl)
      rw [g2] at hrr
      simp only [Bool.false_eq_true, if_false] at hrr
      have HR := Lib.hid hrr
      clear g1 g2 hrr hrn v1 v2
      generalize cVal a b x e = V at *
      generalize spR (pt a b e x) = R at *
      go_enter Try.func102, Try.ntmps102
      go_wp2_with (first | (go_at_call 125; refine (HA.out _).mono ?_; rintro e w1 ⟨rfl, rfl⟩) | (go_at_call 94; refine (HG.out _).mono ?_; rintro e w1 ⟨rfl, rfl⟩) | (go_at_call 67; refine (HV.out _).mono ?_; rintro e wa ⟨rfl, hba⟩; have hza := hba.size; (try simp only [World.size_alloc, World.size_setCell, World.size_drew, World.heap_drewN] at hza); try (refine keepc hba (w.heap.size) ?_ ?_; (focus (first | omega | (simp <;> omega))); intro hca_0 hfa_0 hla_0); try (refine keepc hba (w.heap.size + 1) ?_ ?_; (focus (first | omega | (simp <;> omega))); intro hca_1 hfa_1 hla_1); try (refine keepc hba (w.heap.size + 1 + 1) ?_ ?_; (focus (first | omega | (simp <;> omega))); intro hca_2 hfa_2 hla_2)) | (go_at_call 61; refine (HR.out _).mono ?_; rintro e w1 ⟨rfl, rfl⟩))
      exact bodyPost_ret (v := R) (by rw [E.out]; simp [results, Try.results102, go_sem, hca_1]) rfl (gives rfl (by repeat' (first | (with_reducible exact Below.refl _ _) | (with_reducible assumption) | (with_reducible refine Below.alloc ?_ ?_ _) | (with_reducible refine Below.setCell ?_ ?_ _) | (with_reducible refine Below.drew ?_) | (with_reducible refine below_drewN ?_ _) | (apply bthen2; (with_reducible assumption)) | go_size)))
    · have E := Lib.hid (show spR (pt a b e x) = .tuple #[.agg #[.int .i64 x, .int .i64 (rt (cVal a b x e)), .int .i64 e], .bool true] by rw [pt_yes g1 g2]; rfl)
      rw [g2] at hrr
      simp only [if_true] at hrr
      have HR := Lib.hid hrr
      clear g1 g2 hrr v1 v2
      generalize spR (pt a b e x) = R at *
      generalize rt (cVal a b x e) = Y at *
      generalize cVal a b x e = V at *
      go_enter Try.func102, Try.ntmps102
      go_wp2_with (first | (go_at_call 125; refine (HA.out _).mono ?_; rintro e w1 ⟨rfl, rfl⟩) | (go_at_call 94; refine (HG.out _).mono ?_; rintro e w1 ⟨rfl, rfl⟩) | (go_at_call 67; refine (HV.out _).mono ?_; rintro e wa ⟨rfl, hba⟩; have hza := hba.size; (try simp only [World.size_alloc, World.size_setCell, World.size_drew, World.heap_drewN] at hza); try (refine keepc hba (w.heap.size) ?_ ?_; (focus (first | omega | (simp <;> omega))); intro hca_0 hfa_0 hla_0); try (refine keepc hba (w.heap.size + 1) ?_ ?_; (focus (first | omega | (simp <;> omega))); intro hca_1 hfa_1 hla_1); try (refine keepc hba (w.heap.size + 1 + 1) ?_ ?_; (focus (first | omega | (simp <;> omega))); intro hca_2 hfa_2 hla_2)) | (go_at_call 61; refine (HR.out _).mono ?_; rintro e w1 ⟨rfl, rfl⟩))
      exact bodyPost_ret (v := R) (by rw [E.out]; simp [results, Try.results102, go_sem, hca_1]) rfl (gives rfl (by repeat' (first | (with_reducible exact Below.refl _ _) | (with_reducible assumption) | (with_reducible refine Below.alloc ?_ ?_ _) | (with_reducible refine Below.setCell ?_ ?_ _) | (with_reducible refine Below.drew ?_) | (with_reducible refine below_drewN ?_ _) | (apply bthen2; (with_reducible assumption)) | go_size)))
  · have E := Lib.hid (show spR (pt a b e x) = .tuple #[.agg #[.int .i64 0, .int .i64 0, .int .i64 0], .bool false] by rw [pt_no1 g1]; rfl)
    have HG := Lib.hid hgc
    clear hgc hgx hrr hrn v1 v2
    generalize spR (pt a b e x) = R at *
    generalize (Int.gcd x e : Int) = G at *
    have g1' : (G != 1) = true := by simpa using g1
    clear g1
    go_enter Try.func102, Try.ntmps102
    go_wp2_with (first | (go_at_call 125; refine (HA.out _).mono ?_; rintro e w1 ⟨rfl, rfl⟩) | (go_at_call 94; refine (HG.out _).mono ?_; rintro e w1 ⟨rfl, rfl⟩))
    exact bodyPost_ret (v := R) (by rw [E.out]; simp [results, Try.results102, go_sem]) rfl (gives rfl (by repeat' (first | (with_reducible exact Below.refl _ _) | (with_reducible assumption) | (with_reducible refine Below.alloc ?_ ?_ _) | (with_reducible refine Below.setCell ?_ ?_ _) | (with_reducible refine Below.drew ?_) | (with_reducible refine below_drewN ?_ _) | (apply bthen2; (with_reducible assumption)) | go_size)))

set_option maxRecDepth 100000 in
set_option maxHeartbeats 2000000 in
theorem seWith_any (a b e m : Int) (a1 : -1000 ≤ a) (a2 : a ≤ 1000) (b1 : -10000 ≤ b) (b2 : b ≤ 10000) (e1 : 1 ≤ e) (e2 : e ≤ 20) (m1 : 0 ≤ m) (m2 : m ≤ 10000) (w : World) :
    Calls Try.prog 71 #[.agg #[.int .i64 a, .int .i64 b], .int .i64 e, .int .i64 m] w (GivesP (ptsE a b e m) w) := by
  have HSP := Lib.hid (fun x w (x1 : -10000 ≤ x) (x2 : x ≤ 10000) => sePoint_any a b e x a1 a2 b1 b2 e1 e2 x1 x2 w)
  have HE := Lib.hid (show ptsE a b e m = pre a b e m (2 * m + 1).toNat from rfl)
  have HPS := Lib.hid (fun k => pre_succ a b e m k)
  have HPL := Lib.hid (fun k => pre_len a b e m k)
  have HP0 := Lib.hid (show pre a b e m 0 = [] from rfl)
  generalize ptsE a b e m = R at *
  generalize hN : (2 * m + 1).toNat = N at *
  generalize pre a b e m = pr at *
  generalize pt a b e = ptf at *
  have hN2 : 2 * m + 1 = (N : Int) := by omega
  have HN := Lib.hid hN2
  have hNb : N ≤ 20001 := by omega
  clear hN hN2
  go_enter Try.func71, Try.ntmps71
  go_wp2
  refine name_world (fun W1 hW1 => ?_)
  have c0 : W1.cell? ⟨w.heap.size, 0, none⟩ = some (.int .i64 a) := by rw [hW1]; simp
  have c1 : W1.cell? ⟨w.heap.size, 1, none⟩ = some (.int .i64 b) := by rw [hW1]; simp
  have hB1 : Below w.heap.size w W1 := by rw [hW1]; repeat' (first | (with_reducible exact Below.refl _ _) | (with_reducible assumption) | (with_reducible refine Below.alloc ?_ ?_ _) | (with_reducible refine Below.setCell ?_ ?_ _) | (with_reducible refine Below.drew ?_) | (with_reducible refine below_drewN ?_ _) | (apply bthen2; (with_reducible assumption)) | go_size)
  have hs1 : w.heap.size < W1.heap.size := by rw [hW1]; simp
  clear hW1
  go_loopw [7, 8] (fun v7 v8 wr => ∃ (k : Nat) (x : Int), k ≤ N ∧ v8 = .int .i64 x ∧ Hid (x = -m + (k : Int)) ∧ OwnP wr W1.heap.size v7 (pr k) ∧ Below W1.heap.size W1 wr) (fun _ v8 _ => (m + 1 - intOf v8).toNat)
  case atStart => exact ⟨0, -m, by omega, rfl, Lib.hid (by simp), by rw [HP0.out]; exact OwnP.nil _ _, Below.refl _ _⟩
  case round =>
    clear HP0
    obtain ⟨k, x, hk, rfl, HX, hown, hbw⟩ := hrel
    have hx := HX.out
    have hN := HN.out
    have hz := hbw.size
    have d0 := (hbw.cell (p := ⟨w.heap.size, 0, none⟩) hs1).trans c0
    have d1 := (hbw.cell (p := ⟨w.heap.size, 1, none⟩) hs1).trans c1
    by_cases hlt : x ≤ m
    · have x1 : -10000 ≤ x := by omega
      have x2 : x ≤ 10000 := by omega
      have hk2 : k + 1 ≤ N := by omega
      have HX2 := Lib.hid (show x + 1 = -m + ((k + 1 : Nat) : Int) by omega)
      have hps := HPS.out k
      rw [← hx] at hps
      obtain ⟨ca, cc, rfl⟩ := hown.slice
      have hal : (pr k).length ≤ 1000000000000 := by have := HPL.out k; omega
      have hsp := fun w => HSP.out x w (by omega) (by omega)
      clear hx hN
      cases hpt : ptf x with
      | none =>
        rw [hpt] at hps hsp
        simp only [List.append_nil] at hps
        unfold spR at hsp
        dsimp only at hsp
        have HQ := Lib.hid hps
        have HS := Lib.hid hsp
        clear hps hsp hpt
        go_wp2_with (first | (go_at_call 102; refine (HS.out _).mono ?_; rintro e wa ⟨rfl, hba⟩; have hza := hba.size; (try simp only [World.size_alloc, World.size_setCell, World.size_drew, World.heap_drewN] at hza); try (refine keepc hba (w.heap.size) ?_ ?_; (focus (first | omega | (simp <;> omega))); intro hca_0 hfa_0 hla_0); try (refine keepc hba (w.heap.size + 1) ?_ ?_; (focus (first | omega | (simp <;> omega))); intro hca_1 hfa_1 hla_1); try (refine keepc hba (w.heap.size + 1 + 1) ?_ ?_; (focus (first | omega | (simp <;> omega))); intro hca_2 hfa_2 hla_2)))
        go_roundw
        case rel => exact ⟨k + 1, x + 1, hk2, rfl, HX2, by rw [HQ.out]; refine OwnP.below (hown.below hba) ?_; repeat' (first | (with_reducible exact Below.refl _ _) | (with_reducible assumption) | (with_reducible refine Below.alloc ?_ ?_ _) | (with_reducible refine Below.setCell ?_ ?_ _) | (with_reducible refine Below.drew ?_) | (with_reducible refine below_drewN ?_ _) | (apply bthen2; (with_reducible assumption)) | go_size), (by repeat' (first | (with_reducible exact Below.refl _ _) | (with_reducible assumption) | (with_reducible refine Below.alloc ?_ ?_ _) | (with_reducible refine Below.setCell ?_ ?_ _) | (with_reducible refine Below.drew ?_) | (with_reducible refine below_drewN ?_ _) | (apply bthen2; (with_reducible assumption)) | go_size))⟩
        case measure => simp [intOf]; omega
      | some p =>
        obtain ⟨px, py, pe⟩ := p
        rw [hpt] at hps hsp
        unfold spR at hsp
        dsimp only at hsp
        have HQ := Lib.hid hps
        have HS := Lib.hid hsp
        clear hps hsp hpt
        go_wp2_with (first | (go_at_call 102; refine (HS.out _).mono ?_; rintro e wa ⟨rfl, hba⟩; have hza := hba.size; (try simp only [World.size_alloc, World.size_setCell, World.size_drew, World.heap_drewN] at hza); try (refine keepc hba (w.heap.size) ?_ ?_; (focus (first | omega | (simp <;> omega))); intro hca_0 hfa_0 hla_0); try (refine keepc hba (w.heap.size + 1) ?_ ?_; (focus (first | omega | (simp <;> omega))); intro hca_1 hfa_1 hla_1); try (refine keepc hba (w.heap.size + 1 + 1) ?_ ?_; (focus (first | omega | (simp <;> omega))); intro hca_2 hfa_2 hla_2)) | (at_builtin; refine wpl_appP (W := W1) rfl _ _ rfl W1.heap.size _ (pr k) rfl (OwnP.below (hown.below hba) (by repeat' (first | (with_reducible exact Below.refl _ _) | (with_reducible assumption) | (with_reducible refine Below.alloc ?_ ?_ _) | (with_reducible refine Below.setCell ?_ ?_ _) | (with_reducible refine Below.drew ?_) | (with_reducible refine below_drewN ?_ _) | (apply bthen2; (with_reducible assumption)) | go_size))) (wa.heap.size + 1) 1 (px, py, pe) rfl (by simp) (by simp) (by simp) hal (by repeat' (first | (with_reducible exact Below.refl _ _) | (with_reducible assumption) | (with_reducible refine Below.alloc ?_ ?_ _) | (with_reducible refine Below.setCell ?_ ?_ _) | (with_reducible refine Below.drew ?_) | (with_reducible refine below_drewN ?_ _) | (apply bthen2; (with_reducible assumption)) | go_size)) (by simp; omega) ?_; intro ap cp wp hownp hbwp hszp))
        go_roundw
        case rel => exact ⟨k + 1, x + 1, hk2, rfl, HX2, by rw [HQ.out]; exact hownp, hbwp⟩
        case measure => simp [intOf]; omega
    · have hkN : k = N := by omega
      have HRE := Lib.hid (show R = pr k by rw [HE.out, hkN])
      clear hx hN hkN
      obtain ⟨ca, cc, rfl⟩ := hown.slice
      go_wp2
      go_ret
      exact ⟨_, _, _, rfl, by rw [HRE.out]; exact hown.mono (by omega), bthen hB1 hbw⟩

def GivesPB (ps : List P3) (ok : Bool) (w : World) (e : Ending) (w' : World) : Prop := ∃ a len cap, e = .returned (.tuple #[.slice a len cap, .bool ok]) ∧ OwnP w' w.heap.size (.slice a len cap) ps ∧ Below w.heap.size w w'
def peOk (a b e m : Int) : Bool := sFit a b m e && decide (0 ≤ m)
def pePs (a b e m : Int) : List P3 := if peOk a b e m then ptsE a b e m else []
theorem sFit_f {a b x e : Int} (h : sFit a b x e = true) : -1000 ≤ a ∧ a ≤ 1000 ∧ -10000 ≤ b ∧ b ≤ 10000 ∧ -10000 ≤ x ∧ x ≤ 10000 ∧ 1 ≤ e ∧ e ≤ 20 := by
  unfold sFit isC at h
  simp only [Bool.and_eq_true, inB_iff] at h
  omega

theorem PointsWithE_any (a b e m : Int) (w : World) : Calls Try.prog 26 #[.agg #[.int .i64 a, .int .i64 b], .int .i64 e, .int .i64 m] w (GivesPB (pePs a b e m) (peOk a b e m) w) := by
  have HF := Lib.hid (fun w => searchFits_any a b m e w)
  cases g1 : sFit a b m e
  · have E1 := Lib.hid (show pePs a b e m = [] by simp [pePs, peOk, g1])
    have E2 := Lib.hid (show peOk a b e m = false by simp [peOk, g1])
    rw [E1.out, E2.out]
    rw [g1] at HF
    go_enter Try.func26, Try.ntmps26
    go_wp2_with (first | (go_at_call 64; refine (HF.out _).mono ?_; rintro e wa ⟨rfl, hba⟩; have hza := hba.size; (try simp only [World.size_alloc, World.size_setCell, World.size_drew, World.heap_drewN] at hza); try (refine keepc hba (w.heap.size) ?_ ?_; (focus (first | omega | (simp <;> omega))); intro hca_0 hfa_0 hla_0); try (refine keepc hba (w.heap.size + 1) ?_ ?_; (focus (first | omega | (simp <;> omega))); intro hca_1 hfa_1 hla_1); try (refine keepc hba (w.heap.size + 1 + 1) ?_ ?_; (focus (first | omega | (simp <;> omega))); intro hca_2 hfa_2 hla_2)))
    go_ret2
    exact ⟨none, 0, 0, rfl, OwnP.nil _ _, (by repeat' (first | (with_reducible exact Below.refl _ _) | (with_reducible assumption) | (with_reducible refine Below.alloc ?_ ?_ _) | (with_reducible refine Below.setCell ?_ ?_ _) | (with_reducible refine Below.drew ?_) | (with_reducible refine below_drewN ?_ _) | (apply bthen2; (with_reducible assumption)) | go_size))⟩
  · rw [g1] at HF
    by_cases g2 : 0 ≤ m
    · have E1 := Lib.hid (show pePs a b e m = ptsE a b e m by simp [pePs, peOk, g1, g2])
      have E2 := Lib.hid (show peOk a b e m = true by simp [peOk, g1, g2])
      rw [E1.out, E2.out]
      obtain ⟨k1, k2, k3, k4, k5, k6, k7, k8⟩ := sFit_f g1
      have HC := Lib.hid (fun w => pointsWithE_any a b e m k1 k2 k3 k4 k7 k8 g2 k6 w)
      clear E1 E2
      generalize ptsE a b e m = R at *
      go_enter Try.func26, Try.ntmps26
      go_wp2_with (first | (go_at_call 64; refine (HF.out _).mono ?_; rintro e wa ⟨rfl, hba⟩; have hza := hba.size; (try simp only [World.size_alloc, World.size_setCell, World.size_drew, World.heap_drewN] at hza); try (refine keepc hba (w.heap.size) ?_ ?_; (focus (first | omega | (simp <;> omega))); intro hca_0 hfa_0 hla_0); try (refine keepc hba (w.heap.size + 1) ?_ ?_; (focus (first | omega | (simp <;> omega))); intro hca_1 hfa_1 hla_1); try (refine keepc hba (w.heap.size + 1 + 1) ?_ ?_; (focus (first | omega | (simp <;> omega))); intro hca_2 hfa_2 hla_2)) | (go_at_call 74; refine (HC.out _).mono ?_; rintro e wb ⟨a1, len1, cap1, rfl, hown, hbb⟩))
      go_ret2
      exact ⟨a1, len1, cap1, rfl, hown.mono (by first | omega | (simp; omega)), (by repeat' (first | (with_reducible exact Below.refl _ _) | (with_reducible assumption) | (with_reducible refine Below.alloc ?_ ?_ _) | (with_reducible refine Below.setCell ?_ ?_ _) | (with_reducible refine Below.drew ?_) | (with_reducible refine below_drewN ?_ _) | (apply bthen2; (with_reducible assumption)) | go_size))⟩
    · have E1 := Lib.hid (show pePs a b e m = [] by simp [pePs, peOk, g1, g2])
      have E2 := Lib.hid (show peOk a b e m = false by simp [peOk, g1, g2])
      rw [E1.out, E2.out]
      go_enter Try.func26, Try.ntmps26
      go_wp2_with (first | (go_at_call 64; refine (HF.out _).mono ?_; rintro e wa ⟨rfl, hba⟩; have hza := hba.size; (try simp only [World.size_alloc, World.size_setCell, World.size_drew, World.heap_drewN] at hza); try (refine keepc hba (w.heap.size) ?_ ?_; (focus (first | omega | (simp <;> omega))); intro hca_0 hfa_0 hla_0); try (refine keepc hba (w.heap.size + 1) ?_ ?_; (focus (first | omega | (simp <;> omega))); intro hca_1 hfa_1 hla_1); try (refine keepc hba (w.heap.size + 1 + 1) ?_ ?_; (focus (first | omega | (simp <;> omega))); intro hca_2 hfa_2 hla_2)))
      go_ret2
      exact ⟨none, 0, 0, rfl, OwnP.nil _ _, (by repeat' (first | (with_reducible exact Below.refl _ _) | (with_reducible assumption) | (with_reducible refine Below.alloc ?_ ?_ _) | (with_reducible refine Below.setCell ?_ ?_ _) | (with_reducible refine Below.drew ?_) | (with_reducible refine below_drewN ?_ _) | (apply bthen2; (with_reducible assumption)) | go_size))⟩
theorem sPointsWithE_any (a b e m : Int) (w : World) : Calls Try.prog 27 #[.agg #[.int .i64 a, .int .i64 b], .int .i64 e, .int .i64 m] w (GivesPB (pePs a b e m) (peOk a b e m) w) := by
  have HF := Lib.hid (fun w => seAsked_any a b m e w)
  cases g1 : sFit a b m e
  · have E1 := Lib.hid (show pePs a b e m = [] by simp [pePs, peOk, g1])
    have E2 := Lib.hid (show peOk a b e m = false by simp [peOk, g1])
    rw [E1.out, E2.out]
    rw [g1] at HF
    go_enter Try.func27, Try.ntmps27
    go_wp2_with (first | (go_at_call 66; refine (HF.out _).mono ?_; rintro e wa ⟨rfl, hba⟩; have hza := hba.size; (try simp only [World.size_alloc, World.size_setCell, World.size_drew, World.heap_drewN] at hza); try (refine keepc hba (w.heap.size) ?_ ?_; (focus (first | omega | (simp <;> omega))); intro hca_0 hfa_0 hla_0); try (refine keepc hba (w.heap.size + 1) ?_ ?_; (focus (first | omega | (simp <;> omega))); intro hca_1 hfa_1 hla_1); try (refine keepc hba (w.heap.size + 1 + 1) ?_ ?_; (focus (first | omega | (simp <;> omega))); intro hca_2 hfa_2 hla_2)))
    go_ret2
    exact ⟨none, 0, 0, rfl, OwnP.nil _ _, (by repeat' (first | (with_reducible exact Below.refl _ _) | (with_reducible assumption) | (with_reducible refine Below.alloc ?_ ?_ _) | (with_reducible refine Below.setCell ?_ ?_ _) | (with_reducible refine Below.drew ?_) | (with_reducible refine below_drewN ?_ _) | (apply bthen2; (with_reducible assumption)) | go_size))⟩
  · rw [g1] at HF
    by_cases g2 : 0 ≤ m
    · have E1 := Lib.hid (show pePs a b e m = ptsE a b e m by simp [pePs, peOk, g1, g2])
      have E2 := Lib.hid (show peOk a b e m = true by simp [peOk, g1, g2])
      rw [E1.out, E2.out]
      obtain ⟨k1, k2, k3, k4, k5, k6, k7, k8⟩ := sFit_f g1
      have HC := Lib.hid (fun w => seWith_any a b e m k1 k2 k3 k4 k7 k8 g2 k6 w)
      clear E1 E2
      generalize ptsE a b e m = R at *
      go_enter Try.func27, Try.ntmps27
      go_wp2_with (first | (go_at_call 66; refine (HF.out _).mono ?_; rintro e wa ⟨rfl, hba⟩; have hza := hba.size; (try simp only [World.size_alloc, World.size_setCell, World.size_drew, World.heap_drewN] at hza); try (refine keepc hba (w.heap.size) ?_ ?_; (focus (first | omega | (simp <;> omega))); intro hca_0 hfa_0 hla_0); try (refine keepc hba (w.heap.size + 1) ?_ ?_; (focus (first | omega | (simp <;> omega))); intro hca_1 hfa_1 hla_1); try (refine keepc hba (w.heap.size + 1 + 1) ?_ ?_; (focus (first | omega | (simp <;> omega))); intro hca_2 hfa_2 hla_2)) | (go_at_call 71; refine (HC.out _).mono ?_; rintro e wb ⟨a1, len1, cap1, rfl, hown, hbb⟩))
      go_ret2
      exact ⟨a1, len1, cap1, rfl, hown.mono (by first | omega | (simp; omega)), (by repeat' (first | (with_reducible exact Below.refl _ _) | (with_reducible assumption) | (with_reducible refine Below.alloc ?_ ?_ _) | (with_reducible refine Below.setCell ?_ ?_ _) | (with_reducible refine Below.drew ?_) | (with_reducible refine below_drewN ?_ _) | (apply bthen2; (with_reducible assumption)) | go_size))⟩
    · have E1 := Lib.hid (show pePs a b e m = [] by simp [pePs, peOk, g1, g2])
      have E2 := Lib.hid (show peOk a b e m = false by simp [peOk, g1, g2])
      rw [E1.out, E2.out]
      go_enter Try.func27, Try.ntmps27
      go_wp2_with (first | (go_at_call 66; refine (HF.out _).mono ?_; rintro e wa ⟨rfl, hba⟩; have hza := hba.size; (try simp only [World.size_alloc, World.size_setCell, World.size_drew, World.heap_drewN] at hza); try (refine keepc hba (w.heap.size) ?_ ?_; (focus (first | omega | (simp <;> omega))); intro hca_0 hfa_0 hla_0); try (refine keepc hba (w.heap.size + 1) ?_ ?_; (focus (first | omega | (simp <;> omega))); intro hca_1 hfa_1 hla_1); try (refine keepc hba (w.heap.size + 1 + 1) ?_ ?_; (focus (first | omega | (simp <;> omega))); intro hca_2 hfa_2 hla_2)))
      go_ret2
      exact ⟨none, 0, 0, rfl, OwnP.nil _ _, (by repeat' (first | (with_reducible exact Below.refl _ _) | (with_reducible assumption) | (with_reducible refine Below.alloc ?_ ?_ _) | (with_reducible refine Below.setCell ?_ ?_ _) | (with_reducible refine Below.drew ?_) | (with_reducible refine below_drewN ?_ _) | (apply bthen2; (with_reducible assumption)) | go_size))⟩

end Go.Proofs.Ytelkmldmebdcgaa
