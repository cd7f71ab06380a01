import Derived.Test.YtelkmldmebdcgaaLawS
set_option linter.unusedSimpArgs false
set_option linter.unusedVariables false
namespace Go.Proofs.Ytelkmldmebdcgaa
open Go.RowKit
/-! ### searches over all denominators -/

def srA (a b m : Int) (k : Nat) : List P3 := (List.range k).flatMap fun (i : Nat) => ptsE a b ((i : Int) + 1) m
theorem srA_succ (a b m : Int) (k : Nat) : srA a b m (k + 1) = srA a b m k ++ ptsE a b ((k : Int) + 1) m := by
  unfold srA; rw [List.range_succ, List.flatMap_append]; simp
theorem ptsE_len (a b e m : Int) (hm : m ≤ 10000) : (ptsE a b e m).length ≤ 20001 := by
  have := pre_len a b e m (2 * m + 1).toNat
  unfold ptsE; omega
theorem srA_len (a b m : Int) (hm : m ≤ 10000) (k : Nat) : (srA a b m k).length ≤ 20001 * k := by
  induction k with
  | zero => simp [srA]
  | succ k ih => rw [srA_succ, List.length_append]; have := ptsE_len a b ((k : Int) + 1) m hm; omega
def spOk (a b m d : Int) : Bool := sFit a b m d && decide (0 ≤ m)
def spPs (a b m d : Int) : List P3 := if spOk a b m d then srA a b m d.toNat else []

set_option maxRecDepth 100000 in
set_option maxHeartbeats 2000000 in
theorem searchPoints_any (a b m d : Int) (a1 : -1000 ≤ a) (a2 : a ≤ 1000) (b1 : -10000 ≤ b) (b2 : b ≤ 10000) (m1 : 0 ≤ m) (m2 : m ≤ 10000) (d1 : 1 ≤ d) (d2 : d ≤ 20) (w : World) :
    Calls Try.prog 69 #[.agg #[.int .i64 a, .int .i64 b], .int .i64 m, .int .i64 d] w (GivesP (srA a b m d.toNat) w) := by
  have HC := Lib.hid (fun e w (e1 : 1 ≤ e) (e2 : e ≤ 20) => pointsWithE_any a b e m a1 a2 b1 b2 e1 e2 m1 m2 w)
  have HS := Lib.hid (fun k => srA_succ a b m k)
  have HL := Lib.hid (fun k => srA_len a b m m2 k)
  have HL2 := Lib.hid (fun e => ptsE_len a b e m m2)
  have H0 := Lib.hid (show srA a b m 0 = [] from rfl)
  generalize srA a b m = pr at *
  go_enter Try.func69, Try.ntmps69
  go_wp2
  refine name_world (fun W1 hW1 => ?_)
  have c0 : W1.cell? ⟨w.heap.size, 0, none⟩ = some (.int .i64 a) := by rw [hW1]; simp
  have c1 : W1.cell? ⟨w.heap.size, 1, none⟩ = some (.int .i64 b) := by rw [hW1]; simp
  have hB1 : Below w.heap.size w W1 := by rw [hW1]; repeat' (first | (with_reducible exact Below.refl _ _) | (with_reducible assumption) | (with_reducible refine Below.alloc ?_ ?_ _) | (with_reducible refine Below.setCell ?_ ?_ _) | (with_reducible refine Below.drew ?_) | (with_reducible refine below_drewN ?_ _) | (apply bthen2; (with_reducible assumption)) | go_size)
  have hs1 : w.heap.size < W1.heap.size := by rw [hW1]; simp
  clear hW1
  go_loopw [7, 8] (fun v7 v8 wr => ∃ (k : Nat) (e : Int), v8 = .int .i64 e ∧ e ≤ d + 1 ∧ Hid (e = (k : Int) + 1) ∧ OwnP wr W1.heap.size v7 (pr k) ∧ Below W1.heap.size W1 wr) (fun _ v8 _ => (d + 1 - intOf v8).toNat)
  case atStart => exact ⟨0, 1, rfl, by omega, Lib.hid (by simp), by rw [H0.out]; exact OwnP.nil _ _, Below.refl _ _⟩
  case round =>
    clear H0
    obtain ⟨k, e, rfl, he, HX, hown, hbw⟩ := hrel
    have hx := HX.out
    have hz := hbw.size
    have d0 := (hbw.cell (p := ⟨w.heap.size, 0, none⟩) hs1).trans c0
    have d1' := (hbw.cell (p := ⟨w.heap.size, 1, none⟩) hs1).trans c1
    obtain ⟨ca, cc, rfl⟩ := hown.slice
    by_cases hlt : e ≤ d
    · have e1 : 1 ≤ e := by omega
      have e2 : e ≤ 20 := by omega
      have hl1 := HL.out k
      have hl2 := HL2.out e
      have hk : k ≤ 20 := by omega
      have HX2 := Lib.hid (show e + 1 = ((k + 1 : Nat) : Int) + 1 by omega)
      have hps := HS.out k
      rw [← hx] at hps
      have HQ := Lib.hid hps
      have hc := fun w => HC.out e w e1 e2
      have HCC := Lib.hid hc
      generalize ptsE a b e m = qs at *
      clear hps hx hc
      go_wp2_with (first | (go_at_call 74; refine (HCC.out _).mono ?_; rintro e wb ⟨sa, sl, sc, rfl, ownb, hbb⟩; have hzb := hbb.size; (try simp only [World.size_alloc, World.size_setCell, World.size_drew, World.heap_drewN] at hzb); try (refine keepc hbb (w.heap.size) ?_ ?_; (focus (first | omega | (simp <;> omega))); intro hcb_0 hfb_0 hlb_0); try (refine keepc hbb (w.heap.size + 1) ?_ ?_; (focus (first | omega | (simp <;> omega))); intro hcb_1 hfb_1 hlb_1); try (refine keepc hbb (w.heap.size + 1 + 1) ?_ ?_; (focus (first | omega | (simp <;> omega))); intro hcb_2 hfb_2 hlb_2)) | (at_builtin; refine wpl_appPs (W := W1) rfl _ _ rfl W1.heap.size wr.heap.size _ _ (pr k) qs rfl (hown.below hbb) rfl ownb (by omega) (bthen2 hbb hbw) (by omega) ?_; intro ap cp wp hownp hbwp hszp))
      go_roundw
      case rel => exact ⟨k + 1, e + 1, rfl, by omega, HX2, by rw [HQ.out]; exact hownp, hbwp⟩
      case measure => simp [intOf]; omega
    · have HRE := Lib.hid (show d.toNat = k by omega)
      clear hx
      go_wp2
      go_ret
      exact ⟨_, _, _, rfl, by rw [HRE.out]; exact hown.mono (by omega), bthen hB1 hbw⟩

set_option maxRecDepth 100000 in
set_option maxHeartbeats 2000000 in
theorem seFind_any (a b m d : Int) (a1 : -1000 ≤ a) (a2 : a ≤ 1000) (b1 : -10000 ≤ b) (b2 : b ≤ 10000) (m1 : 0 ≤ m) (m2 : m ≤ 10000) (d1 : 1 ≤ d) (d2 : d ≤ 20) (w : World) :
    Calls Try.prog 70 #[.agg #[.int .i64 a, .int .i64 b], .int .i64 m, .int .i64 d] w (GivesP (srA a b m d.toNat) w) := by
  have HC := Lib.hid (fun e w (e1 : 1 ≤ e) (e2 : e ≤ 20) => seWith_any a b e m a1 a2 b1 b2 e1 e2 m1 m2 w)
  have HS := Lib.hid (fun k => srA_succ a b m k)
  have HL := Lib.hid (fun k => srA_len a b m m2 k)
  have HL2 := Lib.hid (fun e => ptsE_len a b e m m2)
  have H0 := Lib.hid (show srA a b m 0 = [] from rfl)
  generalize srA a b m = pr at *
  go_enter Try.func70, Try.ntmps70
  go_wp2
  refine name_world (fun W1 hW1 => ?_)
  have c0 : W1.cell? ⟨w.heap.size, 0, none⟩ = some (.int .i64 a) := by rw [hW1]; simp
  have c1 : W1.cell? ⟨w.heap.size, 1, none⟩ = some (.int .i64 b) := by rw [hW1]; simp
  have hB1 : Below w.heap.size w W1 := by rw [hW1]; repeat' (first | (with_reducible exact Below.refl _ _) | (with_reducible assumption) | (with_reducible refine Below.alloc ?_ ?_ _) | (with_reducible refine Below.setCell ?_ ?_ _) | (with_reducible refine Below.drew ?_) | (with_reducible refine below_drewN ?_ _) | (apply bthen2; (with_reducible assumption)) | go_size)
  have hs1 : w.heap.size < W1.heap.size := by rw [hW1]; simp
  clear hW1
  go_loopw [7, 8] (fun v7 v8 wr => ∃ (k : Nat) (e : Int), v8 = .int .i64 e ∧ e ≤ d + 1 ∧ Hid (e = (k : Int) + 1) ∧ OwnP wr W1.heap.size v7 (pr k) ∧ Below W1.heap.size W1 wr) (fun _ v8 _ => (d + 1 - intOf v8).toNat)
  case atStart => exact ⟨0, 1, rfl, by omega, Lib.hid (by simp), by rw [H0.out]; exact OwnP.nil _ _, Below.refl _ _⟩
  case round =>
    clear H0
    obtain ⟨k, e, rfl, he, HX, hown, hbw⟩ := hrel
    have hx := HX.out
    have hz := hbw.size
    have d0 := (hbw.cell (p := ⟨w.heap.size, 0, none⟩) hs1).trans c0
    have d1' := (hbw.cell (p := ⟨w.heap.size, 1, none⟩) hs1).trans c1
    obtain ⟨ca, cc, rfl⟩ := hown.slice
    by_cases hlt : e ≤ d
    · have e1 : 1 ≤ e := by omega
      have e2 : e ≤ 20 := by omega
      have hl1 := HL.out k
      have hl2 := HL2.out e
      have hk : k ≤ 20 := by omega
      have HX2 := Lib.hid (show e + 1 = ((k + 1 : Nat) : Int) + 1 by omega)
      have hps := HS.out k
      rw [← hx] at hps
      have HQ := Lib.hid hps
      have hc := fun w => HC.out e w e1 e2
      have HCC := Lib.hid hc
      generalize ptsE a b e m = qs at *
      clear hps hx hc
      go_wp2_with (first | (go_at_call 71; refine (HCC.out _).mono ?_; rintro e wb ⟨sa, sl, sc, rfl, ownb, hbb⟩; have hzb := hbb.size; (try simp only [World.size_alloc, World.size_setCell, World.size_drew, World.heap_drewN] at hzb); try (refine keepc hbb (w.heap.size) ?_ ?_; (focus (first | omega | (simp <;> omega))); intro hcb_0 hfb_0 hlb_0); try (refine keepc hbb (w.heap.size + 1) ?_ ?_; (focus (first | omega | (simp <;> omega))); intro hcb_1 hfb_1 hlb_1); try (refine keepc hbb (w.heap.size + 1 + 1) ?_ ?_; (focus (first | omega | (simp <;> omega))); intro hcb_2 hfb_2 hlb_2)) | (at_builtin; refine wpl_appPs (W := W1) rfl _ _ rfl W1.heap.size wr.heap.size _ _ (pr k) qs rfl (hown.below hbb) rfl ownb (by omega) (bthen2 hbb hbw) (by omega) ?_; intro ap cp wp hownp hbwp hszp))
      go_roundw
      case rel => exact ⟨k + 1, e + 1, rfl, by omega, HX2, by rw [HQ.out]; exact hownp, hbwp⟩
      case measure => simp [intOf]; omega
    · have HRE := Lib.hid (show d.toNat = k by omega)
      clear hx
      go_wp2
      go_ret
      exact ⟨_, _, _, rfl, by rw [HRE.out]; exact hown.mono (by omega), bthen hB1 hbw⟩

theorem SearchPoints_any (a b m d : Int) (w : World) : Calls Try.prog 19 #[.agg #[.int .i64 a, .int .i64 b], .int .i64 m, .int .i64 d] w (GivesPB (spPs a b m d) (spOk a b m d) w) := by
  have HF := Lib.hid (fun w => searchFits_any a b m d w)
  cases g1 : sFit a b m d
  · have E1 := Lib.hid (show spPs a b m d = [] by simp [spPs, spOk, g1])
    have E2 := Lib.hid (show spOk a b m d = false by simp [spOk, g1])
    rw [E1.out, E2.out]
    rw [g1] at HF
    go_enter Try.func19, Try.ntmps19
    go_wp2_with (first | (go_at_call 64; refine (HF.out _).mono ?_; rintro e wa ⟨rfl, hba⟩; have hza := hba.size; (try simp only [World.size_alloc, World.size_setCell, World.size_drew, World.heap_drewN] at hza); try (refine keepc hba (w.heap.size) ?_ ?_; (focus (first | omega | (simp <;> omega))); intro hca_0 hfa_0 hla_0); try (refine keepc hba (w.heap.size + 1) ?_ ?_; (focus (first | omega | (simp <;> omega))); intro hca_1 hfa_1 hla_1); try (refine keepc hba (w.heap.size + 1 + 1) ?_ ?_; (focus (first | omega | (simp <;> omega))); intro hca_2 hfa_2 hla_2)))
    go_ret2
    exact ⟨none, 0, 0, rfl, OwnP.nil _ _, (by repeat' (first | (with_reducible exact Below.refl _ _) | (with_reducible assumption) | (with_reducible refine Below.alloc ?_ ?_ _) | (with_reducible refine Below.setCell ?_ ?_ _) | (with_reducible refine Below.drew ?_) | (with_reducible refine below_drewN ?_ _) | (apply bthen2; (with_reducible assumption)) | go_size))⟩
  · rw [g1] at HF
    by_cases g2 : 0 ≤ m
    · have E1 := Lib.hid (show spPs a b m d = srA a b m d.toNat by simp [spPs, spOk, g1, g2])
      have E2 := Lib.hid (show spOk a b m d = true by simp [spOk, g1, g2])
      rw [E1.out, E2.out]
      obtain ⟨k1, k2, k3, k4, k5, k6, k7, k8⟩ := sFit_f g1
      have HC := Lib.hid (fun w => searchPoints_any a b m d k1 k2 k3 k4 g2 k6 k7 k8 w)
      clear E1 E2
      generalize srA a b m d.toNat = R at *
      go_enter Try.func19, Try.ntmps19
      go_wp2_with (first | (go_at_call 64; refine (HF.out _).mono ?_; rintro e wa ⟨rfl, hba⟩; have hza := hba.size; (try simp only [World.size_alloc, World.size_setCell, World.size_drew, World.heap_drewN] at hza); try (refine keepc hba (w.heap.size) ?_ ?_; (focus (first | omega | (simp <;> omega))); intro hca_0 hfa_0 hla_0); try (refine keepc hba (w.heap.size + 1) ?_ ?_; (focus (first | omega | (simp <;> omega))); intro hca_1 hfa_1 hla_1); try (refine keepc hba (w.heap.size + 1 + 1) ?_ ?_; (focus (first | omega | (simp <;> omega))); intro hca_2 hfa_2 hla_2)) | (go_at_call 69; refine (HC.out _).mono ?_; rintro e wb ⟨a1, len1, cap1, rfl, hown, hbb⟩))
      go_ret2
      exact ⟨a1, len1, cap1, rfl, hown.mono (by first | omega | (simp; omega)), (by repeat' (first | (with_reducible exact Below.refl _ _) | (with_reducible assumption) | (with_reducible refine Below.alloc ?_ ?_ _) | (with_reducible refine Below.setCell ?_ ?_ _) | (with_reducible refine Below.drew ?_) | (with_reducible refine below_drewN ?_ _) | (apply bthen2; (with_reducible assumption)) | go_size))⟩
    · have E1 := Lib.hid (show spPs a b m d = [] by simp [spPs, spOk, g1, g2])
      have E2 := Lib.hid (show spOk a b m d = false by simp [spOk, g1, g2])
      rw [E1.out, E2.out]
      go_enter Try.func19, Try.ntmps19
      go_wp2_with (first | (go_at_call 64; refine (HF.out _).mono ?_; rintro e wa ⟨rfl, hba⟩; have hza := hba.size; (try simp only [World.size_alloc, World.size_setCell, World.size_drew, World.heap_drewN] at hza); try (refine keepc hba (w.heap.size) ?_ ?_; (focus (first | omega | (simp <;> omega))); intro hca_0 hfa_0 hla_0); try (refine keepc hba (w.heap.size + 1) ?_ ?_; (focus (first | omega | (simp <;> omega))); intro hca_1 hfa_1 hla_1); try (refine keepc hba (w.heap.size + 1 + 1) ?_ ?_; (focus (first | omega | (simp <;> omega))); intro hca_2 hfa_2 hla_2)))
      go_ret2
      exact ⟨none, 0, 0, rfl, OwnP.nil _ _, (by repeat' (first | (with_reducible exact Below.refl _ _) | (with_reducible assumption) | (with_reducible refine Below.alloc ?_ ?_ _) | (with_reducible refine Below.setCell ?_ ?_ _) | (with_reducible refine Below.drew ?_) | (with_reducible refine below_drewN ?_ _) | (apply bthen2; (with_reducible assumption)) | go_size))⟩
theorem sSearchPoints_any (a b m d : Int) (w : World) : Calls Try.prog 20 #[.agg #[.int .i64 a, .int .i64 b], .int .i64 m, .int .i64 d] w (GivesPB (spPs a b m d) (spOk a b m d) w) := by
  have HF := Lib.hid (fun w => seAsked_any a b m d w)
  cases g1 : sFit a b m d
  · have E1 := Lib.hid (show spPs a b m d = [] by simp [spPs, spOk, g1])
    have E2 := Lib.hid (show spOk a b m d = false by simp [spOk, g1])
    rw [E1.out, E2.out]
    rw [g1] at HF
    go_enter Try.func20, Try.ntmps20
    go_wp2_with (first | (go_at_call 66; refine (HF.out _).mono ?_; rintro e wa ⟨rfl, hba⟩; have hza := hba.size; (try simp only [World.size_alloc, World.size_setCell, World.size_drew, World.heap_drewN] at hza); try (refine keepc hba (w.heap.size) ?_ ?_; (focus (first | omega | (simp <;> omega))); intro hca_0 hfa_0 hla_0); try (refine keepc hba (w.heap.size + 1) ?_ ?_; (focus (first | omega | (simp <;> omega))); intro hca_1 hfa_1 hla_1); try (refine keepc hba (w.heap.size + 1 + 1) ?_ ?_; (focus (first | omega | (simp <;> omega))); intro hca_2 hfa_2 hla_2)))
    go_ret2
    exact ⟨none, 0, 0, rfl, OwnP.nil _ _, (by repeat' (first | (with_reducible exact Below.refl _ _) | (with_reducible assumption) | (with_reducible refine Below.alloc ?_ ?_ _) | (with_reducible refine Below.setCell ?_ ?_ _) | (with_reducible refine Below.drew ?_) | (with_reducible refine below_drewN ?_ _) | (apply bthen2; (with_reducible assumption)) | go_size))⟩
  · rw [g1] at HF
    by_cases g2 : 0 ≤ m
    · have E1 := Lib.hid (show spPs a b m d = srA a b m d.toNat by simp [spPs, spOk, g1, g2])
      have E2 := Lib.hid (show spOk a b m d = true by simp [spOk, g1, g2])
      rw [E1.out, E2.out]
      obtain ⟨k1, k2, k3, k4, k5, k6, k7, k8⟩ := sFit_f g1
      have HC := Lib.hid (fun w => seFind_any a b m d k1 k2 k3 k4 g2 k6 k7 k8 w)
      clear E1 E2
      generalize srA a b m d.toNat = R at *
      go_enter Try.func20, Try.ntmps20
      go_wp2_with (first | (go_at_call 66; refine (HF.out _).mono ?_; rintro e wa ⟨rfl, hba⟩; have hza := hba.size; (try simp only [World.size_alloc, World.size_setCell, World.size_drew, World.heap_drewN] at hza); try (refine keepc hba (w.heap.size) ?_ ?_; (focus (first | omega | (simp <;> omega))); intro hca_0 hfa_0 hla_0); try (refine keepc hba (w.heap.size + 1) ?_ ?_; (focus (first | omega | (simp <;> omega))); intro hca_1 hfa_1 hla_1); try (refine keepc hba (w.heap.size + 1 + 1) ?_ ?_; (focus (first | omega | (simp <;> omega))); intro hca_2 hfa_2 hla_2)) | (go_at_call 70; refine (HC.out _).mono ?_; rintro e wb ⟨a1, len1, cap1, rfl, hown, hbb⟩))
      go_ret2
      exact ⟨a1, len1, cap1, rfl, hown.mono (by first | omega | (simp; omega)), (by repeat' (first | (with_reducible exact Below.refl _ _) | (with_reducible assumption) | (with_reducible refine Below.alloc ?_ ?_ _) | (with_reducible refine Below.setCell ?_ ?_ _) | (with_reducible refine Below.drew ?_) | (with_reducible refine below_drewN ?_ _) | (apply bthen2; (with_reducible assumption)) | go_size))⟩
    · have E1 := Lib.hid (show spPs a b m d = [] by simp [spPs, spOk, g1, g2])
      have E2 := Lib.hid (show spOk a b m d = false by simp [spOk, g1, g2])
      rw [E1.out, E2.out]
      go_enter Try.func20, Try.ntmps20
      go_wp2_with (first | (go_at_call 66; refine (HF.out _).mono ?_; rintro e wa ⟨rfl, hba⟩; have hza := hba.size; (try simp only [World.size_alloc, World.size_setCell, World.size_drew, World.heap_drewN] at hza); try (refine keepc hba (w.heap.size) ?_ ?_; (focus (first | omega | (simp <;> omega))); intro hca_0 hfa_0 hla_0); try (refine keepc hba (w.heap.size + 1) ?_ ?_; (focus (first | omega | (simp <;> omega))); intro hca_1 hfa_1 hla_1); try (refine keepc hba (w.heap.size + 1 + 1) ?_ ?_; (focus (first | omega | (simp <;> omega))); intro hca_2 hfa_2 hla_2)))
      go_ret2
      exact ⟨none, 0, 0, rfl, OwnP.nil _ _, (by repeat' (first | (with_reducible exact Below.refl _ _) | (with_reducible assumption) | (with_reducible refine Below.alloc ?_ ?_ _) | (with_reducible refine Below.setCell ?_ ?_ _) | (with_reducible refine Below.drew ?_) | (with_reducible refine below_drewN ?_ _) | (apply bthen2; (with_reducible assumption)) | go_size))⟩

def fpR (a b m d : Int) : Value := spR (spPs a b m d).head?
theorem FirstPoint_any (a b m d : Int) (w : World) : Calls Try.prog 21 #[.agg #[.int .i64 a, .int .i64 b], .int .i64 m, .int .i64 d] w (Gives (fpR a b m d) w) := by
  have HF := Lib.hid (fun w => searchFits_any a b m d w)
  cases g1 : sFit a b m d
  · have E := Lib.hid (show fpR a b m d = .tuple #[.agg #[.int .i64 0, .int .i64 0, .int .i64 0], .bool false] by simp [fpR, spPs, spOk, g1, spR])
    rw [g1] at HF
    generalize fpR a b m d = R at *
    go_enter Try.func21, Try.ntmps21
    go_wp2_with (first | (go_at_call 64; refine (HF.out _).mono ?_; rintro e wa ⟨rfl, hba⟩; have hza := hba.size; (try simp only [World.size_alloc, World.size_setCell, World.size_drew, World.heap_drewN] at hza); try (refine keepc hba (w.heap.size) ?_ ?_; (focus (first | omega | (simp <;> omega))); intro hca_0 hfa_0 hla_0); try (refine keepc hba (w.heap.size + 1) ?_ ?_; (focus (first | omega | (simp <;> omega))); intro hca_1 hfa_1 hla_1); try (refine keepc hba (w.heap.size + 1 + 1) ?_ ?_; (focus (first | omega | (simp <;> omega))); intro hca_2 hfa_2 hla_2)))
    exact bodyPost_ret (v := R) (by rw [E.out]; simp [results, Try.results21, go_sem, hca_1]) rfl (gives rfl (by repeat' (first | (with_reducible exact Below.refl _ _) | (with_reducible assumption) | (with_reducible refine Below.alloc ?_ ?_ _) | (with_reducible refine Below.setCell ?_ ?_ _) | (with_reducible refine Below.drew ?_) | (with_reducible refine below_drewN ?_ _) | (apply bthen2; (with_reducible assumption)) | go_size)))
  · rw [g1] at HF
    by_cases g2 : 0 ≤ m
    · obtain ⟨k1, k2, k3, k4, k5, k6, k7, k8⟩ := sFit_f g1
      have HC := Lib.hid (fun w => searchPoints_any a b m d k1 k2 k3 k4 g2 k6 k7 k8 w)
      have e0 : fpR a b m d = spR (srA a b m d.toNat).head? := by simp [fpR, spPs, spOk, g1, g2]
      generalize srA a b m d.toNat = L at *
      cases L with
      | nil =>
        have E := Lib.hid (show fpR a b m d = .tuple #[.agg #[.int .i64 0, .int .i64 0, .int .i64 0], .bool false] by rw [e0]; rfl)
        clear e0
        generalize fpR a b m d = R at *
        go_enter Try.func21, Try.ntmps21
        go_wp2_with (first | (go_at_call 64; refine (HF.out _).mono ?_; rintro e wa ⟨rfl, hba⟩; have hza := hba.size; (try simp only [World.size_alloc, World.size_setCell, World.size_drew, World.heap_drewN] at hza); try (refine keepc hba (w.heap.size) ?_ ?_; (focus (first | omega | (simp <;> omega))); intro hca_0 hfa_0 hla_0); try (refine keepc hba (w.heap.size + 1) ?_ ?_; (focus (first | omega | (simp <;> omega))); intro hca_1 hfa_1 hla_1); try (refine keepc hba (w.heap.size + 1 + 1) ?_ ?_; (focus (first | omega | (simp <;> omega))); intro hca_2 hfa_2 hla_2)) | (go_at_call 69; refine (HC.out _).mono ?_; rintro e wb ⟨sa, sl, sc, rfl, hown, hbb⟩; obtain ⟨_, _, hsl⟩ := hown.slice; obtain ⟨rfl, rfl, rfl⟩ : sa = _ ∧ sl = 0 ∧ sc = _ := (by simpa using hsl); clear hsl; have hzb := hbb.size; (try simp only [World.size_alloc, World.size_setCell, World.size_drew, World.heap_drewN] at hzb); try (refine keepc hbb (w.heap.size) ?_ ?_; (focus (first | omega | (simp <;> omega))); intro hcb_0 hfb_0 hlb_0); try (refine keepc hbb (w.heap.size + 1) ?_ ?_; (focus (first | omega | (simp <;> omega))); intro hcb_1 hfb_1 hlb_1); try (refine keepc hbb (w.heap.size + 1 + 1) ?_ ?_; (focus (first | omega | (simp <;> omega))); intro hcb_2 hfb_2 hlb_2)))
        exact bodyPost_ret (v := R) (by rw [E.out]; simp [results, Try.results21, go_sem, hca_1, hcb_1]) rfl (gives rfl (by repeat' (first | (with_reducible exact Below.refl _ _) | (with_reducible assumption) | (with_reducible refine Below.alloc ?_ ?_ _) | (with_reducible refine Below.setCell ?_ ?_ _) | (with_reducible refine Below.drew ?_) | (with_reducible refine below_drewN ?_ _) | (apply bthen2; (with_reducible assumption)) | go_size)))
      | cons p L =>
        obtain ⟨px, py, pe⟩ := p
        have E := Lib.hid (show fpR a b m d = .tuple #[.agg #[.int .i64 px, .int .i64 py, .int .i64 pe], .bool true] by rw [e0]; rfl)
        clear e0
        generalize fpR a b m d = R at *
        go_enter Try.func21, Try.ntmps21
        go_wp2_with (first | (go_at_call 64; refine (HF.out _).mono ?_; rintro e wa ⟨rfl, hba⟩; have hza := hba.size; (try simp only [World.size_alloc, World.size_setCell, World.size_drew, World.heap_drewN] at hza); try (refine keepc hba (w.heap.size) ?_ ?_; (focus (first | omega | (simp <;> omega))); intro hca_0 hfa_0 hla_0); try (refine keepc hba (w.heap.size + 1) ?_ ?_; (focus (first | omega | (simp <;> omega))); intro hca_1 hfa_1 hla_1); try (refine keepc hba (w.heap.size + 1 + 1) ?_ ?_; (focus (first | omega | (simp <;> omega))); intro hca_2 hfa_2 hla_2)) | (go_at_call 69; refine (HC.out _).mono ?_; rintro e wb ⟨sa, sl, sc, rfl, hown, hbb⟩; obtain ⟨pa, pc, hsl, hpl, hpc⟩ := hown.pts; simp only [List.length_cons, Value.slice.injEq] at hsl; obtain ⟨hs1, hs2, hs3⟩ := hsl; subst hs1 hs2 hs3; obtain ⟨b0, o0, hb0, hbl0, p0, p1, p2⟩ := hpc 0 _ rfl; subst hb0; simp only [List.length_cons] at hpl; (try dsimp only at p0 p1 p2); simp only [Nat.zero_mul, Nat.add_zero] at p0 p1 p2; clear hpc hown; have hlz : (0 : Int) < ((L.length + 1 : Nat) : Int) := (by omega); have hnz : (((L.length + 1 : Nat) : Int) == 0) = false := (by simp; omega); generalize L.length + 1 = LL at *; have hzb := hbb.size; (try simp only [World.size_alloc, World.size_setCell, World.size_drew, World.heap_drewN] at hzb); try (refine keepc hbb (w.heap.size) ?_ ?_; (focus (first | omega | (simp <;> omega))); intro hcb_0 hfb_0 hlb_0); try (refine keepc hbb (w.heap.size + 1) ?_ ?_; (focus (first | omega | (simp <;> omega))); intro hcb_1 hfb_1 hlb_1); try (refine keepc hbb (w.heap.size + 1 + 1) ?_ ?_; (focus (first | omega | (simp <;> omega))); intro hcb_2 hfb_2 hlb_2)))
        exact bodyPost_ret (v := R) (by rw [E.out]; simp [results, Try.results21, go_sem, hca_1, hcb_1]) rfl (gives rfl (by repeat' (first | (with_reducible exact Below.refl _ _) | (with_reducible assumption) | (with_reducible refine Below.alloc ?_ ?_ _) | (with_reducible refine Below.setCell ?_ ?_ _) | (with_reducible refine Below.drew ?_) | (with_reducible refine below_drewN ?_ _) | (apply bthen2; (with_reducible assumption)) | go_size)))
    · have E := Lib.hid (show fpR a b m d = .tuple #[.agg #[.int .i64 0, .int .i64 0, .int .i64 0], .bool false] by simp [fpR, spPs, spOk, g1, g2, spR])
      generalize fpR a b m d = R at *
      go_enter Try.func21, Try.ntmps21
      go_wp2_with (first | (go_at_call 64; refine (HF.out _).mono ?_; rintro e wa ⟨rfl, hba⟩; have hza := hba.size; (try simp only [World.size_alloc, World.size_setCell, World.size_drew, World.heap_drewN] at hza); try (refine keepc hba (w.heap.size) ?_ ?_; (focus (first | omega | (simp <;> omega))); intro hca_0 hfa_0 hla_0); try (refine keepc hba (w.heap.size + 1) ?_ ?_; (focus (first | omega | (simp <;> omega))); intro hca_1 hfa_1 hla_1); try (refine keepc hba (w.heap.size + 1 + 1) ?_ ?_; (focus (first | omega | (simp <;> omega))); intro hca_2 hfa_2 hla_2)))
      exact bodyPost_ret (v := R) (by rw [E.out]; simp [results, Try.results21, go_sem, hca_1]) rfl (gives rfl (by repeat' (first | (with_reducible exact Below.refl _ _) | (with_reducible assumption) | (with_reducible refine Below.alloc ?_ ?_ _) | (with_reducible refine Below.setCell ?_ ?_ _) | (with_reducible refine Below.drew ?_) | (with_reducible refine below_drewN ?_ _) | (apply bthen2; (with_reducible assumption)) | go_size)))

theorem srA_split (a b m : Int) {k n : Nat} (h : k < n) : ∃ t, srA a b m n = srA a b m k ++ (ptsE a b ((k : Int) + 1) m ++ t) := by
  induction n with
  | zero => omega
  | succ n ih =>
    rw [srA_succ]
    by_cases e : k = n
    · subst e; exact ⟨[], by simp⟩
    · obtain ⟨t, ht⟩ := ih (by omega)
      rw [ht]
      exact ⟨t ++ ptsE a b ((n : Int) + 1) m, by simp⟩
set_option maxRecDepth 100000 in
set_option maxHeartbeats 2000000 in
theorem sFirstPoint_any (a b m d : Int) (w : World) : Calls Try.prog 22 #[.agg #[.int .i64 a, .int .i64 b], .int .i64 m, .int .i64 d] w (Gives (fpR a b m d) w) := by
  have HF := Lib.hid (fun w => seAsked_any a b m d w)
  cases g1 : sFit a b m d
  · have E := Lib.hid (show fpR a b m d = .tuple #[.agg #[.int .i64 0, .int .i64 0, .int .i64 0], .bool false] by simp [fpR, spPs, spOk, g1, spR])
    rw [g1] at HF
    generalize fpR a b m d = R at *
    go_enter Try.func22, Try.ntmps22
    go_wp2_with (first | (go_at_call 66; refine (HF.out _).mono ?_; rintro e wa ⟨rfl, hba⟩; have hza := hba.size; (try simp only [World.size_alloc, World.size_setCell, World.size_drew, World.heap_drewN] at hza); try (refine keepc hba (w.heap.size) ?_ ?_; (focus (first | omega | (simp <;> omega))); intro hca_0 hfa_0 hla_0); try (refine keepc hba (w.heap.size + 1) ?_ ?_; (focus (first | omega | (simp <;> omega))); intro hca_1 hfa_1 hla_1); try (refine keepc hba (w.heap.size + 1 + 1) ?_ ?_; (focus (first | omega | (simp <;> omega))); intro hca_2 hfa_2 hla_2)))
    exact bodyPost_ret (v := R) (by rw [E.out]; simp [results, Try.results22, go_sem, hca_1]) rfl (gives rfl (by repeat' (first | (with_reducible exact Below.refl _ _) | (with_reducible assumption) | (with_reducible refine Below.alloc ?_ ?_ _) | (with_reducible refine Below.setCell ?_ ?_ _) | (with_reducible refine Below.drew ?_) | (with_reducible refine below_drewN ?_ _) | (apply bthen2; (with_reducible assumption)) | go_size)))
  · rw [g1] at HF
    by_cases g2 : 0 ≤ m
    · obtain ⟨k1, k2, k3, k4, k5, k6, k7, k8⟩ := sFit_f g1
      have HC := Lib.hid (fun e w (e1 : 1 ≤ e) (e2 : e ≤ 20) => seWith_any a b e m k1 k2 k3 k4 e1 e2 g2 k6 w)
      have e0 : fpR a b m d = spR (srA a b m d.toNat).head? := by simp [fpR, spPs, spOk, g1, g2]
      have HSP := Lib.hid (fun k (h : k < d.toNat) => srA_split a b m h)
      have HSS := Lib.hid (fun k => srA_succ a b m k)
      have H0 := Lib.hid (show srA a b m 0 = [] from rfl)
      have E0 := Lib.hid e0
      clear e0
      generalize fpR a b m d = R at *
      generalize srA a b m = pr at *
      go_enter Try.func22, Try.ntmps22
      go_wp2_with (first | (go_at_call 66; refine (HF.out _).mono ?_; rintro e wa ⟨rfl, hba⟩; have hza := hba.size; (try simp only [World.size_alloc, World.size_setCell, World.size_drew, World.heap_drewN] at hza); try (refine keepc hba (w.heap.size) ?_ ?_; (focus (first | omega | (simp <;> omega))); intro hca_0 hfa_0 hla_0); try (refine keepc hba (w.heap.size + 1) ?_ ?_; (focus (first | omega | (simp <;> omega))); intro hca_1 hfa_1 hla_1); try (refine keepc hba (w.heap.size + 1 + 1) ?_ ?_; (focus (first | omega | (simp <;> omega))); intro hca_2 hfa_2 hla_2)))
      have c0 := (hca_0 0).trans (show _ = some (Value.int .i64 a) by simp)
      have c1 := (hca_0 1).trans (show _ = some (Value.int .i64 b) by simp)
      have r0 := (hca_1 0).trans (show _ = some (Value.int .i64 0) by simp)
      have r1 := (hca_1 1).trans (show _ = some (Value.int .i64 0) by simp)
      have r2 := (hca_1 2).trans (show _ = some (Value.int .i64 0) by simp)
      have f0 := fun o => (hfa_1 o).trans (show _ = false by simp)
      have hB1 : Below w.heap.size w wa := (by repeat' (first | (with_reducible exact Below.refl _ _) | (with_reducible assumption) | (with_reducible refine Below.alloc ?_ ?_ _) | (with_reducible refine Below.setCell ?_ ?_ _) | (with_reducible refine Below.drew ?_) | (with_reducible refine below_drewN ?_ _) | (apply bthen2; (with_reducible assumption)) | go_size))
      have hs1 : w.heap.size + 1 < wa.heap.size := hla_1
      clear hca_0 hfa_0 hla_0 hca_1 hfa_1 hla_1 hba hza
      go_loopw [8] (fun v8 wr => ∃ (k : Nat) (e : Int), v8 = .int .i64 e ∧ e ≤ d + 1 ∧ Hid (e = (k : Int) + 1) ∧ Hid (pr k = []) ∧ Below wa.heap.size wa wr) (fun v8 _ => (d + 1 - intOf v8).toNat)
      case atStart => exact ⟨0, 1, rfl, by omega, Lib.hid (by simp), H0, Below.refl _ _⟩
      case round =>
        clear H0
        obtain ⟨k, e, rfl, he, HX, HPK, hbw⟩ := hrel
        have hx := HX.out
        have hz := hbw.size
        have d0 := (hbw.cell (p := ⟨w.heap.size, 0, none⟩) (show w.heap.size < wa.heap.size by omega)).trans c0
        have d1 := (hbw.cell (p := ⟨w.heap.size, 1, none⟩) (show w.heap.size < wa.heap.size by omega)).trans c1
        have s0 := (hbw.cell (p := ⟨w.heap.size + 1, 0, none⟩) hs1).trans r0
        have s1 := (hbw.cell (p := ⟨w.heap.size + 1, 1, none⟩) hs1).trans r1
        have s2 := (hbw.cell (p := ⟨w.heap.size + 1, 2, none⟩) hs1).trans r2
        have t0 := (hbw.frozen (p := ⟨w.heap.size + 1, 0, none⟩) hs1).trans (f0 0)
        have t1 := (hbw.frozen (p := ⟨w.heap.size + 1, 1, none⟩) hs1).trans (f0 1)
        have t2 := (hbw.frozen (p := ⟨w.heap.size + 1, 2, none⟩) hs1).trans (f0 2)
        have F0 := Lib.hid f0
        clear f0 c0 c1 r0 r1 r2
        by_cases hlt : e ≤ d
        · have e1 : 1 ≤ e := by omega
          have e2 : e ≤ 20 := by omega
          have HX2 := Lib.hid (show e + 1 = ((k + 1 : Nat) : Int) + 1 by omega)
          have hsp := HSP.out k (by omega)
          have hss := HSS.out k
          rw [← hx, HPK.out] at hsp hss
          simp only [List.nil_append] at hsp hss
          have hc := fun w => HC.out e w e1 e2
          cases hq : ptsE a b e m with
          | nil =>
            rw [hq] at hss hc
            have HPK2 := Lib.hid hss
            have HCC := Lib.hid hc
            clear hsp hss hc hx hq
            go_wp2_with (first | (go_at_call 71; refine (HCC.out _).mono ?_; rintro e wb ⟨sa, sl, sc, rfl, hown, hbb⟩; obtain ⟨_, _, hsl⟩ := hown.slice; obtain ⟨rfl, rfl, rfl⟩ : sa = _ ∧ sl = 0 ∧ sc = _ := (by simpa using hsl); clear hsl; have hzb := hbb.size; (try simp only [World.size_alloc, World.size_setCell, World.size_drew, World.heap_drewN] at hzb); try (refine keepc hbb (w.heap.size) ?_ ?_; (focus (first | omega | (simp <;> omega))); intro hcb_0 hfb_0 hlb_0); try (refine keepc hbb (w.heap.size + 1) ?_ ?_; (focus (first | omega | (simp <;> omega))); intro hcb_1 hfb_1 hlb_1); try (refine keepc hbb (w.heap.size + 1 + 1) ?_ ?_; (focus (first | omega | (simp <;> omega))); intro hcb_2 hfb_2 hlb_2)))
            go_roundw
            case rel => exact ⟨k + 1, e + 1, rfl, by omega, HX2, HPK2, bthen2 hbb hbw⟩
            case measure => simp [intOf]; omega
          | cons p L =>
            obtain ⟨px, py, pe⟩ := p
            rw [hq] at hsp hc
            obtain ⟨t, ht⟩ := hsp
            have E := Lib.hid (show R = .tuple #[.agg #[.int .i64 px, .int .i64 py, .int .i64 pe], .bool true] by rw [E0.out, ht]; rfl)
            have HCC := Lib.hid hc
            clear ht hss hc hx hq
            go_wp2_with (first | (go_at_call 71; refine (HCC.out _).mono ?_; rintro e wb ⟨sa, sl, sc, rfl, hown, hbb⟩; obtain ⟨pa, pc, hsl, hpl, hpc⟩ := hown.pts; simp only [List.length_cons, Value.slice.injEq] at hsl; obtain ⟨hs1', hs2', hs3'⟩ := hsl; subst hs1' hs2' hs3'; obtain ⟨b0, o0, hb0, hbl0, p0, p1, p2⟩ := hpc 0 _ rfl; subst hb0; simp only [List.length_cons] at hpl; (try dsimp only at p0 p1 p2); simp only [Nat.zero_mul, Nat.add_zero] at p0 p1 p2; clear hpc hown; have hlz : (0 : Int) < ((L.length + 1 : Nat) : Int) := (by omega); generalize L.length + 1 = LL at *; have hzb := hbb.size; (try simp only [World.size_alloc, World.size_setCell, World.size_drew, World.heap_drewN] at hzb); try (refine keepc hbb (w.heap.size) ?_ ?_; (focus (first | omega | (simp <;> omega))); intro hcb_0 hfb_0 hlb_0); try (refine keepc hbb (w.heap.size + 1) ?_ ?_; (focus (first | omega | (simp <;> omega))); intro hcb_1 hfb_1 hlb_1); try (refine keepc hbb (w.heap.size + 1 + 1) ?_ ?_; (focus (first | omega | (simp <;> omega))); intro hcb_2 hfb_2 hlb_2)))
            exact bodyPost_ret (v := R) (by rw [E.out]; simp [results, Try.results22, go_sem, hcb_1, s0, s1, s2]) rfl (gives rfl (by repeat' (first | (with_reducible exact Below.refl _ _) | (with_reducible assumption) | (with_reducible refine Below.alloc ?_ ?_ _) | (with_reducible refine Below.setCell ?_ ?_ _) | (with_reducible refine Below.drew ?_) | (with_reducible refine below_drewN ?_ _) | (apply bthen2; (with_reducible assumption)) | go_size)))
        · have E := Lib.hid (show R = .tuple #[.agg #[.int .i64 0, .int .i64 0, .int .i64 0], .bool false] by rw [E0.out, show d.toNat = k by omega, HPK.out]; rfl)
          clear hx
          go_wp2
          exact bodyPost_ret (v := R) (by rw [E.out]; simp [results, Try.results22, go_sem, s0, s1, s2]) rfl (gives rfl (by repeat' (first | (with_reducible exact Below.refl _ _) | (with_reducible assumption) | (with_reducible refine Below.alloc ?_ ?_ _) | (with_reducible refine Below.setCell ?_ ?_ _) | (with_reducible refine Below.drew ?_) | (with_reducible refine below_drewN ?_ _) | (apply bthen2; (with_reducible assumption)) | go_size)))
    · have E := Lib.hid (show fpR a b m d = .tuple #[.agg #[.int .i64 0, .int .i64 0, .int .i64 0], .bool false] by simp [fpR, spPs, spOk, g1, g2, spR])
      generalize fpR a b m d = R at *
      go_enter Try.func22, Try.ntmps22
      go_wp2_with (first | (go_at_call 66; refine (HF.out _).mono ?_; rintro e wa ⟨rfl, hba⟩; have hza := hba.size; (try simp only [World.size_alloc, World.size_setCell, World.size_drew, World.heap_drewN] at hza); try (refine keepc hba (w.heap.size) ?_ ?_; (focus (first | omega | (simp <;> omega))); intro hca_0 hfa_0 hla_0); try (refine keepc hba (w.heap.size + 1) ?_ ?_; (focus (first | omega | (simp <;> omega))); intro hca_1 hfa_1 hla_1); try (refine keepc hba (w.heap.size + 1 + 1) ?_ ?_; (focus (first | omega | (simp <;> omega))); intro hca_2 hfa_2 hla_2)))
      exact bodyPost_ret (v := R) (by rw [E.out]; simp [results, Try.results22, go_sem, hca_1]) rfl (gives rfl (by repeat' (first | (with_reducible exact Below.refl _ _) | (with_reducible assumption) | (with_reducible refine Below.alloc ?_ ?_ _) | (with_reducible refine Below.setCell ?_ ?_ _) | (with_reducible refine Below.drew ?_) | (with_reducible refine below_drewN ?_ _) | (apply bthen2; (with_reducible assumption)) | go_size)))

end Go.Proofs.Ytelkmldmebdcgaa

