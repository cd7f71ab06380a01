import Derived.Test.YtldmledjdcphmaaDesc
import Derived.Test.YtldmledjdcphmaaLawS3
set_option linter.unusedSimpArgs false
set_option linter.unusedVariables false
namespace Go.Proofs.Ytldmledjdcphmaa
open Go.RowKit
/-! ### descents: found divisors -/

noncomputable def fdP (a b : Int) (s : Bool) (M d : Int) : Bool := decide (0 < (qall d (sA a b s) ((sB a b s).tdiv d) M (M + 1).toNat).length)
noncomputable def fdL (a b : Int) (s : Bool) (M : Int) : List Int := (ddL a b s).filter (fdP a b s M)
theorem filter_take (P : Int → Bool) (L : List Int) (i : Nat) (h : i < L.length) : (L.take (i + 1)).filter P = (L.take i).filter P ++ (if P (L.getD i 0) = true then [L.getD i 0] else []) := by
  rw [List.take_succ_eq_append_getElem h, List.filter_append]
  simp only [List.getD, List.getElem?_eq_getElem h, Option.getD_some]
  cases hP : P L[i] <;> simp [hP]
theorem ddL_el {a b : Int} {d : Bool} (h : isT a b = true) : ∀ x ∈ ddL a b d, x ≠ 0 ∧ x.natAbs ≤ 100000 ∧ Sqz x := by
  obtain ⟨r1, r2⟩ := sB_rng (d := d) h
  obtain ⟨h1, h2⟩ := dvs_dvp (N := max (sB a b d) (-(sB a b d))) (by omega)
  intro x hx
  obtain ⟨e1, e2, -, e4⟩ := h1.el x ((h2.2 x).1 hx)
  refine ⟨e1, ?_, e4⟩
  simp only [prodN, Nat.mul_one] at e2
  omega

set_option maxRecDepth 100000 in
set_option maxHeartbeats 4000000 in
theorem found_any (a b : Int) (s : Bool) (M : Int) (h : isT a b = true) (m1 : 1 ≤ M) (m2 : M ≤ 60) (w : World) : Calls Try.prog 53 #[.agg #[.int .i64 a, .int .i64 b], .bool s, .int .i64 M] w (GivesOwn (fdL a b s M) w) := by
  have HD := Lib.hid (fun w => descentDivisors_any a b s h w)
  have HEL := Lib.hid (ddL_el (d := s) h)
  have hlen := ddL_len (d := s) h
  have HQ := Lib.hid (fun d hd w => descentQuartic_any a b s d h hd w)
  obtain ⟨r1, r2⟩ := sB_rng (d := s) h
  have r3 := sA_rng (d := s) h
  have HP := Lib.hid (fun d (hd : d.natAbs ≤ 100000) w => points_any d (sA a b s) ((sB a b s).tdiv d) M hd (by omega) (by have := tdiv_le (sB a b s) d; omega) m1 m2 w)
  have HF := Lib.hid (show ∀ d, fdP a b s M d = decide (0 < (qall d (sA a b s) ((sB a b s).tdiv d) M (M + 1).toNat).length) from fun d => rfl)
  have HR := Lib.hid (show fdL a b s M = (ddL a b s).filter (fdP a b s M) from rfl)
  generalize fdL a b s M = R at *
  generalize fdP a b s M = P at *
  generalize sA a b s = A at *
  generalize sB a b s = B at *
  generalize ddL a b s = L at *
  obtain ⟨n, hn⟩ : ∃ n, L.length = n := ⟨_, rfl⟩
  have HN := Lib.hid hn
  rw [hn] at hlen
  clear r1 r2 r3 h hn
  go_enter Try.func53, Try.ntmps53
  go_wp2_with fail
  refine (HD.out _).mono ?_
  rintro e W1 ⟨pa, pl, pc, rfl, hop, hb1⟩
  have hBX : Box W1 w.heap.size [.int .i64 a, .int .i64 b] := Box.below (box_two (by simp) (by simp) (by simp) (fun o => by simp)) hb1
  have hB1 : Below w.heap.size w W1 := (by repeat' (first | (with_reducible exact Below.refl _ _) | (with_reducible assumption) | (with_reducible refine Below.alloc ?_ ?_ _) | (with_reducible refine Below.setCell ?_ ?_ _) | (with_reducible refine Below.drew ?_) | (with_reducible refine below_drewN ?_ _) | (apply bthen2; (with_reducible assumption)) | go_size))
  have hpl := hop.ints.len
  have hplL : pl = n := by have := HN.out; omega
  subst hplL
  have hcell := hop.ints.cell.2.2
  have HC := Lib.hid hcell
  clear hop hb1 hcell
  go_wp2_with fail
  go_loopw [7, 14] (fun v7 v14 wr => ∃ (i : Nat) (o : Option Addr) (cap : Nat) (out : List Int), i ≤ pl ∧ v14 = .int .i64 i ∧ v7 = .slice o out.length cap ∧ out = (L.take i).filter P ∧ Own wr W1.heap.size (.slice o out.length cap) out ∧ Below W1.heap.size W1 wr) (fun _ v14 _ => pl - (intOf v14).toNat)
  case atStart => exact ⟨0, none, 0, [], by omega, rfl, rfl, by simp, Own.nil _ _, Below.refl _ _⟩
  case round =>
    obtain ⟨i, o, cap, out, hi, rfl, rfl, hout, hown, hbW⟩ := hrel
    have hol : out.length ≤ 400000 := by
      have h1 := List.length_filter_le P (L.take i)
      rw [← hout] at h1
      simp only [List.length_take] at h1
      have := HN.out; omega
    by_cases hlt : i < pl
    · have hlt2 : i < L.length := by have := HN.out; omega
      obtain ⟨pb, poff, hpa, hpb, hpc⟩ := HC.out i hlt
      subst hpa
      have c1 := (hbW.cell (p := ⟨pb, poff + i, none⟩) hpb).trans hpc
      have hbx := hBX.below hbW
      have b0 := hbx.2.1 0 _ rfl
      have b1 := hbx.2.1 1 _ rfl
      have b2 := hbx.1
      obtain ⟨e1, e2, -⟩ := HEL.out _ (getD_mem hlt2)
      have hft := filter_take P L i hlt2
      rw [← hout, HF.out] at hft
      have HQQ := Lib.hid (fun w => HQ.out (L.getD i 0) e1 w)
      have HPP := Lib.hid (fun w => HP.out (L.getD i 0) e2 w)
      generalize L.getD i 0 = d at *
      generalize qall d A (B.tdiv d) M (M + 1).toNat = rows at *
      generalize B.tdiv d = C at *
      have HO := Lib.hid hown
      have hzo := hbW.size
      clear hbx hout hown e1 e2
      by_cases hr : 0 < rows.length
      · rw [if_pos (by simp [hr])] at hft
        have HFT := Lib.hid hft
        clear hft
        go_wp2_with fail
        refine (HQQ.out _).mono ?_
        rintro e W2 ⟨rfl, hb2⟩
        go_wp2_with fail
        refine (HPP.out _).mono ?_
        rintro e W3 ⟨ra, rl, rc, rfl, hrl, hb3⟩
        have hrl2 := hrl.cell.1
        have hrl3 := hrl.cell.2.1
        have hpos : 0 < (rl : Int) := by omega
        have hO3 := (HO.out.below hb2).below hb3
        have hz2 := hb2.size
        have hz3 := hb3.size
        have hbn : Below W1.heap.size W1 W3 := (hbW.trans (hb2.mono hzo)).trans (hb3.mono (by omega))
        have HO3 := Lib.hid hO3
        clear hrl b0 b1 hO3 hb2 hb3
        go_wp2_with (first | (at_builtin; refine wpl_app (W := W1) rfl _ _ rfl W1.heap.size _ out rfl (HO3.out.alloc _) ⟨W3.heap.size, 0, none⟩ 1 d rfl (by simp) (by omega) (Below.alloc hbn (by omega) _) (by first | (simp; done) | (simp; omega)) ?_; intro a1 cc1 w1 hown1 hbw1 hsz1))
        go_roundw
        case rel => exact ⟨i + 1, a1, cc1, out ++ [d], by omega, by go_num, by rw [List.length_append]; rfl, HFT.out.symm, by rw [List.length_append]; exact hown1, hbw1⟩
        case measure => simp [intOf]; omega
      · rw [if_neg (by simp [hr])] at hft
        rw [List.append_nil] at hft
        have HFT := Lib.hid hft
        clear hft
        go_wp2_with fail
        refine (HQQ.out _).mono ?_
        rintro e W2 ⟨rfl, hb2⟩
        go_wp2_with fail
        refine (HPP.out _).mono ?_
        rintro e W3 ⟨ra, rl, rc, rfl, hrl, hb3⟩
        have hrl2 := hrl.cell.1
        have hz0 : rl = 0 := by omega
        subst hz0
        have hO3 := (HO.out.below hb2).below hb3
        have hz2 := hb2.size
        have hbn : Below W1.heap.size W1 W3 := (hbW.trans (hb2.mono hzo)).trans (hb3.mono (by omega))
        have HO3 := Lib.hid hO3
        clear hrl b0 b1 hO3 hb2 hb3
        go_wp2_with fail
        go_roundw
        case rel => exact ⟨i + 1, o, cap, out, by omega, by go_num, rfl, HFT.out.symm, HO3.out, hbn⟩
        case measure => simp [intOf]; omega
    · have e : i = pl := by omega
      have hfin : out = R := by rw [hout, List.take_of_length_le (by have := HN.out; omega), HR.out]
      have HF2 := Lib.hid hfin
      have HO := Lib.hid hown
      have hzo := hbW.size
      have hz1 := hB1.size
      clear hout hown hfin
      go_wp2
      go_ret
      exact ⟨_, _, _, rfl, by rw [← HF2.out]; exact HO.out.mono hz1, hB1.trans (hbW.mono hz1)⟩

set_option maxRecDepth 100000 in
set_option maxHeartbeats 4000000 in
theorem dsFound_any (a b : Int) (s : Bool) (M : Int) (h : isT a b = true) (m1 : 1 ≤ M) (m2 : M ≤ 60) (w : World) : Calls Try.prog 52 #[.agg #[.int .i64 a, .int .i64 b], .bool s, .int .i64 M] w (GivesOwn (fdL a b s M) w) := by
  have HD := Lib.hid (fun w => dsDivisors_any a b s h w)
  have HEL := Lib.hid (ddL_el (d := s) h)
  have hlen := ddL_len (d := s) h
  have HQ := Lib.hid (fun d hd w => dsQuartic_any a b s d h hd w)
  obtain ⟨r1, r2⟩ := sB_rng (d := s) h
  have r3 := sA_rng (d := s) h
  have HP := Lib.hid (fun d (hd : d.natAbs ≤ 100000) w => seOnQuartic_any d (sA a b s) ((sB a b s).tdiv d) M hd (by omega) (by have := tdiv_le (sB a b s) d; omega) m1 m2 w)
  have HF := Lib.hid (show ∀ d, fdP a b s M d = decide (0 < (qall d (sA a b s) ((sB a b s).tdiv d) M (M + 1).toNat).length) from fun d => rfl)
  have HR := Lib.hid (show fdL a b s M = (ddL a b s).filter (fdP a b s M) from rfl)
  generalize fdL a b s M = R at *
  generalize fdP a b s M = P at *
  generalize sA a b s = A at *
  generalize sB a b s = B at *
  generalize ddL a b s = L at *
  obtain ⟨n, hn⟩ : ∃ n, L.length = n := ⟨_, rfl⟩
  have HN := Lib.hid hn
  rw [hn] at hlen
  clear r1 r2 r3 h hn
  go_enter Try.func52, Try.ntmps52
  go_wp2_with fail
  refine (HD.out _).mono ?_
  rintro e W1 ⟨pa, pl, pc, rfl, hop, hb1⟩
  have hBX : Box W1 w.heap.size [.int .i64 a, .int .i64 b] := Box.below (box_two (by simp) (by simp) (by simp) (fun o => by simp)) hb1
  have hB1 : Below w.heap.size w W1 := (by repeat' (first | (with_reducible exact Below.refl _ _) | (with_reducible assumption) | (with_reducible refine Below.alloc ?_ ?_ _) | (with_reducible refine Below.setCell ?_ ?_ _) | (with_reducible refine Below.drew ?_) | (with_reducible refine below_drewN ?_ _) | (apply bthen2; (with_reducible assumption)) | go_size))
  have hpl := hop.ints.len
  have hplL : pl = n := by have := HN.out; omega
  subst hplL
  have hcell := hop.ints.cell.2.2
  have HC := Lib.hid hcell
  clear hop hb1 hcell
  go_wp2_with fail
  go_loopw [7, 14] (fun v7 v14 wr => ∃ (i : Nat) (o : Option Addr) (cap : Nat) (out : List Int), i ≤ pl ∧ v14 = .int .i64 i ∧ v7 = .slice o out.length cap ∧ out = (L.take i).filter P ∧ Own wr W1.heap.size (.slice o out.length cap) out ∧ Below W1.heap.size W1 wr) (fun _ v14 _ => pl - (intOf v14).toNat)
  case atStart => exact ⟨0, none, 0, [], by omega, rfl, rfl, by simp, Own.nil _ _, Below.refl _ _⟩
  case round =>
    obtain ⟨i, o, cap, out, hi, rfl, rfl, hout, hown, hbW⟩ := hrel
    have hol : out.length ≤ 400000 := by
      have h1 := List.length_filter_le P (L.take i)
      rw [← hout] at h1
      simp only [List.length_take] at h1
      have := HN.out; omega
    by_cases hlt : i < pl
    · have hlt2 : i < L.length := by have := HN.out; omega
      obtain ⟨pb, poff, hpa, hpb, hpc⟩ := HC.out i hlt
      subst hpa
      have c1 := (hbW.cell (p := ⟨pb, poff + i, none⟩) hpb).trans hpc
      have hbx := hBX.below hbW
      have b0 := hbx.2.1 0 _ rfl
      have b1 := hbx.2.1 1 _ rfl
      have b2 := hbx.1
      obtain ⟨e1, e2, -⟩ := HEL.out _ (getD_mem hlt2)
      have hft := filter_take P L i hlt2
      rw [← hout, HF.out] at hft
      have HQQ := Lib.hid (fun w => HQ.out (L.getD i 0) e1 w)
      have HPP := Lib.hid (fun w => HP.out (L.getD i 0) e2 w)
      generalize L.getD i 0 = d at *
      generalize qall d A (B.tdiv d) M (M + 1).toNat = rows at *
      generalize B.tdiv d = C at *
      have HO := Lib.hid hown
      have hzo := hbW.size
      clear hbx hout hown e1 e2
      by_cases hr : 0 < rows.length
      · rw [if_pos (by simp [hr])] at hft
        have HFT := Lib.hid hft
        clear hft
        go_wp2_with fail
        refine (HQQ.out _).mono ?_
        rintro e W2 ⟨rfl, hb2⟩
        go_wp2_with fail
        refine (HPP.out _).mono ?_
        rintro e W3 ⟨ra, rl, rc, rfl, hrl, hb3⟩
        have hrl2 := hrl.cell.1
        have hrl3 := hrl.cell.2.1
        have hpos : 0 < (rl : Int) := by omega
        have hO3 := (HO.out.below hb2).below hb3
        have hz2 := hb2.size
        have hz3 := hb3.size
        have hbn : Below W1.heap.size W1 W3 := (hbW.trans (hb2.mono hzo)).trans (hb3.mono (by omega))
        have HO3 := Lib.hid hO3
        clear hrl b0 b1 hO3 hb2 hb3
        go_wp2_with (first | (at_builtin; refine wpl_app (W := W1) rfl _ _ rfl W1.heap.size _ out rfl (HO3.out.alloc _) ⟨W3.heap.size, 0, none⟩ 1 d rfl (by simp) (by omega) (Below.alloc hbn (by omega) _) (by first | (simp; done) | (simp; omega)) ?_; intro a1 cc1 w1 hown1 hbw1 hsz1))
        go_roundw
        case rel => exact ⟨i + 1, a1, cc1, out ++ [d], by omega, by go_num, by rw [List.length_append]; rfl, HFT.out.symm, by rw [List.length_append]; exact hown1, hbw1⟩
        case measure => simp [intOf]; omega
      · rw [if_neg (by simp [hr])] at hft
        rw [List.append_nil] at hft
        have HFT := Lib.hid hft
        clear hft
        go_wp2_with fail
        refine (HQQ.out _).mono ?_
        rintro e W2 ⟨rfl, hb2⟩
        go_wp2_with fail
        refine (HPP.out _).mono ?_
        rintro e W3 ⟨ra, rl, rc, rfl, hrl, hb3⟩
        have hrl2 := hrl.cell.1
        have hz0 : rl = 0 := by omega
        subst hz0
        have hO3 := (HO.out.below hb2).below hb3
        have hz2 := hb2.size
        have hbn : Below W1.heap.size W1 W3 := (hbW.trans (hb2.mono hzo)).trans (hb3.mono (by omega))
        have HO3 := Lib.hid hO3
        clear hrl b0 b1 hO3 hb2 hb3
        go_wp2_with fail
        go_roundw
        case rel => exact ⟨i + 1, o, cap, out, by omega, by go_num, rfl, HFT.out.symm, HO3.out, hbn⟩
        case measure => simp [intOf]; omega
    · have e : i = pl := by omega
      have hfin : out = R := by rw [hout, List.take_of_length_le (by have := HN.out; omega), HR.out]
      have HF2 := Lib.hid hfin
      have HO := Lib.hid hown
      have hzo := hbW.size
      have hz1 := hB1.size
      clear hout hown hfin
      go_wp2
      go_ret
      exact ⟨_, _, _, rfl, by rw [← HF2.out]; exact HO.out.mono hz1, hB1.trans (hbW.mono hz1)⟩

def fdOk (a b M : Int) : Bool := isT a b && inB M 1 60
noncomputable def fdR (a b : Int) (s : Bool) (M : Int) : List Int := if fdOk a b M = true then fdL a b s M else []
theorem fdR_len (a b : Int) (s : Bool) (M : Int) : (fdR a b s M).length ≤ 400000 := by
  unfold fdR
  split
  · rename_i h
    unfold fdOk at h
    simp only [Bool.and_eq_true] at h
    exact Nat.le_trans (List.length_filter_le _ _) (ddL_len h.1)
  · simp
theorem dsMost_any (M : Int) (w : World) : Calls Try.prog 51 #[.int .i64 M] w (Same (.bool (inB M 1 60)) w) := by
  have HI := Lib.hid (fun w => l1In_any M 1 60 w)
  generalize inB M 1 60 = B at *
  go_enter Try.func51, Try.ntmps51
  go_wp2_with fail
  refine (HI.out _).mono ?_
  rintro e w1 ⟨rfl, rfl⟩
  go_wp2
  go_ret; exact same rfl
set_option maxHeartbeats 1000000 in
theorem FoundDivisors_any (a b : Int) (s : Bool) (M : Int) (w : World) : Calls Try.prog 27 #[.agg #[.int .i64 a, .int .i64 b], .bool s, .int .i64 M] w (GivesIB (fdR a b s M) (fdOk a b M) w) := by
  have HG := Lib.hid (fun w => isTwoCurve_any a b w)
  have HI := Lib.hid (fun w => inside_any M 1 60 w)
  unfold fdR fdOk
  cases g : isT a b
  · rw [g] at HG
    simp only [Bool.false_and, Bool.false_eq_true, if_false]
    go_enter Try.func27, Try.ntmps27
    go_wp2_with fail
    refine (HG.out _).mono ?_
    rintro e wa ⟨rfl, hba⟩; have hza := hba.size; (try simp only [World.size_alloc, World.size_setCell, World.size_drew, World.heap_drewN] at hza); try (refine keepc hba (w.heap.size) ?_ ?_; (focus (first | omega | (simp <;> omega))); intro hca_0 hfa_0 hla_0); try (refine keepc hba (w.heap.size + 1) ?_ ?_; (focus (first | omega | (simp <;> omega))); intro hca_1 hfa_1 hla_1); try (refine keepc hba (w.heap.size + 1 + 1) ?_ ?_; (focus (first | omega | (simp <;> omega))); intro hca_2 hfa_2 hla_2)
    go_wp2
    go_ret2
    exact ⟨_, _, _, rfl, Own.nil _ _, (by repeat' (first | (with_reducible exact Below.refl _ _) | (with_reducible assumption) | (with_reducible refine Below.alloc ?_ ?_ _) | (with_reducible refine Below.setCell ?_ ?_ _) | (with_reducible refine Below.drew ?_) | (with_reducible refine below_drewN ?_ _) | (apply bthen2; (with_reducible assumption)) | go_size))⟩
  rw [g] at HG
  cases g2 : inB M 1 60
  · rw [g2] at HI
    simp only [Bool.and_false, Bool.false_eq_true, if_false]
    go_enter Try.func27, Try.ntmps27
    go_wp2_with fail
    refine (HG.out _).mono ?_
    rintro e wa ⟨rfl, hba⟩; have hza := hba.size; (try simp only [World.size_alloc, World.size_setCell, World.size_drew, World.heap_drewN] at hza); try (refine keepc hba (w.heap.size) ?_ ?_; (focus (first | omega | (simp <;> omega))); intro hca_0 hfa_0 hla_0); try (refine keepc hba (w.heap.size + 1) ?_ ?_; (focus (first | omega | (simp <;> omega))); intro hca_1 hfa_1 hla_1); try (refine keepc hba (w.heap.size + 1 + 1) ?_ ?_; (focus (first | omega | (simp <;> omega))); intro hca_2 hfa_2 hla_2)
    go_wp2_with fail
    refine (HI.out _).mono ?_
    rintro e wb ⟨rfl, rfl⟩
    go_wp2
    go_ret2
    exact ⟨_, _, _, rfl, Own.nil _ _, (by repeat' (first | (with_reducible exact Below.refl _ _) | (with_reducible assumption) | (with_reducible refine Below.alloc ?_ ?_ _) | (with_reducible refine Below.setCell ?_ ?_ _) | (with_reducible refine Below.drew ?_) | (with_reducible refine below_drewN ?_ _) | (apply bthen2; (with_reducible assumption)) | go_size))⟩
  · rw [g2] at HI
    have hM := inB_iff.1 g2
    have HF := Lib.hid (fun w => found_any a b s M g hM.1 hM.2 w)
    simp only [Bool.and_self, if_true]
    generalize fdL a b s M = L at *
    clear g g2 hM
    go_enter Try.func27, Try.ntmps27
    go_wp2_with fail
    refine (HG.out _).mono ?_
    rintro e wa ⟨rfl, hba⟩; have hza := hba.size; (try simp only [World.size_alloc, World.size_setCell, World.size_drew, World.heap_drewN] at hza); try (refine keepc hba (w.heap.size) ?_ ?_; (focus (first | omega | (simp <;> omega))); intro hca_0 hfa_0 hla_0); try (refine keepc hba (w.heap.size + 1) ?_ ?_; (focus (first | omega | (simp <;> omega))); intro hca_1 hfa_1 hla_1); try (refine keepc hba (w.heap.size + 1 + 1) ?_ ?_; (focus (first | omega | (simp <;> omega))); intro hca_2 hfa_2 hla_2)
    go_wp2_with fail
    refine (HI.out _).mono ?_
    rintro e wb ⟨rfl, rfl⟩
    go_wp2_with fail
    refine (HF.out _).mono ?_
    rintro e wc ⟨a3, l3, c3, rfl, ho, hbc⟩
    go_wp2_with fail
    go_ret2
    exact ⟨_, _, _, rfl, ho.mono (by first | (simp; omega) | omega), (by repeat' (first | (with_reducible exact Below.refl _ _) | (with_reducible assumption) | (with_reducible refine Below.alloc ?_ ?_ _) | (with_reducible refine Below.setCell ?_ ?_ _) | (with_reducible refine Below.drew ?_) | (with_reducible refine below_drewN ?_ _) | (apply bthen2; (with_reducible assumption)) | go_size))⟩
set_option maxHeartbeats 1000000 in
theorem sFoundDivisors_any (a b : Int) (s : Bool) (M : Int) (w : World) : Calls Try.prog 26 #[.agg #[.int .i64 a, .int .i64 b], .bool s, .int .i64 M] w (GivesIB (fdR a b s M) (fdOk a b M) w) := by
  have HG := Lib.hid (fun w => tcGood_any a b w)
  have HI := Lib.hid (fun w => dsMost_any M w)
  unfold fdR fdOk
  cases g : isT a b
  · rw [g] at HG
    simp only [Bool.false_and, Bool.false_eq_true, if_false]
    go_enter Try.func26, Try.ntmps26
    go_wp2_with fail
    refine (HG.out _).mono ?_
    rintro e wa ⟨rfl, hba⟩; have hza := hba.size; (try simp only [World.size_alloc, World.size_setCell, World.size_drew, World.heap_drewN] at hza); try (refine keepc hba (w.heap.size) ?_ ?_; (focus (first | omega | (simp <;> omega))); intro hca_0 hfa_0 hla_0); try (refine keepc hba (w.heap.size + 1) ?_ ?_; (focus (first | omega | (simp <;> omega))); intro hca_1 hfa_1 hla_1); try (refine keepc hba (w.heap.size + 1 + 1) ?_ ?_; (focus (first | omega | (simp <;> omega))); intro hca_2 hfa_2 hla_2)
    go_wp2
    go_ret2
    exact ⟨_, _, _, rfl, Own.nil _ _, (by repeat' (first | (with_reducible exact Below.refl _ _) | (with_reducible assumption) | (with_reducible refine Below.alloc ?_ ?_ _) | (with_reducible refine Below.setCell ?_ ?_ _) | (with_reducible refine Below.drew ?_) | (with_reducible refine below_drewN ?_ _) | (apply bthen2; (with_reducible assumption)) | go_size))⟩
  rw [g] at HG
  cases g2 : inB M 1 60
  · rw [g2] at HI
    simp only [Bool.and_false, Bool.false_eq_true, if_false]
    go_enter Try.func26, Try.ntmps26
    go_wp2_with fail
    refine (HG.out _).mono ?_
    rintro e wa ⟨rfl, hba⟩; have hza := hba.size; (try simp only [World.size_alloc, World.size_setCell, World.size_drew, World.heap_drewN] at hza); try (refine keepc hba (w.heap.size) ?_ ?_; (focus (first | omega | (simp <;> omega))); intro hca_0 hfa_0 hla_0); try (refine keepc hba (w.heap.size + 1) ?_ ?_; (focus (first | omega | (simp <;> omega))); intro hca_1 hfa_1 hla_1); try (refine keepc hba (w.heap.size + 1 + 1) ?_ ?_; (focus (first | omega | (simp <;> omega))); intro hca_2 hfa_2 hla_2)
    go_wp2_with fail
    refine (HI.out _).mono ?_
    rintro e wb ⟨rfl, rfl⟩
    go_wp2
    go_ret2
    exact ⟨_, _, _, rfl, Own.nil _ _, (by repeat' (first | (with_reducible exact Below.refl _ _) | (with_reducible assumption) | (with_reducible refine Below.alloc ?_ ?_ _) | (with_reducible refine Below.setCell ?_ ?_ _) | (with_reducible refine Below.drew ?_) | (with_reducible refine below_drewN ?_ _) | (apply bthen2; (with_reducible assumption)) | go_size))⟩
  · rw [g2] at HI
    have hM := inB_iff.1 g2
    have HF := Lib.hid (fun w => dsFound_any a b s M g hM.1 hM.2 w)
    simp only [Bool.and_self, if_true]
    generalize fdL a b s M = L at *
    clear g g2 hM
    go_enter Try.func26, Try.ntmps26
    go_wp2_with fail
    refine (HG.out _).mono ?_
    rintro e wa ⟨rfl, hba⟩; have hza := hba.size; (try simp only [World.size_alloc, World.size_setCell, World.size_drew, World.heap_drewN] at hza); try (refine keepc hba (w.heap.size) ?_ ?_; (focus (first | omega | (simp <;> omega))); intro hca_0 hfa_0 hla_0); try (refine keepc hba (w.heap.size + 1) ?_ ?_; (focus (first | omega | (simp <;> omega))); intro hca_1 hfa_1 hla_1); try (refine keepc hba (w.heap.size + 1 + 1) ?_ ?_; (focus (first | omega | (simp <;> omega))); intro hca_2 hfa_2 hla_2)
    go_wp2_with fail
    refine (HI.out _).mono ?_
    rintro e wb ⟨rfl, rfl⟩
    go_wp2_with fail
    refine (HF.out _).mono ?_
    rintro e wc ⟨a3, l3, c3, rfl, ho, hbc⟩
    go_wp2_with fail
    go_ret2
    exact ⟨_, _, _, rfl, ho.mono (by first | (simp; omega) | omega), (by repeat' (first | (with_reducible exact Below.refl _ _) | (with_reducible assumption) | (with_reducible refine Below.alloc ?_ ?_ _) | (with_reducible refine Below.setCell ?_ ?_ _) | (with_reducible refine Below.drew ?_) | (with_reducible refine below_drewN ?_ _) | (apply bthen2; (with_reducible assumption)) | go_size))⟩

set_option maxRecDepth 100000 in
set_option maxHeartbeats 2000000 in
theorem walk_FnExactFoundDivisors (a b : Int) (s : Bool) (M : Int) (w : World) (_w0 : (Lit.int .i64 a).wf = true) (_w1 : (Lit.int .i64 b).wf = true) (_w2 : (Lit.int .i64 M).wf = true) : Calls Try.prog 7 #[.agg #[.int .i64 a, .int .i64 b], .bool s, .int .i64 M] w (Gives (.bool true) w) := by
  have HS := Lib.hid (fun w => sFoundDivisors_any a b s M w)
  have HI := Lib.hid (fun w => FoundDivisors_any a b s M w)
  have hlen : (fdR a b s M).length ≤ 400000 := fdR_len a b s M
  generalize fdR a b s M = R at *
  generalize fdOk a b M = ok at *
  go_enter Try.func7, Try.ntmps7
  go_wp2_with fail
  (refine (toTwoCurve_any _ _ _).mono ?_; rintro e wa ⟨rfl, hba⟩; have hza := hba.size; (try simp only [World.size_alloc, World.size_setCell, World.size_drew, World.heap_drewN] at hza); try (refine keepc hba (w.heap.size) ?_ ?_; (focus (first | omega | (simp <;> omega))); intro hca_0 hfa_0 hla_0); try (refine keepc hba (w.heap.size + 1) ?_ ?_; (focus (first | omega | (simp <;> omega))); intro hca_1 hfa_1 hla_1); try (refine keepc hba (w.heap.size + 1 + 1) ?_ ?_; (focus (first | omega | (simp <;> omega))); intro hca_2 hfa_2 hla_2))
  go_wp2_with fail
  refine (HS.out _).mono ?_; rintro e wb ⟨sa, sl, sc, rfl, ownb, hbb⟩
  have hzb := hbb.size; (try simp only [World.size_alloc, World.size_setCell, World.size_drew, World.heap_drewN] at hzb); try (refine keepc hbb (w.heap.size) ?_ ?_; (focus (first | omega | (simp <;> omega))); intro hcb_0 hfb_0 hlb_0); try (refine keepc hbb (w.heap.size + 1) ?_ ?_; (focus (first | omega | (simp <;> omega))); intro hcb_1 hfb_1 hlb_1); try (refine keepc hbb (w.heap.size + 1 + 1) ?_ ?_; (focus (first | omega | (simp <;> omega))); intro hcb_2 hfb_2 hlb_2)
  go_wp2_with fail
  (refine (toTwoCurve_any _ _ _).mono ?_; rintro e wc ⟨rfl, hbc⟩; have hzc := hbc.size; (try simp only [World.size_alloc, World.size_setCell, World.size_drew, World.heap_drewN] at hzc); try (refine keepc hbc (w.heap.size) ?_ ?_; (focus (first | omega | (simp <;> omega))); intro hcc_0 hfc_0 hlc_0); try (refine keepc hbc (w.heap.size + 1) ?_ ?_; (focus (first | omega | (simp <;> omega))); intro hcc_1 hfc_1 hlc_1); try (refine keepc hbc (w.heap.size + 1 + 1) ?_ ?_; (focus (first | omega | (simp <;> omega))); intro hcc_2 hfc_2 hlc_2))
  go_wp2_with fail
  refine (HI.out _).mono ?_; rintro e wd ⟨ga, gl, gc, rfl, ownd, hbd⟩
  have hzd := hbd.size; (try simp only [World.size_alloc, World.size_setCell, World.size_drew, World.heap_drewN] at hzd); try (refine keepc hbd (w.heap.size) ?_ ?_; (focus (first | omega | (simp <;> omega))); intro hcd_0 hfd_0 hld_0); try (refine keepc hbd (w.heap.size + 1) ?_ ?_; (focus (first | omega | (simp <;> omega))); intro hcd_1 hfd_1 hld_1); try (refine keepc hbd (w.heap.size + 1 + 1) ?_ ?_; (focus (first | omega | (simp <;> omega))); intro hcd_2 hfd_2 hld_2)
  go_wp2_with fail
  refine (eqIntS_same _ _ R _ ?_ ?_).mono ?_
  · refine Ints.below ownd.ints ?_; repeat' (first | (with_reducible exact Below.refl _ _) | (with_reducible assumption) | (with_reducible refine Below.alloc ?_ ?_ _) | (with_reducible refine Below.setCell ?_ ?_ _) | (with_reducible refine Below.drew ?_) | (with_reducible refine below_drewN ?_ _) | (apply bthen2; (with_reducible assumption)) | go_size)
  · refine Ints.below ownb.ints ?_; repeat' (first | (with_reducible exact Below.refl _ _) | (with_reducible assumption) | (with_reducible refine Below.alloc ?_ ?_ _) | (with_reducible refine Below.setCell ?_ ?_ _) | (with_reducible refine Below.drew ?_) | (with_reducible refine below_drewN ?_ _) | (apply bthen2; (with_reducible assumption)) | go_size)
  rintro e we ⟨rfl, hbe⟩
  have hze := hbe.size; (try simp only [World.size_alloc, World.size_setCell, World.size_drew, World.heap_drewN] at hze); try (refine keepc hbe (w.heap.size) ?_ ?_; (focus (first | omega | (simp <;> omega))); intro hce_0 hfe_0 hle_0); try (refine keepc hbe (w.heap.size + 1) ?_ ?_; (focus (first | omega | (simp <;> omega))); intro hce_1 hfe_1 hle_1); try (refine keepc hbe (w.heap.size + 1 + 1) ?_ ?_; (focus (first | omega | (simp <;> omega))); intro hce_2 hfe_2 hle_2)
  have owne := ownd.below hbe
  go_wp2_with fail
  refine (markIntS_any wc.heap.size _ R 1 _ ?_ (by omega) (by omega)).mono ?_
  · exact owne
  rintro e wf ⟨rfl, ownf, hon⟩
  have hbf := mark_belowI ownd hbd hbe hon
  have hzf := hbf.size; (try simp only [World.size_alloc, World.size_setCell, World.size_drew, World.heap_drewN] at hzf); try (refine keepc hbf (w.heap.size) ?_ ?_; (focus (first | omega | (simp <;> omega))); intro hcf_0 hff_0 hlf_0); try (refine keepc hbf (w.heap.size + 1) ?_ ?_; (focus (first | omega | (simp <;> omega))); intro hcf_1 hff_1 hlf_1); try (refine keepc hbf (w.heap.size + 1 + 1) ?_ ?_; (focus (first | omega | (simp <;> omega))); intro hcf_2 hff_2 hlf_2)
  go_wp2_with fail
  refine (heldIntS_any _ R.length 1 _ ?_ (by omega) (by omega)).mono ?_
  · exact ownf.ints
  rintro e wf' ⟨rfl, rfl⟩
  go_wp2_with fail
  (refine (toTwoCurve_any _ _ _).mono ?_; rintro e wg ⟨rfl, hbg⟩; have hzg := hbg.size; (try simp only [World.size_alloc, World.size_setCell, World.size_drew, World.heap_drewN] at hzg); try (refine keepc hbg (w.heap.size) ?_ ?_; (focus (first | omega | (simp <;> omega))); intro hcg_0 hfg_0 hlg_0); try (refine keepc hbg (w.heap.size + 1) ?_ ?_; (focus (first | omega | (simp <;> omega))); intro hcg_1 hfg_1 hlg_1); try (refine keepc hbg (w.heap.size + 1 + 1) ?_ ?_; (focus (first | omega | (simp <;> omega))); intro hcg_2 hfg_2 hlg_2))
  go_wp2_with fail
  refine (HI.out _).mono ?_; rintro e wh ⟨ha, hl, hc, rfl, ownh, hbh⟩
  have hzh := hbh.size; (try simp only [World.size_alloc, World.size_setCell, World.size_drew, World.heap_drewN] at hzh); try (refine keepc hbh (w.heap.size) ?_ ?_; (focus (first | omega | (simp <;> omega))); intro hch_0 hfh_0 hlh_0); try (refine keepc hbh (w.heap.size + 1) ?_ ?_; (focus (first | omega | (simp <;> omega))); intro hch_1 hfh_1 hlh_1); try (refine keepc hbh (w.heap.size + 1 + 1) ?_ ?_; (focus (first | omega | (simp <;> omega))); intro hch_2 hfh_2 hlh_2)
  go_wp2_with fail
  refine (eqIntS_same _ _ R _ ?_ ?_).mono ?_
  · refine Ints.below ownh.ints ?_; repeat' (first | (with_reducible exact Below.refl _ _) | (with_reducible assumption) | (with_reducible refine Below.alloc ?_ ?_ _) | (with_reducible refine Below.setCell ?_ ?_ _) | (with_reducible refine Below.drew ?_) | (with_reducible refine below_drewN ?_ _) | (apply bthen2; (with_reducible assumption)) | go_size)
  · refine Ints.below ownb.ints ?_; repeat' (first | (with_reducible exact Below.refl _ _) | (with_reducible assumption) | (with_reducible refine Below.alloc ?_ ?_ _) | (with_reducible refine Below.setCell ?_ ?_ _) | (with_reducible refine Below.drew ?_) | (with_reducible refine below_drewN ?_ _) | (apply bthen2; (with_reducible assumption)) | go_size)
  rintro e wi ⟨rfl, hbi⟩
  have hzi := hbi.size; (try simp only [World.size_alloc, World.size_setCell, World.size_drew, World.heap_drewN] at hzi); try (refine keepc hbi (w.heap.size) ?_ ?_; (focus (first | omega | (simp <;> omega))); intro hci_0 hfi_0 hli_0); try (refine keepc hbi (w.heap.size + 1) ?_ ?_; (focus (first | omega | (simp <;> omega))); intro hci_1 hfi_1 hli_1); try (refine keepc hbi (w.heap.size + 1 + 1) ?_ ?_; (focus (first | omega | (simp <;> omega))); intro hci_2 hfi_2 hli_2)
  go_wp2_with fail
  refine (heldIntS_any _ R.length 1 _ ?_ (by omega) (by omega)).mono ?_
  · refine Ints.below ownf.ints ?_; repeat' (first | (with_reducible exact Below.refl _ _) | (with_reducible assumption) | (with_reducible refine Below.alloc ?_ ?_ _) | (with_reducible refine Below.setCell ?_ ?_ _) | (with_reducible refine Below.drew ?_) | (with_reducible refine below_drewN ?_ _) | (apply bthen2; (with_reducible assumption)) | go_size)
  rintro e wi' ⟨rfl, rfl⟩
  go_wp2
  go_ret
  exact gives rfl (by repeat' (first | (with_reducible exact Below.refl _ _) | (with_reducible assumption) | (with_reducible refine Below.alloc ?_ ?_ _) | (with_reducible refine Below.setCell ?_ ?_ _) | (with_reducible refine Below.drew ?_) | (with_reducible refine below_drewN ?_ _) | (apply bthen2; (with_reducible assumption)) | go_size))

noncomputable def dqOk (a b : Int) (s : Bool) (d : Int) : Bool := isT a b && (ddL a b s).contains d
noncomputable def dqV (a b : Int) (s : Bool) (d : Int) : Value := if dqOk a b s d = true then .tuple #[.agg #[.int .i64 d, .int .i64 (sA a b s), .int .i64 ((sB a b s).tdiv d)], .bool true] else .tuple #[.agg #[.int .i64 0, .int .i64 0, .int .i64 0], .bool false]
set_option maxHeartbeats 1000000 in
theorem DescentQuartic_any (a b : Int) (s : Bool) (d : Int) (w : World) : Calls Try.prog 21 #[.agg #[.int .i64 a, .int .i64 b], .bool s, .int .i64 d] w (Gives (dqV a b s d) w) := by
  have HG := Lib.hid (fun w => isTwoCurve_any a b w)
  unfold dqV dqOk
  cases g : isT a b
  · rw [g] at HG
    simp only [Bool.false_and, Bool.false_eq_true, if_false]
    go_enter Try.func21, Try.ntmps21
    go_wp2_with fail
    refine (HG.out _).mono ?_
    rintro e wa ⟨rfl, hba⟩; have hza := hba.size; (try simp only [World.size_alloc, World.size_setCell, World.size_drew, World.heap_drewN] at hza); try (refine keepc hba (w.heap.size) ?_ ?_; (focus (first | omega | (simp <;> omega))); intro hca_0 hfa_0 hla_0); try (refine keepc hba (w.heap.size + 1) ?_ ?_; (focus (first | omega | (simp <;> omega))); intro hca_1 hfa_1 hla_1); try (refine keepc hba (w.heap.size + 1 + 1) ?_ ?_; (focus (first | omega | (simp <;> omega))); intro hca_2 hfa_2 hla_2)
    go_wp2
    refine bodyPost_ret (v := .tuple #[.agg #[.int .i64 0, .int .i64 0, .int .i64 0], .bool false]) (by simp [results, Try.results21, go_sem, hca_1, hla_1]) rfl (gives rfl (by repeat' (first | (with_reducible exact Below.refl _ _) | (with_reducible assumption) | (with_reducible refine Below.alloc ?_ ?_ _) | (with_reducible refine Below.setCell ?_ ?_ _) | (with_reducible refine Below.drew ?_) | (with_reducible refine below_drewN ?_ _) | (apply bthen2; (with_reducible assumption)) | go_size)))
  rw [g] at HG
  have HD := Lib.hid (fun w => descentDivisors_any a b s g w)
  have HEL := Lib.hid (ddL_el (d := s) g)
  have HQ := Lib.hid (fun hd w => descentQuartic_any a b s d g hd w)
  have HK := Lib.hid (fun v w h => Contains_any v (ddL a b s) d w h)
  simp only [Bool.true_and]
  cases g2 : (ddL a b s).contains d
  · rw [g2] at HK
    simp only [Bool.false_eq_true, if_false]
    generalize ddL a b s = L at *
    clear HQ HEL g
    go_enter Try.func21, Try.ntmps21
    go_wp2_with fail
    refine (HG.out _).mono ?_
    rintro e wa ⟨rfl, hba⟩; have hza := hba.size; (try simp only [World.size_alloc, World.size_setCell, World.size_drew, World.heap_drewN] at hza); try (refine keepc hba (w.heap.size) ?_ ?_; (focus (first | omega | (simp <;> omega))); intro hca_0 hfa_0 hla_0); try (refine keepc hba (w.heap.size + 1) ?_ ?_; (focus (first | omega | (simp <;> omega))); intro hca_1 hfa_1 hla_1); try (refine keepc hba (w.heap.size + 1 + 1) ?_ ?_; (focus (first | omega | (simp <;> omega))); intro hca_2 hfa_2 hla_2)
    go_wp2_with fail
    refine (HD.out _).mono ?_
    rintro e wb ⟨a3, l3, c3, rfl, ho, hbb⟩
    have hzb := hbb.size; (try simp only [World.size_alloc, World.size_setCell, World.size_drew, World.heap_drewN] at hzb); try (refine keepc hbb (w.heap.size) ?_ ?_; (focus (first | omega | (simp <;> omega))); intro hcb_0 hfb_0 hlb_0); try (refine keepc hbb (w.heap.size + 1) ?_ ?_; (focus (first | omega | (simp <;> omega))); intro hcb_1 hfb_1 hlb_1); try (refine keepc hbb (w.heap.size + 1 + 1) ?_ ?_; (focus (first | omega | (simp <;> omega))); intro hcb_2 hfb_2 hlb_2)
    go_wp2_with fail
    refine (HK.out _ _ ho.ints).mono ?_
    rintro e wc ⟨rfl, rfl⟩
    go_wp2
    refine bodyPost_ret (v := .tuple #[.agg #[.int .i64 0, .int .i64 0, .int .i64 0], .bool false]) (by simp [results, Try.results21, go_sem, hca_1, hla_1, hcb_1, hlb_1]) rfl (gives rfl (by repeat' (first | (with_reducible exact Below.refl _ _) | (with_reducible assumption) | (with_reducible refine Below.alloc ?_ ?_ _) | (with_reducible refine Below.setCell ?_ ?_ _) | (with_reducible refine Below.drew ?_) | (with_reducible refine below_drewN ?_ _) | (apply bthen2; (with_reducible assumption)) | go_size)))
  · rw [g2] at HK
    simp only [if_true]
    have hd := (HEL.out d (List.contains_iff_mem.1 g2)).1
    have HQ := Lib.hid (HQ.out hd)
    generalize ddL a b s = L at *
    generalize (sB a b s).tdiv d = C at *
    generalize sA a b s = A at *
    clear HEL g hd
    go_enter Try.func21, Try.ntmps21
    go_wp2_with fail
    refine (HG.out _).mono ?_
    rintro e wa ⟨rfl, hba⟩; have hza := hba.size; (try simp only [World.size_alloc, World.size_setCell, World.size_drew, World.heap_drewN] at hza); try (refine keepc hba (w.heap.size) ?_ ?_; (focus (first | omega | (simp <;> omega))); intro hca_0 hfa_0 hla_0); try (refine keepc hba (w.heap.size + 1) ?_ ?_; (focus (first | omega | (simp <;> omega))); intro hca_1 hfa_1 hla_1); try (refine keepc hba (w.heap.size + 1 + 1) ?_ ?_; (focus (first | omega | (simp <;> omega))); intro hca_2 hfa_2 hla_2)
    go_wp2_with fail
    refine (HD.out _).mono ?_
    rintro e wb ⟨a3, l3, c3, rfl, ho, hbb⟩
    have hzb := hbb.size; (try simp only [World.size_alloc, World.size_setCell, World.size_drew, World.heap_drewN] at hzb); try (refine keepc hbb (w.heap.size) ?_ ?_; (focus (first | omega | (simp <;> omega))); intro hcb_0 hfb_0 hlb_0); try (refine keepc hbb (w.heap.size + 1) ?_ ?_; (focus (first | omega | (simp <;> omega))); intro hcb_1 hfb_1 hlb_1); try (refine keepc hbb (w.heap.size + 1 + 1) ?_ ?_; (focus (first | omega | (simp <;> omega))); intro hcb_2 hfb_2 hlb_2)
    go_wp2_with fail
    refine (HK.out _ _ ho.ints).mono ?_
    rintro e wc ⟨rfl, rfl⟩
    go_wp2_with fail
    refine (HQ.out _).mono ?_
    rintro e wd ⟨rfl, hbd⟩; have hzd := hbd.size; (try simp only [World.size_alloc, World.size_setCell, World.size_drew, World.heap_drewN] at hzd); try (refine keepc hbd (w.heap.size) ?_ ?_; (focus (first | omega | (simp <;> omega))); intro hcd_0 hfd_0 hld_0); try (refine keepc hbd (w.heap.size + 1) ?_ ?_; (focus (first | omega | (simp <;> omega))); intro hcd_1 hfd_1 hld_1); try (refine keepc hbd (w.heap.size + 1 + 1) ?_ ?_; (focus (first | omega | (simp <;> omega))); intro hcd_2 hfd_2 hld_2)
    go_wp2
    refine bodyPost_ret (v := .tuple #[.agg #[.int .i64 d, .int .i64 A, .int .i64 C], .bool true]) (by simp [results, Try.results21, go_sem, hca_1, hla_1, hcb_1, hlb_1, hcd_1, hld_1]) rfl (gives rfl (by repeat' (first | (with_reducible exact Below.refl _ _) | (with_reducible assumption) | (with_reducible refine Below.alloc ?_ ?_ _) | (with_reducible refine Below.setCell ?_ ?_ _) | (with_reducible refine Below.drew ?_) | (with_reducible refine below_drewN ?_ _) | (apply bthen2; (with_reducible assumption)) | go_size)))
set_option maxHeartbeats 1000000 in
theorem dsAsked_any (a b : Int) (s : Bool) (d : Int) (w : World) : Calls Try.prog 42 #[.agg #[.int .i64 a, .int .i64 b], .bool s, .int .i64 d] w (Gives (.bool (dqOk a b s d)) w) := by
  have HG := Lib.hid (fun w => tcGood_any a b w)
  unfold dqOk
  cases g : isT a b
  · rw [g] at HG
    go_enter Try.func42, Try.ntmps42
    go_wp2_with fail
    refine (HG.out _).mono ?_
    rintro e wa ⟨rfl, hba⟩; have hza := hba.size; (try simp only [World.size_alloc, World.size_setCell, World.size_drew, World.heap_drewN] at hza); try (refine keepc hba (w.heap.size) ?_ ?_; (focus (first | omega | (simp <;> omega))); intro hca_0 hfa_0 hla_0); try (refine keepc hba (w.heap.size + 1) ?_ ?_; (focus (first | omega | (simp <;> omega))); intro hca_1 hfa_1 hla_1); try (refine keepc hba (w.heap.size + 1 + 1) ?_ ?_; (focus (first | omega | (simp <;> omega))); intro hca_2 hfa_2 hla_2)
    go_wp2
    go_ret
    exact gives rfl (by repeat' (first | (with_reducible exact Below.refl _ _) | (with_reducible assumption) | (with_reducible refine Below.alloc ?_ ?_ _) | (with_reducible refine Below.setCell ?_ ?_ _) | (with_reducible refine Below.drew ?_) | (with_reducible refine below_drewN ?_ _) | (apply bthen2; (with_reducible assumption)) | go_size))
  · rw [g] at HG
    have HD := Lib.hid (fun w => dsDivisors_any a b s g w)
    have HK := Lib.hid (fun v w h => l1Has_any v (ddL a b s) d w h)
    simp only [Bool.true_and]
    generalize ddL a b s = L at *
    generalize L.contains d = K at *
    clear g
    go_enter Try.func42, Try.ntmps42
    go_wp2_with fail
    refine (HG.out _).mono ?_
    rintro e wa ⟨rfl, hba⟩; have hza := hba.size; (try simp only [World.size_alloc, World.size_setCell, World.size_drew, World.heap_drewN] at hza); try (refine keepc hba (w.heap.size) ?_ ?_; (focus (first | omega | (simp <;> omega))); intro hca_0 hfa_0 hla_0); try (refine keepc hba (w.heap.size + 1) ?_ ?_; (focus (first | omega | (simp <;> omega))); intro hca_1 hfa_1 hla_1); try (refine keepc hba (w.heap.size + 1 + 1) ?_ ?_; (focus (first | omega | (simp <;> omega))); intro hca_2 hfa_2 hla_2)
    go_wp2_with fail
    refine (HD.out _).mono ?_
    rintro e wb ⟨a3, l3, c3, rfl, ho, hbb⟩
    have hzb := hbb.size; (try simp only [World.size_alloc, World.size_setCell, World.size_drew, World.heap_drewN] at hzb); try (refine keepc hbb (w.heap.size) ?_ ?_; (focus (first | omega | (simp <;> omega))); intro hcb_0 hfb_0 hlb_0); try (refine keepc hbb (w.heap.size + 1) ?_ ?_; (focus (first | omega | (simp <;> omega))); intro hcb_1 hfb_1 hlb_1); try (refine keepc hbb (w.heap.size + 1 + 1) ?_ ?_; (focus (first | omega | (simp <;> omega))); intro hcb_2 hfb_2 hlb_2)
    go_wp2_with fail
    refine (HK.out _ _ ho.ints).mono ?_
    rintro e wc ⟨rfl, rfl⟩
    go_wp2
    go_ret
    exact gives rfl (by repeat' (first | (with_reducible exact Below.refl _ _) | (with_reducible assumption) | (with_reducible refine Below.alloc ?_ ?_ _) | (with_reducible refine Below.setCell ?_ ?_ _) | (with_reducible refine Below.drew ?_) | (with_reducible refine below_drewN ?_ _) | (apply bthen2; (with_reducible assumption)) | go_size))
set_option maxHeartbeats 1000000 in
theorem sDescentQuartic_any (a b : Int) (s : Bool) (d : Int) (w : World) : Calls Try.prog 20 #[.agg #[.int .i64 a, .int .i64 b], .bool s, .int .i64 d] w (Gives (dqV a b s d) w) := by
  have HG := Lib.hid (fun w => dsAsked_any a b s d w)
  unfold dqV
  cases g : dqOk a b s d
  · rw [g] at HG
    simp only [Bool.false_eq_true, if_false]
    go_enter Try.func20, Try.ntmps20
    go_wp2_with fail
    refine (HG.out _).mono ?_
    rintro e wa ⟨rfl, hba⟩; have hza := hba.size; (try simp only [World.size_alloc, World.size_setCell, World.size_drew, World.heap_drewN] at hza); try (refine keepc hba (w.heap.size) ?_ ?_; (focus (first | omega | (simp <;> omega))); intro hca_0 hfa_0 hla_0); try (refine keepc hba (w.heap.size + 1) ?_ ?_; (focus (first | omega | (simp <;> omega))); intro hca_1 hfa_1 hla_1); try (refine keepc hba (w.heap.size + 1 + 1) ?_ ?_; (focus (first | omega | (simp <;> omega))); intro hca_2 hfa_2 hla_2)
    go_wp2
    refine bodyPost_ret (v := .tuple #[.agg #[.int .i64 0, .int .i64 0, .int .i64 0], .bool false]) (by simp [results, Try.results20, go_sem, hca_1, hla_1]) rfl (gives rfl (by repeat' (first | (with_reducible exact Below.refl _ _) | (with_reducible assumption) | (with_reducible refine Below.alloc ?_ ?_ _) | (with_reducible refine Below.setCell ?_ ?_ _) | (with_reducible refine Below.drew ?_) | (with_reducible refine below_drewN ?_ _) | (apply bthen2; (with_reducible assumption)) | go_size)))
  · rw [g] at HG
    have g0 := g
    unfold dqOk at g
    simp only [Bool.and_eq_true] at g
    have hd := (ddL_el (d := s) g.1 d (List.contains_iff_mem.1 g.2)).1
    have HQ := Lib.hid (fun w => dsQuartic_any a b s d g.1 hd w)
    simp only [if_true]
    generalize (sB a b s).tdiv d = C at *
    generalize sA a b s = A at *
    clear g hd g0
    go_enter Try.func20, Try.ntmps20
    go_wp2_with fail
    refine (HG.out _).mono ?_
    rintro e wa ⟨rfl, hba⟩; have hza := hba.size; (try simp only [World.size_alloc, World.size_setCell, World.size_drew, World.heap_drewN] at hza); try (refine keepc hba (w.heap.size) ?_ ?_; (focus (first | omega | (simp <;> omega))); intro hca_0 hfa_0 hla_0); try (refine keepc hba (w.heap.size + 1) ?_ ?_; (focus (first | omega | (simp <;> omega))); intro hca_1 hfa_1 hla_1); try (refine keepc hba (w.heap.size + 1 + 1) ?_ ?_; (focus (first | omega | (simp <;> omega))); intro hca_2 hfa_2 hla_2)
    go_wp2_with fail
    refine (HQ.out _).mono ?_
    rintro e wd ⟨rfl, hbd⟩; have hzd := hbd.size; (try simp only [World.size_alloc, World.size_setCell, World.size_drew, World.heap_drewN] at hzd); try (refine keepc hbd (w.heap.size) ?_ ?_; (focus (first | omega | (simp <;> omega))); intro hcd_0 hfd_0 hld_0); try (refine keepc hbd (w.heap.size + 1) ?_ ?_; (focus (first | omega | (simp <;> omega))); intro hcd_1 hfd_1 hld_1); try (refine keepc hbd (w.heap.size + 1 + 1) ?_ ?_; (focus (first | omega | (simp <;> omega))); intro hcd_2 hfd_2 hld_2)
    go_wp2
    refine bodyPost_ret (v := .tuple #[.agg #[.int .i64 d, .int .i64 A, .int .i64 C], .bool true]) (by simp [results, Try.results20, go_sem, hca_1, hla_1, hcd_1, hld_1]) rfl (gives rfl (by repeat' (first | (with_reducible exact Below.refl _ _) | (with_reducible assumption) | (with_reducible refine Below.alloc ?_ ?_ _) | (with_reducible refine Below.setCell ?_ ?_ _) | (with_reducible refine Below.drew ?_) | (with_reducible refine below_drewN ?_ _) | (apply bthen2; (with_reducible assumption)) | go_size)))

theorem eqQuartic_same (d a c : Int) (w : World) : Calls Try.prog 22 #[.agg #[.int .i64 d, .int .i64 a, .int .i64 c], .agg #[.int .i64 d, .int .i64 a, .int .i64 c]] w (Gives (.bool true) w) := by
  go_enter Try.func22, Try.ntmps22
  go_wp2
  all_goals (go_ret; exact gives rfl (by repeat' (first | (with_reducible exact Below.refl _ _) | (with_reducible assumption) | (with_reducible refine Below.alloc ?_ ?_ _) | (with_reducible refine Below.setCell ?_ ?_ _) | (with_reducible refine Below.drew ?_) | (with_reducible refine below_drewN ?_ _) | (apply bthen2; (with_reducible assumption)) | go_size)))
set_option maxHeartbeats 2000000 in
theorem walk_FnExactDescentQuartic (a b : Int) (s : Bool) (d : Int) (w : World) (_w0 : (Lit.int .i64 a).wf = true) (_w1 : (Lit.int .i64 b).wf = true) (_w2 : (Lit.int .i64 d).wf = true) : Calls Try.prog 5 #[.agg #[.int .i64 a, .int .i64 b], .bool s, .int .i64 d] w (Gives (.bool true) w) := by
  obtain ⟨p, q, r, ok, hv⟩ : ∃ p q r ok, dqV a b s d = .tuple #[.agg #[.int .i64 p, .int .i64 q, .int .i64 r], .bool ok] := by unfold dqV; split <;> exact ⟨_, _, _, _, rfl⟩
  have h1 := fun w => DescentQuartic_any a b s d w
  have h2 := fun w => sDescentQuartic_any a b s d w
  rw [hv] at h1 h2
  have H1 := Lib.hid h1; have H2 := Lib.hid h2
  clear hv h1 h2
  go_enter Try.func5, Try.ntmps5
  go_wp2_with fail
  refine (toTwoCurve_any _ _ _).mono ?_
  rintro e wa ⟨rfl, hba⟩; have hza := hba.size; (try simp only [World.size_alloc, World.size_setCell, World.size_drew, World.heap_drewN] at hza); try (refine keepc hba (w.heap.size) ?_ ?_; (focus (first | omega | (simp <;> omega))); intro hca_0 hfa_0 hla_0); try (refine keepc hba (w.heap.size + 1) ?_ ?_; (focus (first | omega | (simp <;> omega))); intro hca_1 hfa_1 hla_1); try (refine keepc hba (w.heap.size + 1 + 1) ?_ ?_; (focus (first | omega | (simp <;> omega))); intro hca_2 hfa_2 hla_2)
  go_wp2_with fail
  refine (H2.out _).mono ?_
  rintro e wb ⟨rfl, hbb⟩; have hzb := hbb.size; (try simp only [World.size_alloc, World.size_setCell, World.size_drew, World.heap_drewN] at hzb); try (refine keepc hbb (w.heap.size) ?_ ?_; (focus (first | omega | (simp <;> omega))); intro hcb_0 hfb_0 hlb_0); try (refine keepc hbb (w.heap.size + 1) ?_ ?_; (focus (first | omega | (simp <;> omega))); intro hcb_1 hfb_1 hlb_1); try (refine keepc hbb (w.heap.size + 1 + 1) ?_ ?_; (focus (first | omega | (simp <;> omega))); intro hcb_2 hfb_2 hlb_2)
  go_wp2_with fail
  refine (toTwoCurve_any _ _ _).mono ?_
  rintro e wc ⟨rfl, hbc⟩
  have hzc := hbc.size; (try simp only [World.size_alloc, World.size_setCell, World.size_drew, World.heap_drewN] at hzc); try (refine keepc hbc (w.heap.size) ?_ ?_; (focus (first | omega | (simp <;> omega))); intro hcc_0 hfc_0 hlc_0); try (refine keepc hbc (w.heap.size + 1) ?_ ?_; (focus (first | omega | (simp <;> omega))); intro hcc_1 hfc_1 hlc_1); try (refine keepc hbc (w.heap.size + 1 + 1) ?_ ?_; (focus (first | omega | (simp <;> omega))); intro hcc_2 hfc_2 hlc_2)
  refine keepc hbc wb.heap.size ?_ ?_
  · first | (simp; done) | (simp; omega)
  intro hcx hfx hlx
  go_wp2_with fail
  refine (H1.out _).mono ?_
  rintro e wd ⟨rfl, hbd⟩
  have hzd := hbd.size; (try simp only [World.size_alloc, World.size_setCell, World.size_drew, World.heap_drewN] at hzd); try (refine keepc hbd (w.heap.size) ?_ ?_; (focus (first | omega | (simp <;> omega))); intro hcd_0 hfd_0 hld_0); try (refine keepc hbd (w.heap.size + 1) ?_ ?_; (focus (first | omega | (simp <;> omega))); intro hcd_1 hfd_1 hld_1); try (refine keepc hbd (w.heap.size + 1 + 1) ?_ ?_; (focus (first | omega | (simp <;> omega))); intro hcd_2 hfd_2 hld_2)
  refine keepc hbd wb.heap.size ?_ ?_
  · first | exact hlx | (simp; omega)
  intro hcy hfy hly
  go_wp2_with fail
  refine (eqQuartic_same _ _ _ _).mono ?_
  rintro e we ⟨rfl, hbe⟩
  go_wp2
  go_ret
  exact gives rfl (by repeat' (first | (with_reducible exact Below.refl _ _) | (with_reducible assumption) | (with_reducible refine Below.alloc ?_ ?_ _) | (with_reducible refine Below.setCell ?_ ?_ _) | (with_reducible refine Below.drew ?_) | (with_reducible refine below_drewN ?_ _) | (apply bthen2; (with_reducible assumption)) | go_size))

end Go.Proofs.Ytldmledjdcphmaa
