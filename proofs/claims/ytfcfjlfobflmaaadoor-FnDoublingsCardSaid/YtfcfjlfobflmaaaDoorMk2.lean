import Derived.Test.YtfcfjlfobflmaaaDoorMk
set_option linter.unusedSimpArgs false
set_option linter.unusedVariables false
namespace Go.Proofs.YtfcfjlfobflmaaaDoor
open Go.RowKit
/-! ### the whole of a number -/
theorem tz_can {xs : List Int} (h : Can xs) : tz xs xs.length = xs.length := by
  cases hn : xs.length with
  | zero => rfl
  | succ k =>
    refine tz_stop ?_
    intro h0
    have h1 := h.2
    rw [List.getLast?_eq_getElem?] at h1
    rw [hn] at h1
    have hk : k < xs.length := by omega
    simp only [List.getD, Nat.add_sub_cancel, List.getElem?_eq_getElem hk, Option.getD_some] at h0 h1
    rw [h0] at h1
    exact h1 rfl
theorem trim_can {xs : List Int} (h : Can xs) : trim xs = xs := by
  unfold trim
  rw [tz_can h, List.take_length]
theorem dg_len (M : Nat) (h : M ≤ 9223372036854775807) : (dg M).length ≤ 5 := dg_len_le (by omega)
theorem sgn_dg (N : Int) : (decide (N < 0) && decide (0 < tz (dg N.natAbs) (dg N.natAbs).length)) = decide (N < 0) := by
  rw [tz_can (can_dg _)]
  by_cases h : N < 0
  · have h0 : N.natAbs ≠ 0 := by omega
    have : 0 < (dg N.natAbs).length := by rw [dg_pos h0]; simp
    simp [h, this]
  · simp [h]
theorem dg_app {acc l : List Int} {m : Nat} (h : m ≠ 0) (he : acc ++ dg m = l) : (acc ++ [(m : Int) % 10000]) ++ dg (m / 10000) = l := by
  rw [← he, dg_pos h, List.append_assoc]
  rfl

theorem bgOf_any (N : Int) (g1 : -9223372036854775807 ≤ N) (g2 : N ≤ 9223372036854775807) (w : World) : Calls Tryd.prog 35 #[.int .i64 N] w (GivesW (decide (N < 0)) (dg N.natAbs) w) := by
  have hs := sgn_dg N
  have ht := trim_can (can_dg N.natAbs)
  have hl := dg_len N.natAbs (by omega)
  have HT := Lib.hid (fun a len cap w hx => bgMake_any (decide (N < 0)) a len cap (dg N.natAbs) w hx (by omega))
  rw [hs, ht] at HT
  have HA := Lib.hid (show ∀ w, Calls Tryd.prog 48 #[.int .i64 N] w (Same (.int .i64 (max N (-N))) w) from fun w => by have := l1Abs_any N w; rwa [win (n := -N) (by omega)] at this)
  have HM := Lib.hid (show max N (-N) = (N.natAbs : Int) by omega)
  have hM : N.natAbs ≤ 9223372036854775807 := by omega
  generalize hD : dg N.natAbs = D at *
  have hD0 := Lib.hid (show [] ++ dg N.natAbs = D by rw [hD]; rfl)
  clear hs ht hD
  generalize N.natAbs = M at *
  go_enter Tryd.func35, Tryd.ntmps35
  go_wp2_with (first | (go_at_call 48; refine (HA.out _).mono ?_; rintro e w1 ⟨rfl, rfl⟩))
  refine name_world (fun W1 hW1 => ?_)
  have hB1 : Below w.heap.size w W1 := by subst hW1; exact (by repeat' (first | (with_reducible exact Below.refl _ _) | (with_reducible assumption) | (with_reducible refine Below.alloc ?_ ?_ _) | (with_reducible refine Below.setCell ?_ ?_ _) | (with_reducible refine Below.drew ?_) | (with_reducible refine below_drewN ?_ _) | (apply bthen2; (with_reducible assumption)) | go_size))
  have hS1 : W1.heap.size = w.heap.size + 1 := by subst hW1; simp
  have hc1 : W1.cell? ⟨w.heap.size, 0, none⟩ = some (.bool false) := by subst hW1; simp
  have hc2 : W1.cell? ⟨w.heap.size, 1, none⟩ = some (.slice none 0 0) := by subst hW1; simp
  have hf1 : ∀ o, W1.frozen? ⟨w.heap.size, o, none⟩ = false := by subst hW1; intro o; simp
  clear hW1
  go_loopw [3, 4] (fun v4 v0 wr => ∃ (m : Nat) (acc : List Int), m ≤ M ∧ v0 = .int .i64 m ∧ acc ++ dg m = D ∧ Own wr W1.heap.size v4 acc ∧ Below W1.heap.size W1 wr) (fun _ v0 _ => (intOf v0).toNat)
  case atStart => exact ⟨M, [], Nat.le_refl _, by rw [HM.out], hD0.out, Own.nil _ _, Below.refl _ _⟩
  case round =>
    obtain ⟨m, acc, hm, rfl, hacc, hown, hbw⟩ := hrel
    obtain ⟨sa, sc, rfl⟩ := hown.slice
    have hal : acc.length ≤ 5 := by have := congrArg List.length hacc; rw [List.length_append] at this; omega
    by_cases h0 : m = 0
    · subst h0
      have e : acc = D := by rw [← hacc, dg_zero, List.append_nil]
      subst e
      go_wp2_with fail
      refine (HT.out _ _ _ _ hown.ints).mono ?_
      rintro e w2 ⟨a2, len2, cap2, rfl, ho, hb2⟩
      have hz1 := hbw.size
      have hz2 := hb2.size
      have d1 := (hb2.cell (p := ⟨w.heap.size, 0, none⟩) (by show w.heap.size < wr.heap.size; omega)).trans ((hbw.cell (p := ⟨w.heap.size, 0, none⟩) (by show w.heap.size < W1.heap.size; omega)).trans hc1)
      have d2 := (hb2.cell (p := ⟨w.heap.size, 1, none⟩) (by show w.heap.size < wr.heap.size; omega)).trans ((hbw.cell (p := ⟨w.heap.size, 1, none⟩) (by show w.heap.size < W1.heap.size; omega)).trans hc2)
      have d3 := fun o => (hb2.frozen (p := ⟨w.heap.size, o, none⟩) (by show w.heap.size < wr.heap.size; omega)).trans ((hbw.frozen (p := ⟨w.heap.size, o, none⟩) (by show w.heap.size < W1.heap.size; omega)).trans (hf1 o))
      have hlt : w.heap.size < w2.heap.size := by omega
      go_wp2_with fail
      refine bodyPost_ret (v := .agg #[.bool (decide (N < 0)), .slice a2 len2 cap2]) (by simp [results, Tryd.results35, go_sem, d1, d2, hlt]) rfl ⟨_, _, _, rfl, ((ho.set (p := ⟨w.heap.size, 0, none⟩) (by show w.heap.size < wr.heap.size; omega) _).set (p := ⟨w.heap.size, 1, none⟩) (by show w.heap.size < wr.heap.size; omega) _).mono (by omega), (by repeat' (first | (with_reducible exact Below.refl _ _) | (with_reducible assumption) | (with_reducible refine Below.alloc ?_ ?_ _) | (with_reducible refine Below.setCell ?_ ?_ _) | (with_reducible refine Below.drew ?_) | (with_reducible refine below_drewN ?_ _) | (apply bthen2; (with_reducible assumption)) | go_size))⟩
    · have hn := Lib.hid (dg_app h0 hacc)
      have hpos : 0 < (m : Int) := by omega
      clear hacc
      go_wp2_with (first | (at_builtin; refine wpl_app (W := W1) rfl _ _ rfl W1.heap.size _ acc rfl (hown.alloc _) ⟨wr.heap.size, 0, none⟩ 1 ((m : Int) % 10000) rfl (by simp) (by omega) (Below.alloc hbw hbw.size _) (by have := hbw.size; simp; omega) ?_; intro a1 cc1 w1 hown1 hbw1 hsz1))
      go_roundw
      case rel => exact ⟨m / 10000, _, by omega, by go_num, hn.out, hown1, hbw1⟩
      case measure => simp [intOf]; omega

end Go.Proofs.YtfcfjlfobflmaaaDoor
