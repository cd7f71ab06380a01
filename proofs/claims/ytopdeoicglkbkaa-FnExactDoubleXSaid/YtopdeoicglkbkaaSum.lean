import Derived.Test.YtopdeoicglkbkaaMul2
set_option linter.unusedSimpArgs false
set_option linter.unusedVariables false
namespace Go.Proofs.Ytopdeoicglkbkaa
open Go.RowKit
/-! ### sums and products of lists of wholes -/

theorem bcl {W w1 : World} {N b o : Nat} {v : Option Value} (hb : Below N W w1) (h : b < N) (hc : W.cell? ⟨b, o, none⟩ = v) : w1.cell? ⟨b, o, none⟩ = v := (hb.cell (p := ⟨b, o, none⟩) h).trans hc
theorem bfl {W w1 : World} {N b o : Nat} {v : Bool} (hb : Below N W w1) (h : b < N) (hc : W.frozen? ⟨b, o, none⟩ = v) : w1.frozen? ⟨b, o, none⟩ = v := (hb.frozen (p := ⟨b, o, none⟩) h).trans hc

def WsAt (w : World) (b : Nat) (zs : List Int) : Prop := b < w.heap.size ∧ ∀ i, i < zs.length → ∃ a l c, w.cell? ⟨b, i * 2, none⟩ = some (.bool (decide (zs.getD i 0 < 0))) ∧ w.cell? ⟨b, i * 2 + 1, none⟩ = some (.slice a l c) ∧ Ints w (.slice a l c) (dg (zs.getD i 0).natAbs)
def sumL (zs : List Int) : Int := zs.foldl (· + ·) 0
def prodL (zs : List Int) : Int := zs.foldl (· * ·) 1
theorem sumL_zero (zs : List Int) : sumL (zs.take 0) = 0 := by simp [sumL]
theorem prodL_zero (zs : List Int) : prodL (zs.take 0) = 1 := by simp [prodL]
theorem sumL_step (zs : List Int) (k : Nat) : sumL (zs.take k) + zs.getD k 0 = sumL (zs.take (k + 1)) := by
  unfold sumL
  by_cases h : k < zs.length
  · rw [List.take_succ_eq_append_getElem h, List.foldl_append]; simp [List.getD, h]
  · rw [List.take_of_length_le (show zs.length ≤ k by omega), List.take_of_length_le (show zs.length ≤ k + 1 by omega)]
    simp [List.getD, List.getElem?_eq_none (show zs.length ≤ k by omega)]
theorem prodL_step (zs : List Int) (k : Nat) (h : k < zs.length) : prodL (zs.take k) * zs.getD k 0 = prodL (zs.take (k + 1)) := by
  unfold prodL
  rw [List.take_succ_eq_append_getElem h, List.foldl_append]; simp [List.getD, h]

set_option maxHeartbeats 1000000 in
theorem sumWholes_any (b n cap : Nat) (zs : List Int) (w : World) (hn : zs.length = n) (hn2 : n ≤ 1000) (hcap : n ≤ cap) (hw : WsAt w b zs) (hL : ∀ k, k ≤ n → (dg (sumL (zs.take k)).natAbs).length ≤ 400000) (hE : ∀ k, k < n → (dg (zs.getD k 0).natAbs).length ≤ 400000) :
    Calls Try.prog 102 #[.slice (some ⟨b, 0, none⟩) n cap] w (GivesZ (sumL zs) w) := by
  have HW := Lib.hid hw
  have hbl := hw.1
  have HL := Lib.hid hL; have HE := Lib.hid hE
  have HF := Lib.hid (fun k => sumL_step zs k)
  have HA := Lib.hid (show sumL (zs.take n) = sumL zs by rw [List.take_of_length_le (by omega)])
  have HN := Lib.hid hn
  have h0 := sumL_zero zs
  have H0 := Lib.hid h0
  clear hw hL hE hn h0
  go_enter Try.func102, Try.ntmps102
  go_wp2_with fail
  refine name_world (fun W1 hW1 => ?_)
  obtain ⟨B, hB⟩ : ∃ B, w.heap.size + 1 = B := ⟨_, rfl⟩
  have i0 : W1.cell? ⟨B, 0, none⟩ = some (.bool (decide ((0 : Int) < 0))) := by subst hW1; subst hB; simp
  have i1 : W1.cell? ⟨B, 1, none⟩ = some (.slice none 0 0) := by subst hW1; subst hB; simp
  have i2 : ∀ o, W1.frozen? ⟨B, o, none⟩ = false := by subst hW1; subst hB; intro o; simp
  have i3 : Own W1 (w.heap.size + 1) (.slice none 0 0) (dg (0 : Int).natAbs) := Own.nil _ _
  have i4 : W1.cell? ⟨w.heap.size, 0, none⟩ = some (.bool false) := by subst hW1; simp
  have i5 : W1.cell? ⟨w.heap.size, 1, none⟩ = some (.slice none 0 0) := by subst hW1; simp
  have i6 : ∀ o, W1.frozen? ⟨w.heap.size, o, none⟩ = false := by subst hW1; intro o; simp
  rw [hB]
  have hlb : B < W1.heap.size := by subst hW1; subst hB; simp
  have hB1 : Below w.heap.size w W1 := by subst hW1; exact (by repeat' (first | (with_reducible exact Below.refl _ _) | (with_reducible assumption) | (with_reducible refine Below.alloc ?_ ?_ _) | (with_reducible refine Below.setCell ?_ ?_ _) | (with_reducible refine Below.drew ?_) | (with_reducible refine below_drewN ?_ _) | (apply bthen2; (with_reducible assumption)) | go_size))
  have hwB : w.heap.size < B := by subst hB; first | omega | (simp; done)
  clear hW1 hB
  go_loopw [9] (fun v9 wr => ∃ (k : Nat) (z : Int) (sa : Option Addr) (sl sc : Nat), k ≤ n ∧ v9 = .int .i64 k ∧ z = sumL (zs.take k) ∧ wr.cell? ⟨B, 0, none⟩ = some (.bool (decide (z < 0))) ∧ wr.cell? ⟨B, 1, none⟩ = some (.slice sa sl sc) ∧ (∀ o, wr.frozen? ⟨B, o, none⟩ = false) ∧ B < wr.heap.size ∧ Own wr (w.heap.size + 1) (.slice sa sl sc) (dg z.natAbs) ∧ wr.cell? ⟨w.heap.size, 0, none⟩ = some (.bool false) ∧ wr.cell? ⟨w.heap.size, 1, none⟩ = some (.slice none 0 0) ∧ (∀ o, wr.frozen? ⟨w.heap.size, o, none⟩ = false) ∧ Below w.heap.size w wr) (fun v9 _ => n - (intOf v9).toNat)
  case atStart => exact ⟨0, 0, _, _, _, by omega, rfl, by rw [H0.out], i0, i1, i2, hlb, i3, i4, i5, i6, hB1⟩
  case round =>
    clear i0 i1 i2 i3 i4 i5 i6 hlb
    obtain ⟨k, z, sa, sl, sc, hk, rfl, hz, j0, j1, j2, j3, j4, j5, j6, j7, hbw⟩ := hrel
    have hlz : (dg z.natAbs).length ≤ 400000 := by rw [hz]; exact HL.out k hk
    have hsz := hbw.size
    by_cases hlt : k < n
    · obtain ⟨xa, xl, xc, c0, c1, c2⟩ := HW.out.2 k (by have := HN.out; omega)
      have c0 := (hbw.cell (p := ⟨b, k * 2, none⟩) hbl).trans c0
      have c1 := (hbw.cell (p := ⟨b, k * 2 + 1, none⟩) hbl).trans c1
      have c2 := c2.below hbw
      have hly := HE.out k hlt
      have hst := HF.out k
      rw [← hz] at hst
      have HST := Lib.hid hst
      have HM := Lib.hid (fun W h1 h2 => addWholes_any z (zs.getD k 0) sa xa sl sc xl xc W h1 h2 (by omega) (by omega))
      have HJ := Lib.hid j4; have HC2 := Lib.hid c2
      generalize hx : zs.getD k 0 = x at *
      obtain ⟨s1, hs1⟩ : ∃ s, decide (z < 0) = s := ⟨_, rfl⟩
      obtain ⟨s2, hs2⟩ : ∃ s, decide (x < 0) = s := ⟨_, rfl⟩
      rw [hs1] at j0 HM; rw [hs2] at c0 HM
      clear hst hz j4 c2 hx hs1 hs2 hlz hly
      go_wp2_with fail
      refine (HM.out _ ?_ ?_).mono ?_
      · refine Ints.below HJ.out.ints ?_; repeat' (first | (with_reducible exact Below.refl _ _) | (with_reducible assumption) | (with_reducible refine Below.alloc ?_ ?_ _) | (with_reducible refine Below.setCell ?_ ?_ _) | (with_reducible refine Below.drew ?_) | (with_reducible refine below_drewN ?_ _) | (apply bthen2; (with_reducible assumption)) | go_size)
      · refine Ints.below HC2.out ?_; repeat' (first | (with_reducible exact Below.refl _ _) | (with_reducible assumption) | (with_reducible refine Below.alloc ?_ ?_ _) | (with_reducible refine Below.setCell ?_ ?_ _) | (with_reducible refine Below.drew ?_) | (with_reducible refine below_drewN ?_ _) | (apply bthen2; (with_reducible assumption)) | go_size)
      rintro e wc ⟨a3, l3, c3, rfl, ho3, hbc⟩
      have hzc := hbc.size
      have hlw : w.heap.size < wr.heap.size := by omega
      simp only [World.size_alloc] at hzc
      have d0 : wc.cell? ⟨B, 0, none⟩ = some (Value.bool s1) := bcl hbc (by simp; omega) (by simp [j0, j3, go_sem])
      have d1 : wc.cell? ⟨B, 1, none⟩ = some (Value.slice sa sl sc) := bcl hbc (by simp; omega) (by simp [j1, j3, go_sem])
      have d2 : ∀ o, wc.frozen? ⟨B, o, none⟩ = false := fun o => bfl hbc (by simp; omega) (by simp [j2, j3, go_sem])
      have d3 : wc.cell? ⟨w.heap.size, 0, none⟩ = some (Value.bool false) := bcl hbc (by simp; omega) (by simp [j5, hlw, go_sem])
      have d4 : wc.cell? ⟨w.heap.size, 1, none⟩ = some (Value.slice none 0 0) := bcl hbc (by simp; omega) (by simp [j6, hlw, go_sem])
      have d5 : ∀ o, wc.frozen? ⟨w.heap.size, o, none⟩ = false := fun o => bfl hbc (by simp; omega) (by simp [j7, hlw, go_sem])
      have hlc : B < wc.heap.size := by omega
      have hne : w.heap.size ≠ B := by omega
      clear HM HJ HC2 j0 j1 j2 j5 j6 j7 c0 c1
      go_wp2_with fail
      go_roundw
      case rel => exact ⟨k + 1, z + x, a3, l3, c3, by omega, by go_num, HST.out, by simp [d0, d1, hlc, go_sem], by simp [d0, d1, hlc, go_sem], by intro o; simp [d2, go_sem], by simp; omega, ((ho3.set (p := ⟨B, 0, none⟩) (by simp; omega) _).set (p := ⟨B, 1, none⟩) (by simp; omega) _).mono (by simp; omega), by simp [d3, hne, go_sem], by simp [d4, hne, go_sem], by intro o; simp [d5, go_sem], (by repeat' (first | (with_reducible exact Below.refl _ _) | (with_reducible assumption) | (with_reducible refine Below.alloc ?_ ?_ _) | (with_reducible refine Below.setCell ?_ ?_ _) | (with_reducible refine Below.drew ?_) | (with_reducible refine below_drewN ?_ _) | (apply bthen2; (with_reducible assumption)) | go_size))⟩
      case measure => simp [intOf]; omega
    · have e : k = n := by omega
      subst e
      rw [HA.out] at hz
      have HZ := Lib.hid hz
      have hne : w.heap.size ≠ B := by omega
      have hlw : w.heap.size < wr.heap.size := by omega
      clear hz
      go_wp2_with fail
      refine bodyPost_ret (v := .agg #[.bool (decide (z < 0)), .slice sa sl sc]) (by simp [results, Try.results102, go_sem, j5, j6, hlw]) rfl ?_
      rw [← HZ.out]
      exact ⟨_, _, _, rfl, ((j4.set (p := ⟨w.heap.size, 0, none⟩) (by simp) _).set (p := ⟨w.heap.size, 1, none⟩) (by simp) _).mono (by omega), (by repeat' (first | (with_reducible exact Below.refl _ _) | (with_reducible assumption) | (with_reducible refine Below.alloc ?_ ?_ _) | (with_reducible refine Below.setCell ?_ ?_ _) | (with_reducible refine Below.drew ?_) | (with_reducible refine below_drewN ?_ _) | (apply bthen2; (with_reducible assumption)) | go_size))⟩

set_option maxHeartbeats 1000000 in
theorem productWholes_any (b n cap : Nat) (zs : List Int) (w : World) (hn : zs.length = n) (hn2 : n ≤ 1000) (hcap : n ≤ cap) (hw : WsAt w b zs) (hL : ∀ k, k ≤ n → (dg (prodL (zs.take k)).natAbs).length ≤ 400000) (hE : ∀ k, k < n → (dg (zs.getD k 0).natAbs).length ≤ 400000) :
    Calls Try.prog 103 #[.slice (some ⟨b, 0, none⟩) n cap] w (GivesZ (prodL zs) w) := by
  have HW := Lib.hid hw
  have hbl := hw.1
  have HL := Lib.hid hL; have HE := Lib.hid hE
  have HF := Lib.hid (fun k (h : k < n) => prodL_step zs k (by omega))
  have HA := Lib.hid (show prodL (zs.take n) = prodL zs by rw [List.take_of_length_le (by omega)])
  have HN := Lib.hid hn
  have h0 := prodL_zero zs
  have H0 := Lib.hid h0
  clear hw hL hE hn h0
  go_enter Try.func103, Try.ntmps103
  go_wp2_with fail
  refine (wholeOf_any 1 (by decide) (by decide) _).mono ?_
  rintro e wa ⟨sa, sl, sc, rfl, hoa, hba⟩
  have hza := hba.size
  simp only [World.size_alloc] at hza
  have hla : w.heap.size < wa.heap.size := by omega
  have t0 : wa.cell? ⟨w.heap.size, 0, none⟩ = some (Value.bool false) := bcl hba (by simp) (by simp [go_sem])
  have t1 : wa.cell? ⟨w.heap.size, 1, none⟩ = some (Value.slice none 0 0) := bcl hba (by simp) (by simp [go_sem])
  have t2 : ∀ o, wa.frozen? ⟨w.heap.size, o, none⟩ = false := fun o => bfl hba (by simp) (by simp [go_sem])
  go_wp2_with fail
  refine name_world (fun W1 hW1 => ?_)
  obtain ⟨B, hB⟩ : ∃ B, wa.heap.size = B := ⟨_, rfl⟩
  have i0 : W1.cell? ⟨B, 0, none⟩ = some (.bool (decide ((1 : Int) < 0))) := by subst hW1; subst hB; simp
  have i1 : W1.cell? ⟨B, 1, none⟩ = some (.slice sa sl sc) := by subst hW1; subst hB; simp
  have i2 : ∀ o, W1.frozen? ⟨B, o, none⟩ = false := by subst hW1; subst hB; intro o; simp
  have i3 : Own W1 (w.heap.size + 1) (.slice sa sl sc) (dg (1 : Int).natAbs) := by subst hW1; exact (hoa.alloc _).mono (by simp)
  have i4 : W1.cell? ⟨w.heap.size, 0, none⟩ = some (.bool false) := by subst hW1; simp [t0, hla, go_sem]
  have i5 : W1.cell? ⟨w.heap.size, 1, none⟩ = some (.slice none 0 0) := by subst hW1; simp [t1, hla, go_sem]
  have i6 : ∀ o, W1.frozen? ⟨w.heap.size, o, none⟩ = false := by subst hW1; intro o; simp [t2, hla, go_sem]
  rw [hB]
  have hlb : B < W1.heap.size := by subst hW1; subst hB; simp
  have hB1 : Below w.heap.size w W1 := by subst hW1; exact (by repeat' (first | (with_reducible exact Below.refl _ _) | (with_reducible assumption) | (with_reducible refine Below.alloc ?_ ?_ _) | (with_reducible refine Below.setCell ?_ ?_ _) | (with_reducible refine Below.drew ?_) | (with_reducible refine below_drewN ?_ _) | (apply bthen2; (with_reducible assumption)) | go_size))
  have hwB : w.heap.size < B := by subst hB; first | omega | (simp; done)
  clear hW1 hB hba hoa t0 t1 t2 hza
  go_loopw [9] (fun v9 wr => ∃ (k : Nat) (z : Int) (sa : Option Addr) (sl sc : Nat), k ≤ n ∧ v9 = .int .i64 k ∧ z = prodL (zs.take k) ∧ wr.cell? ⟨B, 0, none⟩ = some (.bool (decide (z < 0))) ∧ wr.cell? ⟨B, 1, none⟩ = some (.slice sa sl sc) ∧ (∀ o, wr.frozen? ⟨B, o, none⟩ = false) ∧ B < wr.heap.size ∧ Own wr (w.heap.size + 1) (.slice sa sl sc) (dg z.natAbs) ∧ wr.cell? ⟨w.heap.size, 0, none⟩ = some (.bool false) ∧ wr.cell? ⟨w.heap.size, 1, none⟩ = some (.slice none 0 0) ∧ (∀ o, wr.frozen? ⟨w.heap.size, o, none⟩ = false) ∧ Below w.heap.size w wr) (fun v9 _ => n - (intOf v9).toNat)
  case atStart => exact ⟨0, 1, _, _, _, by omega, rfl, by rw [H0.out], i0, i1, i2, hlb, i3, i4, i5, i6, hB1⟩
  case round =>
    clear i0 i1 i2 i3 i4 i5 i6 hlb
    obtain ⟨k, z, sa, sl, sc, hk, rfl, hz, j0, j1, j2, j3, j4, j5, j6, j7, hbw⟩ := hrel
    have hlz : (dg z.natAbs).length ≤ 400000 := by rw [hz]; exact HL.out k hk
    have hsz := hbw.size
    by_cases hlt : k < n
    · obtain ⟨xa, xl, xc, c0, c1, c2⟩ := HW.out.2 k (by have := HN.out; omega)
      have c0 := (hbw.cell (p := ⟨b, k * 2, none⟩) hbl).trans c0
      have c1 := (hbw.cell (p := ⟨b, k * 2 + 1, none⟩) hbl).trans c1
      have c2 := c2.below hbw
      have hly := HE.out k hlt
      have hst := HF.out k hlt
      rw [← hz] at hst
      have HST := Lib.hid hst
      have HM := Lib.hid (fun W h1 h2 => mulWholes_any z (zs.getD k 0) sa xa sl sc xl xc W h1 h2 (by omega) (by omega))
      have HJ := Lib.hid j4; have HC2 := Lib.hid c2
      generalize hx : zs.getD k 0 = x at *
      obtain ⟨s1, hs1⟩ : ∃ s, decide (z < 0) = s := ⟨_, rfl⟩
      obtain ⟨s2, hs2⟩ : ∃ s, decide (x < 0) = s := ⟨_, rfl⟩
      rw [hs1] at j0 HM; rw [hs2] at c0 HM
      clear hst hz j4 c2 hx hs1 hs2 hlz hly
      go_wp2_with fail
      refine (HM.out _ ?_ ?_).mono ?_
      · refine Ints.below HJ.out.ints ?_; repeat' (first | (with_reducible exact Below.refl _ _) | (with_reducible assumption) | (with_reducible refine Below.alloc ?_ ?_ _) | (with_reducible refine Below.setCell ?_ ?_ _) | (with_reducible refine Below.drew ?_) | (with_reducible refine below_drewN ?_ _) | (apply bthen2; (with_reducible assumption)) | go_size)
      · refine Ints.below HC2.out ?_; repeat' (first | (with_reducible exact Below.refl _ _) | (with_reducible assumption) | (with_reducible refine Below.alloc ?_ ?_ _) | (with_reducible refine Below.setCell ?_ ?_ _) | (with_reducible refine Below.drew ?_) | (with_reducible refine below_drewN ?_ _) | (apply bthen2; (with_reducible assumption)) | go_size)
      rintro e wc ⟨a3, l3, c3, rfl, ho3, hbc⟩
      have hzc := hbc.size
      have hlw : w.heap.size < wr.heap.size := by omega
      simp only [World.size_alloc] at hzc
      have d0 : wc.cell? ⟨B, 0, none⟩ = some (Value.bool s1) := bcl hbc (by simp; omega) (by simp [j0, j3, go_sem])
      have d1 : wc.cell? ⟨B, 1, none⟩ = some (Value.slice sa sl sc) := bcl hbc (by simp; omega) (by simp [j1, j3, go_sem])
      have d2 : ∀ o, wc.frozen? ⟨B, o, none⟩ = false := fun o => bfl hbc (by simp; omega) (by simp [j2, j3, go_sem])
      have d3 : wc.cell? ⟨w.heap.size, 0, none⟩ = some (Value.bool false) := bcl hbc (by simp; omega) (by simp [j5, hlw, go_sem])
      have d4 : wc.cell? ⟨w.heap.size, 1, none⟩ = some (Value.slice none 0 0) := bcl hbc (by simp; omega) (by simp [j6, hlw, go_sem])
      have d5 : ∀ o, wc.frozen? ⟨w.heap.size, o, none⟩ = false := fun o => bfl hbc (by simp; omega) (by simp [j7, hlw, go_sem])
      have hlc : B < wc.heap.size := by omega
      have hne : w.heap.size ≠ B := by omega
      clear HM HJ HC2 j0 j1 j2 j5 j6 j7 c0 c1
      go_wp2_with fail
      go_roundw
      case rel => exact ⟨k + 1, z * x, a3, l3, c3, by omega, by go_num, HST.out, by simp [d0, d1, hlc, go_sem], by simp [d0, d1, hlc, go_sem], by intro o; simp [d2, go_sem], by simp; omega, ((ho3.set (p := ⟨B, 0, none⟩) (by simp; omega) _).set (p := ⟨B, 1, none⟩) (by simp; omega) _).mono (by simp; omega), by simp [d3, hne, go_sem], by simp [d4, hne, go_sem], by intro o; simp [d5, go_sem], (by repeat' (first | (with_reducible exact Below.refl _ _) | (with_reducible assumption) | (with_reducible refine Below.alloc ?_ ?_ _) | (with_reducible refine Below.setCell ?_ ?_ _) | (with_reducible refine Below.drew ?_) | (with_reducible refine below_drewN ?_ _) | (apply bthen2; (with_reducible assumption)) | go_size))⟩
      case measure => simp [intOf]; omega
    · have e : k = n := by omega
      subst e
      rw [HA.out] at hz
      have HZ := Lib.hid hz
      have hne : w.heap.size ≠ B := by omega
      have hlw : w.heap.size < wr.heap.size := by omega
      clear hz
      go_wp2_with fail
      refine bodyPost_ret (v := .agg #[.bool (decide (z < 0)), .slice sa sl sc]) (by simp [results, Try.results103, go_sem, j5, j6, hlw]) rfl ?_
      rw [← HZ.out]
      exact ⟨_, _, _, rfl, ((j4.set (p := ⟨w.heap.size, 0, none⟩) (by simp) _).set (p := ⟨w.heap.size, 1, none⟩) (by simp) _).mono (by omega), (by repeat' (first | (with_reducible exact Below.refl _ _) | (with_reducible assumption) | (with_reducible refine Below.alloc ?_ ?_ _) | (with_reducible refine Below.setCell ?_ ?_ _) | (with_reducible refine Below.drew ?_) | (with_reducible refine below_drewN ?_ _) | (apply bthen2; (with_reducible assumption)) | go_size))⟩

end Go.Proofs.Ytopdeoicglkbkaa
