import Derived.Test.YtelkmldmebdcgaaCmpR
set_option linter.unusedSimpArgs false
set_option linter.unusedVariables false
namespace Go.Proofs.Ytelkmldmebdcgaa
open Go.RowKit
/-! ### bounds of logarithms -/

/-- z to the power 2^k, if no square on the way has more than 400 digits. -/
def pwz : Nat → Int → Option Int
  | 0, z => some z
  | k + 1, z => if (dg (z * z).natAbs).length ≤ 400 then pwz k (z * z) else none
theorem pwz_some {k : Nat} {z : Int} (h : (dg (z * z).natAbs).length ≤ 400) : pwz (k + 1) z = pwz k (z * z) := if_pos h
theorem pwz_none {k : Nat} {z : Int} (h : ¬ (dg (z * z).natAbs).length ≤ 400) : pwz (k + 1) z = none := if_neg h
theorem pwz_zero : ∀ k, pwz k 0 = some 0
  | 0 => rfl
  | k + 1 => by rw [pwz_some (by simp [dg_zero])]; exact pwz_zero k
theorem pwz_len : ∀ (k : Nat) (z y : Int), (dg z.natAbs).length ≤ 400 → pwz k z = some y → (dg y.natAbs).length ≤ 400
  | 0, z, y, h, e => by cases e; exact h
  | k + 1, z, y, h, e => by
    by_cases g : (dg (z * z).natAbs).length ≤ 400
    · rw [pwz_some g] at e; exact pwz_len k _ y g e
    · rw [pwz_none g] at e; cases e
def lb3 : Option Int → Int × Int × Bool
  | some y => ((bl y.natAbs : Int) - 1, (bl y.natAbs : Int), true)
  | none => (0, 0, false)
def lb (z : Int) (k : Nat) : Int × Int × Bool := if z = 0 then (0, 0, false) else lb3 (pwz k z)
theorem whB_len (y : Int) : whB (decide (y < 0)) (dg y.natAbs) = decide ((dg y.natAbs).length ≤ 400) := by
  have hc := can_dg y.natAbs
  unfold whB
  have h1 : (!((dg y.natAbs).length == 0 && decide (y < 0))) = true := by
    by_cases h : y < 0
    · have : dg y.natAbs ≠ [] := fun e => by rw [dg_nil] at e; omega
      cases hd : dg y.natAbs with
      | nil => exact absurd hd this
      | cons a l => simp
    · simp [h]
  have h2 : ((dg y.natAbs).length == 0 || !((dg y.natAbs).getD ((dg y.natAbs).length - 1) 0 == 0)) = true := by
    cases hd : dg y.natAbs with
    | nil => rfl
    | cons a l =>
      have := hc.2
      rw [hd, List.getLast?_eq_getElem?] at this
      have hb : (a :: l).length - 1 < (a :: l).length := by simp
      simp only [List.getD, List.getElem?_eq_getElem hb, Option.getD_some] at this ⊢
      simp at this ⊢
      exact this
  have h3 : (dg y.natAbs).all (fun x => inB x 0 9999) = true := by
    rw [List.all_eq_true]
    intro x hx
    exact inB_iff.2 (hc.1 x hx)
  rw [h1, h2, h3]; simp

set_option maxHeartbeats 2000000 in
theorem logBounds_any (z : Int) (k : Nat) (hk : k ≤ 5) (a : Option Addr) (len cap : Nat) (w : World) (hx : Ints w (.slice a len cap) (dg z.natAbs)) (hl : (dg z.natAbs).length ≤ 400) :
    Calls Try.prog 81 #[.agg #[.bool (decide (z < 0)), .slice a len cap], .int .i64 k] w (Gives (.tuple #[.int .i64 (lb z k).1, .int .i64 (lb z k).2.1, .bool (lb z k).2.2]) w) := by
  have hlen := hx.len
  have HX := Lib.hid hx
  by_cases h0 : z = 0
  · subst h0
    have e : len = 0 := by rw [← hlen.1]; rfl
    subst e
    have e2 : lb 0 k = (0, 0, false) := if_pos rfl
    rw [e2]
    clear hx hl hlen e2
    go_enter Try.func81, Try.ntmps81
    go_wp2
    go_ret3
    exact gives rfl (by repeat' (first | (with_reducible exact Below.refl _ _) | (with_reducible assumption) | (with_reducible refine Below.alloc ?_ ?_ _) | (with_reducible refine Below.setCell ?_ ?_ _) | (with_reducible refine Below.drew ?_) | (with_reducible refine below_drewN ?_ _) | (apply bthen2; (with_reducible assumption)) | go_size))
  · have e2 : lb z k = lb3 (pwz k z) := if_neg h0
    have hp : 0 < len := by
      rw [← hlen.1]
      rcases Nat.eq_zero_or_pos (dg z.natAbs).length with q | q
      · have := (dg_nil z.natAbs).1 (List.length_eq_zero_iff.1 q); omega
      · exact q
    have hlz := hlen.2
    rw [e2]
    obtain ⟨P, hP⟩ : ∃ P, pwz k z = P := ⟨_, rfl⟩
    rw [hP]
    obtain ⟨r0, r1, r2, hr⟩ : ∃ r0 r1 r2, lb3 P = (r0, r1, r2) := ⟨_, _, _, rfl⟩
    rw [hr]
    dsimp only
    have HR := Lib.hid hr
    have HP := Lib.hid hP
    have HL := Lib.hid hl
    obtain ⟨s0, hs0⟩ : ∃ s, decide (z < 0) = s := ⟨_, rfl⟩
    rw [hs0]
    have HS0 := Lib.hid hs0
    clear hx hl hlen e2 hP h0 hs0 hr
    have hne : ((len : Int) == 0) = false := by simp; omega
    go_enter Try.func81, Try.ntmps81
    go_wp2_with fail
    refine name_world (fun W1 hW1 => ?_)
    have hBX : Box W1 w.heap.size [.bool s0, .slice a len cap] := by subst hW1; exact box_two (by simp) (by simp [go_sem]) (by simp [go_sem]) (fun o => by simp [go_sem])
    have hB1 : Below w.heap.size w W1 := by subst hW1; exact (by repeat' (first | (with_reducible exact Below.refl _ _) | (with_reducible assumption) | (with_reducible refine Below.alloc ?_ ?_ _) | (with_reducible refine Below.setCell ?_ ?_ _) | (with_reducible refine Below.drew ?_) | (with_reducible refine below_drewN ?_ _) | (apply bthen2; (with_reducible assumption)) | go_size))
    clear hW1
    go_loopw [13] (fun v13 wr => ∃ (i : Nat) (y : Int) (sa : Option Addr) (sl sc : Nat), i ≤ k ∧ v13 = .int .i64 i ∧ pwz (k - i) y = P ∧ Box wr w.heap.size [.bool (decide (y < 0)), .slice sa sl sc] ∧ Ints wr (.slice sa sl sc) (dg y.natAbs) ∧ (dg y.natAbs).length ≤ 400 ∧ Below w.heap.size w wr) (fun v13 _ => k - (intOf v13).toNat)
    case atStart => exact ⟨0, z, a, len, cap, by omega, rfl, by rw [Nat.sub_zero]; exact HP.out, by rw [HS0.out]; exact hBX, HX.out.below hB1, HL.out, hB1⟩
    case round =>
      clear hBX HX HP HL HS0
      obtain ⟨i, y, sa, sl, sc, hi, rfl, hP, hbx, hiy, hly, hbw⟩ := hrel
      have j0 := hbx.2.1 0 _ rfl
      have j1 := hbx.2.1 1 _ rfl
      have j2 := hbx.2.2
      have j3 := hbx.1
      by_cases hlt : i < k
      · have HM := Lib.hid (mulWholes_any y y sa sa sl sc sl sc wr hiy hiy (by omega) (by omega))
        obtain ⟨s1, hs1⟩ : ∃ s, decide (y < 0) = s := ⟨_, rfl⟩
        rw [hs1] at j0 HM hbx
        have e1 : k - i = (k - (i + 1)) + 1 := by omega
        rw [e1] at hP
        by_cases hg : (dg (y * y).natAbs).length ≤ 400
        · rw [pwz_some hg] at hP
          obtain ⟨v, hv⟩ : ∃ v, y * y = v := ⟨_, rfl⟩
          rw [hv] at HM hP hg
          have HPP := Lib.hid hP; have HG := Lib.hid hg
          clear hP hiy hly hv hs1 e1
          go_wp2_with fail
          refine HM.out.mono ?_
          rintro e wc ⟨a3, l3, c3, rfl, ho3, hbc⟩
          have hlc : (l3 : Int) ≤ 400 := by have := ho3.ints.len; have := HG.out; omega
          have hbx2 := hbx.below hbc
          have d0 := hbx2.2.1 0 _ rfl
          have d1 := hbx2.2.1 1 _ rfl
          have d2 := hbx2.2.2
          have d3 := hbx2.1
          have HO := Lib.hid ho3
          have hzc := hbc.size
          clear HM j0 j1 j2 hbx ho3
          go_wp2_with fail
          go_roundw
          case rel => exact ⟨i + 1, v, a3, l3, c3, by omega, by go_num, HPP.out, Box.set (Box.set hbx2 0 (by simp) _) 1 (by simp) _, ((HO.out.set (p := ⟨w.heap.size, 0, none⟩) (by first | exact j3 | (simp; omega)) _).set (p := ⟨w.heap.size, 1, none⟩) (by first | exact j3 | (simp; omega)) _).ints, HG.out, (by repeat' (first | (with_reducible exact Below.refl _ _) | (with_reducible assumption) | (with_reducible refine Below.alloc ?_ ?_ _) | (with_reducible refine Below.setCell ?_ ?_ _) | (with_reducible refine Below.drew ?_) | (with_reducible refine below_drewN ?_ _) | (apply bthen2; (with_reducible assumption)) | go_size))⟩
          case measure => simp [intOf]; omega
        · rw [pwz_none hg] at hP
          have hg2 : 400 < (dg (y * y).natAbs).length := by omega
          clear hg
          subst hP
          have hr := HR.out
          simp only [lb3, Prod.mk.injEq] at hr
          obtain ⟨rfl, rfl, rfl⟩ := hr
          clear HR
          obtain ⟨v, hv⟩ : ∃ v, y * y = v := ⟨_, rfl⟩
          rw [hv] at HM hg2
          have HG := Lib.hid hg2
          clear hiy hly hv hs1 e1 hg2
          go_wp2_with fail
          refine HM.out.mono ?_
          rintro e wc ⟨a3, l3, c3, rfl, ho3, hbc⟩
          have hlc : 400 < (l3 : Int) := by have := ho3.ints.len; have := HG.out; omega
          have hlm : l3 ≤ 9223372036854775807 := ho3.ints.len.2
          have hbx2 := hbx.below hbc
          have d0 := hbx2.2.1 0 _ rfl
          have d1 := hbx2.2.1 1 _ rfl
          have d2 := hbx2.2.2
          have d3 := hbx2.1
          clear HM j0 j1 j2 hbx hbx2 ho3
          go_wp2_with fail
          go_ret3
          exact gives rfl (by repeat' (first | (with_reducible exact Below.refl _ _) | (with_reducible assumption) | (with_reducible refine Below.alloc ?_ ?_ _) | (with_reducible refine Below.setCell ?_ ?_ _) | (with_reducible refine Below.drew ?_) | (with_reducible refine below_drewN ?_ _) | (apply bthen2; (with_reducible assumption)) | go_size))
      · have e : i = k := by omega
        subst e
        rw [Nat.sub_self] at hP
        have hP2 : P = some y := hP.symm
        subst hP2
        have hr := HR.out
        simp only [lb3, Prod.mk.injEq] at hr
        obtain ⟨rfl, rfl, rfl⟩ := hr
        clear HR
        have HB := Lib.hid (fun W h => bitLength_any (decide (y < 0)) sa sl sc (dg y.natAbs) W h (inR_dg _) (by omega))
        rw [val_dg, Int.toNat_natCast] at HB
        have hb14 : bl y.natAbs ≤ 14 * (dg y.natAbs).length := bl_dg _
        have hb15 : (bl y.natAbs : Int) ≤ 5600 := by omega
        generalize bl y.natAbs = R at *
        have HI := Lib.hid hiy
        clear hP hiy hly hb14
        go_wp2_with fail
        refine (HB.out _ ?_).mono ?_
        · refine Ints.below HI.out ?_; repeat' (first | (with_reducible exact Below.refl _ _) | (with_reducible assumption) | (with_reducible refine Below.alloc ?_ ?_ _) | (with_reducible refine Below.setCell ?_ ?_ _) | (with_reducible refine Below.drew ?_) | (with_reducible refine below_drewN ?_ _) | (apply bthen2; (with_reducible assumption)) | go_size)
        rintro e wc ⟨rfl, hbc⟩
        go_wp2_with fail
        go_ret3
        exact gives rfl (by repeat' (first | (with_reducible exact Below.refl _ _) | (with_reducible assumption) | (with_reducible refine Below.alloc ?_ ?_ _) | (with_reducible refine Below.setCell ?_ ?_ _) | (with_reducible refine Below.drew ?_) | (with_reducible refine below_drewN ?_ _) | (apply bthen2; (with_reducible assumption)) | go_size))

theorem Ints.set_ne {w : World} {a : Option Addr} {l c : Nat} {xs : List Int} {p : Addr} (h : Ints w (.slice a l c) xs) (hp : ∀ ad, a = some ad → 0 < l → ad.block ≠ p.block) (u : Value) : Ints (w.setCell p u) (.slice a l c) xs := by
  rcases h with h | ⟨b, off, len, cap, hs, hl, h0, hc, hm, hbl, hcell⟩
  · exact .inl h
  · obtain ⟨rfl, rfl, rfl⟩ := by simpa using hs
    have hb := (only_setCell w p u).block b hbl (fun e => hp _ rfl h0 (Option.some.inj e))
    exact .inr ⟨b, off, _, _, rfl, hl, h0, hc, hm, Nat.lt_of_lt_of_le hbl (only_setCell w p u).size, fun i hi => (World.cell?_of_block (w := w) (w' := w.setCell p u) (a := ⟨b, off + i, none⟩) hb).trans (hcell i hi)⟩
theorem Ints.blk {w : World} {a : Option Addr} {l c : Nat} {xs : List Int} (h : Ints w (.slice a l c) xs) : ∀ ad, a = some ad → 0 < l → ad.block < w.heap.size := by
  intro ad had hl0
  rcases h with ⟨a', cap, hs, _⟩ | ⟨b, off, len, cap, hs, hl, h0, hc, hm, hbl, hcell⟩
  · obtain ⟨rfl, rfl, rfl⟩ := by simpa using hs
    omega
  · obtain ⟨rfl, rfl, rfl⟩ := by simpa using hs
    cases had
    exact hbl
theorem Own.blk {w : World} {lo : Nat} {a : Option Addr} {l c : Nat} {xs : List Int} (h : Own w lo (.slice a l c) xs) : ∀ ad, a = some ad → lo ≤ ad.block := by
  rintro ad rfl
  exact (h.lt (b := ad.block) rfl).2
/-- What htPower hands back. -/
def GivesPw (P : Option Int) (w : World) (e : Ending) (w' : World) : Prop := match P with
  | some y => ∃ a l c, e = .returned (.tuple #[.agg #[.bool (decide (y < 0)), .slice a l c], .bool true]) ∧ Ints w' (.slice a l c) (dg y.natAbs) ∧ Below w.heap.size w w'
  | none => e = .returned (.tuple #[.agg #[.bool false, .slice none 0 0], .bool false]) ∧ Below w.heap.size w w'
set_option maxHeartbeats 2000000 in
theorem htPower_any (z : Int) (k : Nat) (hk : k ≤ 5) (a : Option Addr) (len cap : Nat) (w : World) (hx : Ints w (.slice a len cap) (dg z.natAbs)) (hl : (dg z.natAbs).length ≤ 400) :
    Calls Try.prog 111 #[.agg #[.bool (decide (z < 0)), .slice a len cap], .int .i64 k] w (GivesPw (pwz k z) w) := by
  have HX := Lib.hid hx
  obtain ⟨P, hP⟩ : ∃ P, pwz k z = P := ⟨_, rfl⟩
  rw [hP]
  have HP := Lib.hid hP
  have HL := Lib.hid hl
  obtain ⟨s0, hs0⟩ : ∃ s, decide (z < 0) = s := ⟨_, rfl⟩
  rw [hs0]
  have HS0 := Lib.hid hs0
  have HSP := Lib.hid (show ∀ ad, a = some ad → 0 < len → ad.block ≠ w.heap.size + 1 from fun ad h1 h2 => by have := hx.blk ad h1 h2; omega)
  clear hx hl hP hs0
  go_enter Try.func111, Try.ntmps111
  go_wp2_with fail
  refine name_world (fun W1 hW1 => ?_)
  have hBX : Box W1 w.heap.size [.bool s0, .slice a len cap] := by subst hW1; exact box_two (by first | (simp; done) | (simp; omega)) (by simp [go_sem]) (by simp [go_sem]) (fun o => by simp [go_sem])
  have hRX : Box W1 (w.heap.size + 1) [.bool false, .slice none 0 0] := by subst hW1; exact box_two (by first | (simp; done) | (simp; omega)) (by simp [go_sem]) (by simp [go_sem]) (fun o => by simp [go_sem])
  have hB1 : Below w.heap.size w W1 := by subst hW1; exact (by repeat' (first | (with_reducible exact Below.refl _ _) | (with_reducible assumption) | (with_reducible refine Below.alloc ?_ ?_ _) | (with_reducible refine Below.setCell ?_ ?_ _) | (with_reducible refine Below.drew ?_) | (with_reducible refine below_drewN ?_ _) | (apply bthen2; (with_reducible assumption)) | go_size))
  clear hW1
  go_loopw [1] (fun v1 wr => ∃ (i : Nat) (y : Int) (sa : Option Addr) (sl sc : Nat), i ≤ k ∧ v1 = .int .i64 i ∧ pwz i y = P ∧ Box wr w.heap.size [.bool (decide (y < 0)), .slice sa sl sc] ∧ Box wr (w.heap.size + 1) [.bool false, .slice none 0 0] ∧ Ints wr (.slice sa sl sc) (dg y.natAbs) ∧ (dg y.natAbs).length ≤ 400 ∧ Below w.heap.size w wr ∧ (∀ ad, sa = some ad → 0 < sl → ad.block ≠ w.heap.size + 1)) (fun v1 _ => (intOf v1).toNat)
  case atStart => exact ⟨k, z, a, len, cap, by omega, rfl, HP.out, by rw [HS0.out]; exact hBX, hRX, HX.out.below hB1, HL.out, hB1, HSP.out⟩
  case round =>
    clear hBX hRX HX HP HL HS0 HSP
    obtain ⟨i, y, sa, sl, sc, hi, rfl, hP, hbx, hrx, hiy, hly, hbw, hsp⟩ := hrel
    have HSP := Lib.hid hsp; clear hsp
    have j0 := hbx.2.1 0 _ rfl
    have j1 := hbx.2.1 1 _ rfl
    have j2 := hbx.2.2
    have j3 := hbx.1
    have r0 := hrx.2.1 0 _ rfl
    have r1 := hrx.2.1 1 _ rfl
    have r2 := hrx.2.2
    have r3 := hrx.1
    cases i with
    | succ i =>
      have HM := Lib.hid (bgMul_any y y sa sa sl sc sl sc wr hiy hiy (by omega) (by omega))
      obtain ⟨s1, hs1⟩ : ∃ s, decide (y < 0) = s := ⟨_, rfl⟩
      rw [hs1] at j0 HM hbx
      have HG := Lib.hid (fun a l c W h => bgGood_any (decide (y * y < 0)) a l c (dg (y * y).natAbs) W h)
      rw [whB_len] at HG
      by_cases hg : (dg (y * y).natAbs).length ≤ 400
      · rw [pwz_some hg] at hP
        rw [show decide ((dg (y * y).natAbs).length ≤ 400) = true by simp [hg]] at HG
        obtain ⟨v, hv⟩ : ∃ v, y * y = v := ⟨_, rfl⟩
        rw [hv] at HM hP hg HG
        have HPP := Lib.hid hP; have HLL := Lib.hid hg
        clear hP hiy hly hv hs1 hg
        unfold GivesZ at HM
        obtain ⟨s2, hs2⟩ : ∃ s, decide (v < 0) = s := ⟨_, rfl⟩
        rw [hs2] at HM HG
        have HS2 := Lib.hid hs2
        clear hs2
        go_wp2_with fail
        refine HM.out.mono ?_
        rintro e wc ⟨a3, l3, c3, rfl, ho3, hbc⟩
        have hbx2 := hbx.below hbc
        have hrx2 := hrx.below hbc
        have d0 := hbx2.2.1 0 _ rfl
        have d1 := hbx2.2.1 1 _ rfl
        have d2 := hbx2.2.2
        have d3 := hbx2.1
        have HO := Lib.hid ho3
        have hzc := hbc.size
        have HQ := Lib.hid (show ∀ ad, a3 = some ad → 0 < l3 → ad.block ≠ w.heap.size + 1 from fun ad h1 h2 => by have := ho3.blk ad h1; omega)
        clear HM j0 j1 j2 hbx ho3 r0 r1 r2 hrx
        go_upto_region 4 with fail
        refine name_world (fun W2 hW2 => ?_)
        have q1 : Box W2 w.heap.size [.bool s2, .slice a3 l3 c3] := by subst hW2; exact Box.set (Box.set hbx2 0 (by simp) _) 1 (by simp) _
        have q2 : Box W2 (w.heap.size + 1) [.bool false, .slice none 0 0] := by subst hW2; exact (hrx2.set_ne (p := ⟨w.heap.size, 0, none⟩) (by simp) _).set_ne (p := ⟨w.heap.size, 1, none⟩) (by simp) _
        have q3 : Ints W2 (.slice a3 l3 c3) (dg v.natAbs) := by subst hW2; exact ((HO.out.set (p := ⟨w.heap.size, 0, none⟩) (by first | exact j3 | (simp; omega)) _).set (p := ⟨w.heap.size, 1, none⟩) (by first | exact j3 | (simp; omega)) _).ints
        have q4 : Below w.heap.size w W2 := by subst hW2; exact (by repeat' (first | (with_reducible exact Below.refl _ _) | (with_reducible assumption) | (with_reducible refine Below.alloc ?_ ?_ _) | (with_reducible refine Below.setCell ?_ ?_ _) | (with_reducible refine Below.drew ?_) | (with_reducible refine below_drewN ?_ _) | (apply bthen2; (with_reducible assumption)) | go_size))
        have c0 := q1.2.1 0 _ rfl
        have c1 := q1.2.1 1 _ rfl
        clear hW2 d0 d1 d2 hbx2 hrx2 HO hbc
        go_wp2_with fail
        refine (HG.out _ _ _ _ q3).mono ?_
        rintro e wd ⟨rfl, hbd⟩
        have p1 := q1.below hbd
        have p2 := q2.below hbd
        have p3 := q3.below hbd
        clear q1 q2 q3 c0 c1 HG
        go_wp2_with fail
        go_roundw
        case rel => exact ⟨i, v, a3, l3, c3, by omega, by go_num, HPP.out, by rw [HS2.out]; exact p1, p2, p3, HLL.out, (by repeat' (first | (with_reducible exact Below.refl _ _) | (with_reducible assumption) | (with_reducible refine Below.alloc ?_ ?_ _) | (with_reducible refine Below.setCell ?_ ?_ _) | (with_reducible refine Below.drew ?_) | (with_reducible refine below_drewN ?_ _) | (apply bthen2; (with_reducible assumption)) | go_size)), HQ.out⟩
        case measure => first | (simp [intOf]; done) | (simp [intOf]; omega)
      · rw [pwz_none hg] at hP
        rw [show decide ((dg (y * y).natAbs).length ≤ 400) = false by simp [hg]] at HG
        subst hP
        rw [show GivesPw none w = (fun e w' => e = .returned (.tuple #[.agg #[.bool false, .slice none 0 0], .bool false]) ∧ Below w.heap.size w w') from rfl]
        obtain ⟨v, hv⟩ : ∃ v, y * y = v := ⟨_, rfl⟩
        rw [hv] at HM HG
        clear hiy hly hv hs1 hg
        unfold GivesZ at HM
        obtain ⟨s2, hs2⟩ : ∃ s, decide (v < 0) = s := ⟨_, rfl⟩
        rw [hs2] at HM HG
        clear hs2
        go_wp2_with fail
        refine HM.out.mono ?_
        rintro e wc ⟨a3, l3, c3, rfl, ho3, hbc⟩
        have hbx2 := hbx.below hbc
        have hrx2 := hrx.below hbc
        have d0 := hbx2.2.1 0 _ rfl
        have d1 := hbx2.2.1 1 _ rfl
        have d2 := hbx2.2.2
        have d3 := hbx2.1
        have HO := Lib.hid ho3
        have hzc := hbc.size
        have HQ := Lib.hid (show ∀ ad, a3 = some ad → 0 < l3 → ad.block ≠ w.heap.size + 1 from fun ad h1 h2 => by have := ho3.blk ad h1; omega)
        clear HM j0 j1 j2 hbx ho3 r0 r1 r2 hrx
        go_upto_region 4 with fail
        refine name_world (fun W2 hW2 => ?_)
        have q1 : Box W2 w.heap.size [.bool s2, .slice a3 l3 c3] := by subst hW2; exact Box.set (Box.set hbx2 0 (by simp) _) 1 (by simp) _
        have q2 : Box W2 (w.heap.size + 1) [.bool false, .slice none 0 0] := by subst hW2; exact (hrx2.set_ne (p := ⟨w.heap.size, 0, none⟩) (by simp) _).set_ne (p := ⟨w.heap.size, 1, none⟩) (by simp) _
        have q3 : Ints W2 (.slice a3 l3 c3) (dg v.natAbs) := by subst hW2; exact ((HO.out.set (p := ⟨w.heap.size, 0, none⟩) (by first | exact j3 | (simp; omega)) _).set (p := ⟨w.heap.size, 1, none⟩) (by first | exact j3 | (simp; omega)) _).ints
        have q4 : Below w.heap.size w W2 := by subst hW2; exact (by repeat' (first | (with_reducible exact Below.refl _ _) | (with_reducible assumption) | (with_reducible refine Below.alloc ?_ ?_ _) | (with_reducible refine Below.setCell ?_ ?_ _) | (with_reducible refine Below.drew ?_) | (with_reducible refine below_drewN ?_ _) | (apply bthen2; (with_reducible assumption)) | go_size))
        have c0 := q1.2.1 0 _ rfl
        have c1 := q1.2.1 1 _ rfl
        clear hW2 d0 d1 d2 hbx2 hrx2 HO hbc
        go_wp2_with fail
        refine (HG.out _ _ _ _ q3).mono ?_
        rintro e wd ⟨rfl, hbd⟩
        have p2 := q2.below hbd
        have t0 := p2.2.1 0 _ rfl
        have t1 := p2.2.1 1 _ rfl
        have t2 := p2.2.2
        have t3 := p2.1
        clear q1 q2 q3 c0 c1 HG p2
        go_wp2_with fail
        refine bodyPost_ret (v := .tuple #[.agg #[.bool false, .slice none 0 0], .bool false]) (by simp [results, Try.results111, go_sem, t0, t1, t3]) rfl ⟨rfl, (by repeat' (first | (with_reducible exact Below.refl _ _) | (with_reducible assumption) | (with_reducible refine Below.alloc ?_ ?_ _) | (with_reducible refine Below.setCell ?_ ?_ _) | (with_reducible refine Below.drew ?_) | (with_reducible refine below_drewN ?_ _) | (apply bthen2; (with_reducible assumption)) | go_size))⟩
    | zero =>
      have hP2 : P = some y := hP.symm
      subst hP2
      have HI := Lib.hid hiy
      obtain ⟨s1, hs1⟩ : ∃ s, decide (y < 0) = s := ⟨_, rfl⟩
      rw [hs1] at j0
      have HS1 := Lib.hid hs1
      clear hP hiy hly hs1 hbx hrx
      go_wp2_with fail
      refine bodyPost_ret (v := .tuple #[.agg #[.bool s1, .slice sa sl sc], .bool true]) (by simp [results, Try.results111, go_sem, r0, r1, r3]) rfl ?_
      rw [← HS1.out]
      exact ⟨sa, sl, sc, rfl, (HI.out.set_ne (p := ⟨w.heap.size + 1, 0, none⟩) HSP.out _).set_ne (p := ⟨w.heap.size + 1, 1, none⟩) HSP.out _, (by repeat' (first | (with_reducible exact Below.refl _ _) | (with_reducible assumption) | (with_reducible refine Below.alloc ?_ ?_ _) | (with_reducible refine Below.setCell ?_ ?_ _) | (with_reducible refine Below.drew ?_) | (with_reducible refine below_drewN ?_ _) | (apply bthen2; (with_reducible assumption)) | go_size))⟩

end Go.Proofs.Ytelkmldmebdcgaa
