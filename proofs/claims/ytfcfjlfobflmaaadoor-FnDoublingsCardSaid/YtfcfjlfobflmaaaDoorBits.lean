import Derived.Test.YtfcfjlfobflmaaaDoorHgt2
set_option linter.unusedSimpArgs false
set_option linter.unusedVariables false
namespace Go.Proofs.YtfcfjlfobflmaaaDoor
open Go.RowKit
/-! ### heights in bits -/

theorem cmpI_neg {a b : Int} : cmpI a b < 0 ↔ a < b := by
  rcases Int.lt_trichotomy a b with h | h | h
  · rw [cmpI_lt h]; omega
  · rw [cmpI_eq h]; omega
  · rw [cmpI_gt h]; omega
theorem can_sgn {n : Bool} {xs : List Int} (h : Can xs) (hn : n = true → xs ≠ []) : (n && decide (0 < tz xs xs.length)) = n := by
  rw [tz_can h]
  cases n with
  | false => rfl
  | true =>
    have := hn rfl
    have : 0 < xs.length := by
      cases xs with
      | nil => exact absurd rfl this
      | cons x xs => simp
    simpa using this

theorem htGreater_any (n1 n2 : Bool) (a a2 : Option Addr) (len cap len2 cap2 : Nat) (xs ys : List Int) (w : World) (hx : Ints w (.slice a len cap) xs) (hy : Ints w (.slice a2 len2 cap2) ys) (rx : Can xs) (ry : Can ys) (lx : xs.length ≤ 1000000) (ly : ys.length ≤ 1000000) :
    Calls Tryd.prog 52 #[.agg #[.bool n1, .slice a len cap], .agg #[.bool n2, .slice a2 len2 cap2]] w (if val xs < val ys then GivesW (n2 && decide (0 < tz ys ys.length)) ys w else GivesW (n1 && decide (0 < tz xs xs.length)) xs w) := by
  have HO := Lib.hid (fun W h h' => bgOrder_any (.slice a len cap) (.slice a2 len2 cap2) xs ys W h h' rx.1 ry.1 lx ly)
  have HX := Lib.hid hx; have HY := Lib.hid hy
  by_cases h : val xs < val ys
  · rw [if_pos h]
    have hneg := cmpI_neg.mpr h
    have HM := Lib.hid (fun W h => bgMake_any n2 a2 len2 cap2 ys W h (by omega))
    rw [trim_can ry] at HM
    generalize cmpI (val xs) (val ys) = C at *
    generalize (n2 && decide (0 < tz ys ys.length)) = N at *
    clear hx hy rx ry h
    go_enter Tryd.func52, Tryd.ntmps52
    go_wp2_with fail
    refine (HO.out _ ?_ ?_).mono ?_
    · refine Ints.below HX.out ?_; repeat' (first | (with_reducible exact Below.refl _ _) | (with_reducible assumption) | (with_reducible refine Below.alloc ?_ ?_ _) | (with_reducible refine Below.setCell ?_ ?_ _) | (with_reducible refine Below.drew ?_) | (with_reducible refine below_drewN ?_ _) | (apply bthen2; (with_reducible assumption)) | go_size)
    · refine Ints.below HY.out ?_; repeat' (first | (with_reducible exact Below.refl _ _) | (with_reducible assumption) | (with_reducible refine Below.alloc ?_ ?_ _) | (with_reducible refine Below.setCell ?_ ?_ _) | (with_reducible refine Below.drew ?_) | (with_reducible refine below_drewN ?_ _) | (apply bthen2; (with_reducible assumption)) | go_size)
    rintro e w1 ⟨rfl, rfl⟩
    go_wp2_with fail
    refine (HM.out _ ?_).mono ?_
    · refine Ints.below HY.out ?_; repeat' (first | (with_reducible exact Below.refl _ _) | (with_reducible assumption) | (with_reducible refine Below.alloc ?_ ?_ _) | (with_reducible refine Below.setCell ?_ ?_ _) | (with_reducible refine Below.drew ?_) | (with_reducible refine below_drewN ?_ _) | (apply bthen2; (with_reducible assumption)) | go_size)
    rintro e w2 ⟨a3, len3, cap3, rfl, ho, hb2⟩
    have hz2 := hb2.size; (try simp only [World.size_alloc, World.size_setCell, World.size_drew, World.heap_drewN] at hz2); try (refine keepc hb2 (w.heap.size) ?_ ?_; (focus (first | omega | (simp <;> omega))); intro hc2_0 hf2_0 hl2_0); try (refine keepc hb2 (w.heap.size + 1) ?_ ?_; (focus (first | omega | (simp <;> omega))); intro hc2_1 hf2_1 hl2_1); try (refine keepc hb2 (w.heap.size + 1 + 1) ?_ ?_; (focus (first | omega | (simp <;> omega))); intro hc2_2 hf2_2 hl2_2)
    go_wp2_with fail
    refine bodyPost_ret (v := .agg #[.bool N, .slice a3 len3 cap3]) (by simp [results, Tryd.results52, go_sem, hc2_2, hl2_2]) rfl ⟨_, _, _, rfl, ((ho.set (p := ⟨w.heap.size + 1 + 1, 0, none⟩) (by simp) _).set (p := ⟨w.heap.size + 1 + 1, 1, none⟩) (by simp) _).mono (by simp; omega), (by repeat' (first | (with_reducible exact Below.refl _ _) | (with_reducible assumption) | (with_reducible refine Below.alloc ?_ ?_ _) | (with_reducible refine Below.setCell ?_ ?_ _) | (with_reducible refine Below.drew ?_) | (with_reducible refine below_drewN ?_ _) | (apply bthen2; (with_reducible assumption)) | go_size))⟩
  · rw [if_neg h]
    have hneg : ¬ cmpI (val xs) (val ys) < 0 := fun g => h (cmpI_neg.mp g)
    have HM := Lib.hid (fun W h => bgMake_any n1 a len cap xs W h (by omega))
    rw [trim_can rx] at HM
    generalize cmpI (val xs) (val ys) = C at *
    generalize (n1 && decide (0 < tz xs xs.length)) = N at *
    clear hx hy rx ry h
    go_enter Tryd.func52, Tryd.ntmps52
    go_wp2_with fail
    refine (HO.out _ ?_ ?_).mono ?_
    · refine Ints.below HX.out ?_; repeat' (first | (with_reducible exact Below.refl _ _) | (with_reducible assumption) | (with_reducible refine Below.alloc ?_ ?_ _) | (with_reducible refine Below.setCell ?_ ?_ _) | (with_reducible refine Below.drew ?_) | (with_reducible refine below_drewN ?_ _) | (apply bthen2; (with_reducible assumption)) | go_size)
    · refine Ints.below HY.out ?_; repeat' (first | (with_reducible exact Below.refl _ _) | (with_reducible assumption) | (with_reducible refine Below.alloc ?_ ?_ _) | (with_reducible refine Below.setCell ?_ ?_ _) | (with_reducible refine Below.drew ?_) | (with_reducible refine below_drewN ?_ _) | (apply bthen2; (with_reducible assumption)) | go_size)
    rintro e w1 ⟨rfl, rfl⟩
    go_wp2_with fail
    refine (HM.out _ ?_).mono ?_
    · refine Ints.below HX.out ?_; repeat' (first | (with_reducible exact Below.refl _ _) | (with_reducible assumption) | (with_reducible refine Below.alloc ?_ ?_ _) | (with_reducible refine Below.setCell ?_ ?_ _) | (with_reducible refine Below.drew ?_) | (with_reducible refine below_drewN ?_ _) | (apply bthen2; (with_reducible assumption)) | go_size)
    rintro e w2 ⟨a3, len3, cap3, rfl, ho, hb2⟩
    have hz2 := hb2.size; (try simp only [World.size_alloc, World.size_setCell, World.size_drew, World.heap_drewN] at hz2); try (refine keepc hb2 (w.heap.size) ?_ ?_; (focus (first | omega | (simp <;> omega))); intro hc2_0 hf2_0 hl2_0); try (refine keepc hb2 (w.heap.size + 1) ?_ ?_; (focus (first | omega | (simp <;> omega))); intro hc2_1 hf2_1 hl2_1); try (refine keepc hb2 (w.heap.size + 1 + 1) ?_ ?_; (focus (first | omega | (simp <;> omega))); intro hc2_2 hf2_2 hl2_2)
    go_wp2_with fail
    refine bodyPost_ret (v := .agg #[.bool N, .slice a3 len3 cap3]) (by simp [results, Tryd.results52, go_sem, hc2_2, hl2_2]) rfl ⟨_, _, _, rfl, ((ho.set (p := ⟨w.heap.size + 1 + 1, 0, none⟩) (by simp) _).set (p := ⟨w.heap.size + 1 + 1, 1, none⟩) (by simp) _).mono (by simp; omega), (by repeat' (first | (with_reducible exact Below.refl _ _) | (with_reducible assumption) | (with_reducible refine Below.alloc ?_ ?_ _) | (with_reducible refine Below.setCell ?_ ?_ _) | (with_reducible refine Below.drew ?_) | (with_reducible refine below_drewN ?_ _) | (apply bthen2; (with_reducible assumption)) | go_size))⟩

theorem htBits_any (n1 n2 : Bool) (a a2 : Option Addr) (len cap len2 cap2 : Nat) (xs ys : List Int) (w : World) (hx : Ints w (.slice a len cap) xs) (hy : Ints w (.slice a2 len2 cap2) ys) (rx : Can xs) (ry : Can ys) (lx : xs.length ≤ 1000000) (ly : ys.length ≤ 1000000) :
    Calls Tryd.prog 34 #[.agg #[.bool n1, .slice a len cap], .agg #[.bool n2, .slice a2 len2 cap2]] w (Gives (.int .i64 (bl (max (val xs) (val ys)).toNat : Nat)) w) := by
  have HG := Lib.hid (fun W h h' => htGreater_any n1 n2 a a2 len cap len2 cap2 xs ys W h h' rx ry lx ly)
  have HX := Lib.hid hx; have HY := Lib.hid hy
  have HB1 := Lib.hid (fun N sa sl sc W h => bgBits_any N sa sl sc xs W h rx.1 lx)
  have HB2 := Lib.hid (fun N sa sl sc W h => bgBits_any N sa sl sc ys W h ry.1 ly)
  by_cases h : val xs < val ys
  · rw [show max (val xs) (val ys) = val ys by omega]
    simp only [if_pos h] at HG
    generalize bl (val ys).toNat = R at *
    clear hx hy rx ry h HB1
    go_enter Tryd.func34, Tryd.ntmps34
    go_wp2_with fail
    refine (HG.out _ ?_ ?_).mono ?_
    · refine Ints.below HX.out ?_; repeat' (first | (with_reducible exact Below.refl _ _) | (with_reducible assumption) | (with_reducible refine Below.alloc ?_ ?_ _) | (with_reducible refine Below.setCell ?_ ?_ _) | (with_reducible refine Below.drew ?_) | (with_reducible refine below_drewN ?_ _) | (apply bthen2; (with_reducible assumption)) | go_size)
    · refine Ints.below HY.out ?_; repeat' (first | (with_reducible exact Below.refl _ _) | (with_reducible assumption) | (with_reducible refine Below.alloc ?_ ?_ _) | (with_reducible refine Below.setCell ?_ ?_ _) | (with_reducible refine Below.drew ?_) | (with_reducible refine below_drewN ?_ _) | (apply bthen2; (with_reducible assumption)) | go_size)
    rintro e w1 ⟨a3, len3, cap3, rfl, ho, hb1⟩
    go_wp2_with fail
    refine (HB2.out _ _ _ _ _ ?_).mono ?_
    · refine Ints.below ho.ints ?_; repeat' (first | (with_reducible exact Below.refl _ _) | (with_reducible assumption) | (with_reducible refine Below.alloc ?_ ?_ _) | (with_reducible refine Below.setCell ?_ ?_ _) | (with_reducible refine Below.drew ?_) | (with_reducible refine below_drewN ?_ _) | (apply bthen2; (with_reducible assumption)) | go_size)
    rintro e w2 ⟨rfl, hb2⟩
    go_wp2
    go_ret
    exact gives rfl (by repeat' (first | (with_reducible exact Below.refl _ _) | (with_reducible assumption) | (with_reducible refine Below.alloc ?_ ?_ _) | (with_reducible refine Below.setCell ?_ ?_ _) | (with_reducible refine Below.drew ?_) | (with_reducible refine below_drewN ?_ _) | (apply bthen2; (with_reducible assumption)) | go_size))
  · rw [show max (val xs) (val ys) = val xs by omega]
    simp only [if_neg h] at HG
    generalize bl (val xs).toNat = R at *
    clear hx hy rx ry h HB2
    go_enter Tryd.func34, Tryd.ntmps34
    go_wp2_with fail
    refine (HG.out _ ?_ ?_).mono ?_
    · refine Ints.below HX.out ?_; repeat' (first | (with_reducible exact Below.refl _ _) | (with_reducible assumption) | (with_reducible refine Below.alloc ?_ ?_ _) | (with_reducible refine Below.setCell ?_ ?_ _) | (with_reducible refine Below.drew ?_) | (with_reducible refine below_drewN ?_ _) | (apply bthen2; (with_reducible assumption)) | go_size)
    · refine Ints.below HY.out ?_; repeat' (first | (with_reducible exact Below.refl _ _) | (with_reducible assumption) | (with_reducible refine Below.alloc ?_ ?_ _) | (with_reducible refine Below.setCell ?_ ?_ _) | (with_reducible refine Below.drew ?_) | (with_reducible refine below_drewN ?_ _) | (apply bthen2; (with_reducible assumption)) | go_size)
    rintro e w1 ⟨a3, len3, cap3, rfl, ho, hb1⟩
    go_wp2_with fail
    refine (HB1.out _ _ _ _ _ ?_).mono ?_
    · refine Ints.below ho.ints ?_; repeat' (first | (with_reducible exact Below.refl _ _) | (with_reducible assumption) | (with_reducible refine Below.alloc ?_ ?_ _) | (with_reducible refine Below.setCell ?_ ?_ _) | (with_reducible refine Below.drew ?_) | (with_reducible refine below_drewN ?_ _) | (apply bthen2; (with_reducible assumption)) | go_size)
    rintro e w2 ⟨rfl, hb2⟩
    go_wp2
    go_ret
    exact gives rfl (by repeat' (first | (with_reducible exact Below.refl _ _) | (with_reducible assumption) | (with_reducible refine Below.alloc ?_ ?_ _) | (with_reducible refine Below.setCell ?_ ?_ _) | (with_reducible refine Below.drew ?_) | (with_reducible refine below_drewN ?_ _) | (apply bthen2; (with_reducible assumption)) | go_size))

def pbN (x e : Int) : Int := max (max x (-x)) (e * e)
def pbF (x e : Int) : Value := if inB x (-10000) 10000 && inB e 1 20 then .tuple #[.int .i64 (bl (pbN x e).toNat : Nat), .bool true] else .tuple #[.int .i64 0, .bool false]
theorem pb_0 {x e : Int} (h : inB x (-10000) 10000 = false) : pbF x e = .tuple #[.int .i64 0, .bool false] := by unfold pbF; rw [h]; rfl
theorem pb_1 {x e : Int} (h : inB e 1 20 = false) : pbF x e = .tuple #[.int .i64 0, .bool false] := by unfold pbF; rw [h, Bool.and_false]; rfl
theorem pb_2 {x e : Int} (h : inB x (-10000) 10000 = true) (h2 : inB e 1 20 = true) : pbF x e = .tuple #[.int .i64 (bl (pbN x e).toNat : Nat), .bool true] := by unfold pbF; rw [h, h2]; rfl
theorem sq_400 {e : Int} (h1 : 1 ≤ e) (h2 : e ≤ 20) : 1 ≤ e * e ∧ e * e ≤ 400 := by
  have a1 : 1 * 1 ≤ e * e := Int.mul_le_mul h1 h1 (by decide) (by omega)
  have a2 : e * e ≤ 20 * 20 := Int.mul_le_mul h2 h2 (by omega) (by decide)
  omega
theorem PointBits_any (x e : Int) (w : World) : Calls Tryd.prog 16 #[.int .i64 x, .int .i64 e] w (Gives (pbF x e) w) := by
  have HI := Lib.hid (fun w => inside_any x (-10000) 10000 w)
  have HJ := Lib.hid (fun w => inside_any e 1 20 w)
  cases g0 : inB x (-10000) 10000
  · rw [pb_0 g0]
    rw [g0] at HI
    go_enter Tryd.func16, Tryd.ntmps16
    go_wp2_with (first | (go_at_call 25; refine (HI.out _).mono ?_; rintro e w1 ⟨rfl, rfl⟩))
    go_ret2; exact gives rfl (by repeat' (first | (with_reducible exact Below.refl _ _) | (with_reducible assumption) | (with_reducible refine Below.alloc ?_ ?_ _) | (with_reducible refine Below.setCell ?_ ?_ _) | (with_reducible refine Below.drew ?_) | (with_reducible refine below_drewN ?_ _) | (apply bthen2; (with_reducible assumption)) | go_size))
  · rw [g0] at HI
    cases g1 : inB e 1 20
    · rw [pb_1 g1]
      rw [g1] at HJ
      go_enter Tryd.func16, Tryd.ntmps16
      go_wp2_with (first | (go_at_call_of 25 (Value.int IntKind.i64 x); refine (HI.out _).mono ?_; rintro e w1 ⟨rfl, rfl⟩) | (go_at_call_of 25 (Value.int IntKind.i64 e); refine (HJ.out _).mono ?_; rintro e w1 ⟨rfl, rfl⟩))
      go_ret2; exact gives rfl (by repeat' (first | (with_reducible exact Below.refl _ _) | (with_reducible assumption) | (with_reducible refine Below.alloc ?_ ?_ _) | (with_reducible refine Below.setCell ?_ ?_ _) | (with_reducible refine Below.drew ?_) | (with_reducible refine below_drewN ?_ _) | (apply bthen2; (with_reducible assumption)) | go_size))
    · rw [pb_2 g0 g1]
      rw [g1] at HJ
      obtain ⟨x1, x2⟩ := inB_g g0
      obtain ⟨e1, e2⟩ := inB_g g1
      obtain ⟨q1, q2⟩ := sq_400 e1 e2
      unfold pbN
      obtain ⟨E, hE⟩ : ∃ E, e * e = E := ⟨_, rfl⟩
      rw [hE] at q1 q2 ⊢
      have HL := Lib.hid (fun w => Go.Proofs.Tryd.bits_Len (max (max x (-x)) E) w (by omega) (by omega))
      rw [bl_lib (by omega)] at HL
      generalize bl (max (max x (-x)) E).toNat = R at *
      have hm : (if (if x < -x then -x else x) < E then E else if x < -x then -x else x) = max (max x (-x)) E := by split <;> split <;> omega
      rw [← hm] at HL
      clear g0 g1 hm
      go_enter Tryd.func16, Tryd.ntmps16
      go_wp2_with (first | (go_at_call_of 25 (Value.int IntKind.i64 x); refine (HI.out _).mono ?_; rintro e w1 ⟨rfl, rfl⟩) | (go_at_call_of 25 (Value.int IntKind.i64 e); refine (HJ.out _).mono ?_; rintro e w1 ⟨rfl, rfl⟩) | (go_at_call 33; refine (HL.out _).mono ?_; rintro e w9 ⟨rfl, rfl⟩))
      all_goals (go_ret2; exact gives rfl (by repeat' (first | (with_reducible exact Below.refl _ _) | (with_reducible assumption) | (with_reducible refine Below.alloc ?_ ?_ _) | (with_reducible refine Below.setCell ?_ ?_ _) | (with_reducible refine Below.drew ?_) | (with_reducible refine below_drewN ?_ _) | (apply bthen2; (with_reducible assumption)) | go_size)))
theorem sPointBits_any (x e : Int) (w : World) : Calls Tryd.prog 17 #[.int .i64 x, .int .i64 e] w (Gives (pbF x e) w) := by
  have HI := Lib.hid (fun w => l1In_any x (-10000) 10000 w)
  have HJ := Lib.hid (fun w => l1In_any e 1 20 w)
  cases g0 : inB x (-10000) 10000
  · rw [pb_0 g0]
    rw [g0] at HI
    go_enter Tryd.func17, Tryd.ntmps17
    go_wp2_with (first | (go_at_call 28; refine (HI.out _).mono ?_; rintro e w1 ⟨rfl, rfl⟩))
    go_ret2; exact gives rfl (by repeat' (first | (with_reducible exact Below.refl _ _) | (with_reducible assumption) | (with_reducible refine Below.alloc ?_ ?_ _) | (with_reducible refine Below.setCell ?_ ?_ _) | (with_reducible refine Below.drew ?_) | (with_reducible refine below_drewN ?_ _) | (apply bthen2; (with_reducible assumption)) | go_size))
  · rw [g0] at HI
    cases g1 : inB e 1 20
    · rw [pb_1 g1]
      rw [g1] at HJ
      go_enter Tryd.func17, Tryd.ntmps17
      go_wp2_with (first | (go_at_call_of 28 (Value.int IntKind.i64 x); refine (HI.out _).mono ?_; rintro e w1 ⟨rfl, rfl⟩) | (go_at_call_of 28 (Value.int IntKind.i64 e); refine (HJ.out _).mono ?_; rintro e w1 ⟨rfl, rfl⟩))
      go_ret2; exact gives rfl (by repeat' (first | (with_reducible exact Below.refl _ _) | (with_reducible assumption) | (with_reducible refine Below.alloc ?_ ?_ _) | (with_reducible refine Below.setCell ?_ ?_ _) | (with_reducible refine Below.drew ?_) | (with_reducible refine below_drewN ?_ _) | (apply bthen2; (with_reducible assumption)) | go_size))
    · rw [pb_2 g0 g1]
      rw [g1] at HJ
      obtain ⟨x1, x2⟩ := inB_g g0
      obtain ⟨e1, e2⟩ := inB_g g1
      obtain ⟨q1, q2⟩ := sq_400 e1 e2
      unfold pbN
      obtain ⟨E, hE⟩ : ∃ E, e * e = E := ⟨_, rfl⟩
      rw [hE] at q1 q2 ⊢
      have HX := Lib.hid (fun w => bgOf_any x (by omega) (by omega) w)
      have HE := Lib.hid (fun w => bgOf_any E (by omega) (by omega) w)
      have hdx : (dg x.natAbs).length ≤ 1000000 := by have := dg_len x.natAbs (by omega); omega
      have hde : (dg E.natAbs).length ≤ 1000000 := by have := dg_len E.natAbs (by omega); omega
      have HH := Lib.hid (fun n1 n2 a a2 len cap len2 cap2 W h h' => htBits_any n1 n2 a a2 len cap len2 cap2 (dg x.natAbs) (dg E.natAbs) W h h' (can_dg _) (can_dg _) hdx hde)
      rw [val_dg, val_dg, show max (x.natAbs : Int) (E.natAbs : Int) = max (max x (-x)) E by omega] at HH
      generalize bl (max (max x (-x)) E).toNat = R at *
      generalize dg x.natAbs = DX at *
      generalize dg E.natAbs = DE at *
      clear g0 g1
      go_enter Tryd.func17, Tryd.ntmps17
      go_wp2_with (first | (go_at_call_of 28 (Value.int IntKind.i64 x); refine (HI.out _).mono ?_; rintro e w1 ⟨rfl, rfl⟩) | (go_at_call_of 28 (Value.int IntKind.i64 e); refine (HJ.out _).mono ?_; rintro e w1 ⟨rfl, rfl⟩))
      refine (HX.out _).mono ?_
      rintro e wb ⟨a2, len2, cap2, rfl, ho, hbb⟩
      go_wp2_with fail
      refine (HE.out _).mono ?_
      rintro e wc ⟨a3, len3, cap3, rfl, ho3, hbc⟩
      go_wp2_with fail
      refine (HH.out _ _ _ _ _ _ _ _ _ ?_ ?_).mono ?_
      · refine Ints.below ho.ints ?_; repeat' (first | (with_reducible exact Below.refl _ _) | (with_reducible assumption) | (with_reducible refine Below.alloc ?_ ?_ _) | (with_reducible refine Below.setCell ?_ ?_ _) | (with_reducible refine Below.drew ?_) | (with_reducible refine below_drewN ?_ _) | (apply bthen2; (with_reducible assumption)) | go_size)
      · refine Ints.below ho3.ints ?_; repeat' (first | (with_reducible exact Below.refl _ _) | (with_reducible assumption) | (with_reducible refine Below.alloc ?_ ?_ _) | (with_reducible refine Below.setCell ?_ ?_ _) | (with_reducible refine Below.drew ?_) | (with_reducible refine below_drewN ?_ _) | (apply bthen2; (with_reducible assumption)) | go_size)
      rintro e wd ⟨rfl, hbd⟩
      go_wp2
      go_ret2; exact gives rfl (by repeat' (first | (with_reducible exact Below.refl _ _) | (with_reducible assumption) | (with_reducible refine Below.alloc ?_ ?_ _) | (with_reducible refine Below.setCell ?_ ?_ _) | (with_reducible refine Below.drew ?_) | (with_reducible refine below_drewN ?_ _) | (apply bthen2; (with_reducible assumption)) | go_size))


theorem absolute_any (n : Bool) (a : Option Addr) (len cap : Nat) (xs : List Int) (w : World) (hx : Ints w (.slice a len cap) xs) (hn : xs.length ≤ 1048576) : Calls Tryd.prog 39 #[.agg #[.bool n, .slice a len cap]] w (GivesW false (trim xs) w) := by
  have HM := Lib.hid (fun W h => trimmed_any false a len cap xs W h hn)
  rw [show (false && decide (0 < tz xs xs.length)) = false from rfl] at HM
  have HX := Lib.hid hx
  generalize trim xs = T at *
  clear hx hn
  go_enter Tryd.func39, Tryd.ntmps39
  go_wp2_with fail
  refine (HM.out _ ?_).mono ?_
  · refine Ints.below HX.out ?_; repeat' (first | (with_reducible exact Below.refl _ _) | (with_reducible assumption) | (with_reducible refine Below.alloc ?_ ?_ _) | (with_reducible refine Below.setCell ?_ ?_ _) | (with_reducible refine Below.drew ?_) | (with_reducible refine below_drewN ?_ _) | (apply bthen2; (with_reducible assumption)) | go_size)
  rintro e w2 ⟨a3, len3, cap3, rfl, ho, hb2⟩
  have hz2 := hb2.size; (try simp only [World.size_alloc, World.size_setCell, World.size_drew, World.heap_drewN] at hz2); try (refine keepc hb2 (w.heap.size) ?_ ?_; (focus (first | omega | (simp <;> omega))); intro hc2_0 hf2_0 hl2_0); try (refine keepc hb2 (w.heap.size + 1) ?_ ?_; (focus (first | omega | (simp <;> omega))); intro hc2_1 hf2_1 hl2_1); try (refine keepc hb2 (w.heap.size + 1 + 1) ?_ ?_; (focus (first | omega | (simp <;> omega))); intro hc2_2 hf2_2 hl2_2)
  go_wp2_with fail
  refine bodyPost_ret (v := .agg #[.bool false, .slice a3 len3 cap3]) (by simp [results, Tryd.results39, go_sem, hc2_1, hl2_1]) rfl ⟨_, _, _, rfl, ((ho.set (p := ⟨w.heap.size + 1, 0, none⟩) (by simp) _).set (p := ⟨w.heap.size + 1, 1, none⟩) (by simp) _).mono (by simp; omega), (by repeat' (first | (with_reducible exact Below.refl _ _) | (with_reducible assumption) | (with_reducible refine Below.alloc ?_ ?_ _) | (with_reducible refine Below.setCell ?_ ?_ _) | (with_reducible refine Below.drew ?_) | (with_reducible refine below_drewN ?_ _) | (apply bthen2; (with_reducible assumption)) | go_size))⟩

end Go.Proofs.YtfcfjlfobflmaaaDoor
