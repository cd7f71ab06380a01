import Derived.Test.YtelkmldmebdcgaaHgt2
set_option linter.unusedSimpArgs false
set_option linter.unusedVariables false
namespace Go.Proofs.Ytelkmldmebdcgaa
open Go.RowKit
/-! ### heights in bits -/

theorem cmpI_neg {a b : Int} : cmpI a b < 0 ↔ a < b := by
  rcases Int.lt_trichotomy a b with h | h | h
  · rw [cmpI_lt h]; omega
  · rw [cmpI_eq h]; omega
  · rw [cmpI_gt h]; omega
theorem can_sgn {n : Bool} {xs : List Int} (h : Can xs) (hn : n = true → xs ≠ []) : (n && decide (0 < tz xs xs.length)) = n := by
  rw [tz_can h]
  cases n with
  | false => rfl
  | true =>
    have := hn rfl
    have : 0 < xs.length := by
      cases xs with
      | nil => exact absurd rfl this
      | cons x xs => simp
    simpa using this

theorem htGreater_any (n1 n2 : Bool) (a a2 : Option Addr) (len cap len2 cap2 : Nat) (xs ys : List Int) (w : World) (hx : Ints w (.slice a len cap) xs) (hy : Ints w (.slice a2 len2 cap2) ys) (rx : Can xs) (ry : Can ys) (lx : xs.length ≤ 1000000) (ly : ys.length ≤ 1000000) :
    Calls Try.prog 89 #[.agg #[.bool n1, .slice a len cap], .agg #[.bool n2, .slice a2 len2 cap2]] w (if val xs < val ys then GivesW (n2 && decide (0 < tz ys ys.length)) ys w else GivesW (n1 && decide (0 < tz xs xs.length)) xs w) := by
  have HO := Lib.hid (fun W h h' => bgOrder_any (.slice a len cap) (.slice a2 len2 cap2) xs ys W h h' rx.1 ry.1 lx ly)
  have HX := Lib.hid hx; have HY := Lib.hid hy
  by_cases h : val xs < val ys
  · rw [if_pos h]
    have hneg := cmpI_neg.mpr h
    have HM := Lib.hid (fun W h => bgMake_any n2 a2 len2 cap2 ys W h (by omega))
    rw [trim_can ry] at HM
    generalize cmpI (val xs) (val ys) = C at *
    generalize (n2 && decide (0 < tz ys ys.length)) = N at *
    clear hx hy rx ry h
    go_enter Try.func89, Try.ntmps89
    go_wp2_with fail
    refine (HO.out _ ?_ ?_).mono ?_
    · refine Ints.below HX.out ?_; repeat' (first | (with_reducible exact Below.refl _ _) | (with_reducible assumption) | (with_reducible refine Below.alloc ?_ ?_ _) | (with_reducible refine Below.setCell ?_ ?_ _) | (with_reducible refine Below.drew ?_) | (with_reducible refine below_drewN ?_ _) | (apply bthen2; (with_reducible assumption)) | go_size)
    · refine Ints.below HY.out ?_; repeat' (first | (with_reducible exact Below.refl _ _) | (with_reducible assumption) | (with_reducible refine Below.alloc ?_ ?_ _) | (with_reducible refine Below.setCell ?_ ?_ _) | (with_reducible refine Below.drew ?_) | (with_reducible refine below_drewN ?_ _) | (apply bthen2; (with_reducible assumption)) | go_size)
    rintro e w1 ⟨rfl, rfl⟩
    go_wp2_with fail
    refine (HM.out _ ?_).mono ?_
    · refine Ints.below HY.out ?_; repeat' (first | (with_reducible exact Below.refl _ _) | (with_reducible assumption) | (with_reducible refine Below.alloc ?_ ?_ _) | (with_reducible refine Below.setCell ?_ ?_ _) | (with_reducible refine Below.drew ?_) | (with_reducible refine below_drewN ?_ _) | (apply bthen2; (with_reducible assumption)) | go_size)
    rintro e w2 ⟨a3, len3, cap3, rfl, ho, hb2⟩
    have hz2 := hb2.size; (try simp only [World.size_alloc, World.size_setCell, World.size_drew, World.heap_drewN] at hz2); try (refine keepc hb2 (w.heap.size) ?_ ?_; (focus (first | omega | (simp <;> omega))); intro hc2_0 hf2_0 hl2_0); try (refine keepc hb2 (w.heap.size + 1) ?_ ?_; (focus (first | omega | (simp <;> omega))); intro hc2_1 hf2_1 hl2_1); try (refine keepc hb2 (w.heap.size + 1 + 1) ?_ ?_; (focus (first | omega | (simp <;> omega))); intro hc2_2 hf2_2 hl2_2)
    go_wp2_with fail
    refine bodyPost_ret (v := .agg #[.bool N, .slice a3 len3 cap3]) (by simp [results, Try.results89, go_sem, hc2_2, hl2_2]) rfl ⟨_, _, _, rfl, ((ho.set (p := ⟨w.heap.size + 1 + 1, 0, none⟩) (by simp) _).set (p := ⟨w.heap.size + 1 + 1, 1, none⟩) (by simp) _).mono (by simp; omega), (by repeat' (first | (with_reducible exact Below.refl _ _) | (with_reducible assumption) | (with_reducible refine Below.alloc ?_ ?_ _) | (with_reducible refine Below.setCell ?_ ?_ _) | (with_reducible refine Below.drew ?_) | (with_reducible refine below_drewN ?_ _) | (apply bthen2; (with_reducible assumption)) | go_size))⟩
  · rw [if_neg h]
    have hneg : ¬ cmpI (val xs) (val ys) < 0 := fun g => h (cmpI_neg.mp g)
    have HM := Lib.hid (fun W h => bgMake_any n1 a len cap xs W h (by omega))
    rw [trim_can rx] at HM
    generalize cmpI (val xs) (val ys) = C at *
    generalize (n1 && decide (0 < tz xs xs.length)) = N at *
    clear hx hy rx ry h
    go_enter Try.func89, Try.ntmps89
    go_wp2_with fail
    refine (HO.out _ ?_ ?_).mono ?_
    · refine Ints.below HX.out ?_; repeat' (first | (with_reducible exact Below.refl _ _) | (with_reducible assumption) | (with_reducible refine Below.alloc ?_ ?_ _) | (with_reducible refine Below.setCell ?_ ?_ _) | (with_reducible refine Below.drew ?_) | (with_reducible refine below_drewN ?_ _) | (apply bthen2; (with_reducible assumption)) | go_size)
    · refine Ints.below HY.out ?_; repeat' (first | (with_reducible exact Below.refl _ _) | (with_reducible assumption) | (with_reducible refine Below.alloc ?_ ?_ _) | (with_reducible refine Below.setCell ?_ ?_ _) | (with_reducible refine Below.drew ?_) | (with_reducible refine below_drewN ?_ _) | (apply bthen2; (with_reducible assumption)) | go_size)
    rintro e w1 ⟨rfl, rfl⟩
    go_wp2_with fail
    refine (HM.out _ ?_).mono ?_
    · refine Ints.below HX.out ?_; repeat' (first | (with_reducible exact Below.refl _ _) | (with_reducible assumption) | (with_reducible refine Below.alloc ?_ ?_ _) | (with_reducible refine Below.setCell ?_ ?_ _) | (with_reducible refine Below.drew ?_) | (with_reducible refine below_drewN ?_ _) | (apply bthen2; (with_reducible assumption)) | go_size)
    rintro e w2 ⟨a3, len3, cap3, rfl, ho, hb2⟩
    have hz2 := hb2.size; (try simp only [World.size_alloc, World.size_setCell, World.size_drew, World.heap_drewN] at hz2); try (refine keepc hb2 (w.heap.size) ?_ ?_; (focus (first | omega | (simp <;> omega))); intro hc2_0 hf2_0 hl2_0); try (refine keepc hb2 (w.heap.size + 1) ?_ ?_; (focus (first | omega | (simp <;> omega))); intro hc2_1 hf2_1 hl2_1); try (refine keepc hb2 (w.heap.size + 1 + 1) ?_ ?_; (focus (first | omega | (simp <;> omega))); intro hc2_2 hf2_2 hl2_2)
    go_wp2_with fail
    refine bodyPost_ret (v := .agg #[.bool N, .slice a3 len3 cap3]) (by simp [results, Try.results89, go_sem, hc2_2, hl2_2]) rfl ⟨_, _, _, rfl, ((ho.set (p := ⟨w.heap.size + 1 + 1, 0, none⟩) (by simp) _).set (p := ⟨w.heap.size + 1 + 1, 1, none⟩) (by simp) _).mono (by simp; omega), (by repeat' (first | (with_reducible exact Below.refl _ _) | (with_reducible assumption) | (with_reducible refine Below.alloc ?_ ?_ _) | (with_reducible refine Below.setCell ?_ ?_ _) | (with_reducible refine Below.drew ?_) | (with_reducible refine below_drewN ?_ _) | (apply bthen2; (with_reducible assumption)) | go_size))⟩

theorem htBits_any (n1 n2 : Bool) (a a2 : Option Addr) (len cap len2 cap2 : Nat) (xs ys : List Int) (w : World) (hx : Ints w (.slice a len cap) xs) (hy : Ints w (.slice a2 len2 cap2) ys) (rx : Can xs) (ry : Can ys) (lx : xs.length ≤ 1000000) (ly : ys.length ≤ 1000000) :
    Calls Try.prog 91 #[.agg #[.bool n1, .slice a len cap], .agg #[.bool n2, .slice a2 len2 cap2]] w (Gives (.int .i64 (bl (max (val xs) (val ys)).toNat : Nat)) w) := by
  have HG := Lib.hid (fun W h h' => htGreater_any n1 n2 a a2 len cap len2 cap2 xs ys W h h' rx ry lx ly)
  have HX := Lib.hid hx; have HY := Lib.hid hy
  have HB1 := Lib.hid (fun N sa sl sc W h => bgBits_any N sa sl sc xs W h rx.1 lx)
  have HB2 := Lib.hid (fun N sa sl sc W h => bgBits_any N sa sl sc ys W h ry.1 ly)
  by_cases h : val xs < val ys
  · rw [show max (val xs) (val ys) = val ys by omega]
    simp only [if_pos h] at HG
    generalize bl (val ys).toNat = R at *
    clear hx hy rx ry h HB1
    go_enter Try.func91, Try.ntmps91
    go_wp2_with fail
    refine (HG.out _ ?_ ?_).mono ?_
    · refine Ints.below HX.out ?_; repeat' (first | (with_reducible exact Below.refl _ _) | (with_reducible assumption) | (with_reducible refine Below.alloc ?_ ?_ _) | (with_reducible refine Below.setCell ?_ ?_ _) | (with_reducible refine Below.drew ?_) | (with_reducible refine below_drewN ?_ _) | (apply bthen2; (with_reducible assumption)) | go_size)
    · refine Ints.below HY.out ?_; repeat' (first | (with_reducible exact Below.refl _ _) | (with_reducible assumption) | (with_reducible refine Below.alloc ?_ ?_ _) | (with_reducible refine Below.setCell ?_ ?_ _) | (with_reducible refine Below.drew ?_) | (with_reducible refine below_drewN ?_ _) | (apply bthen2; (with_reducible assumption)) | go_size)
    rintro e w1 ⟨a3, len3, cap3, rfl, ho, hb1⟩
    go_wp2_with fail
    refine (HB2.out _ _ _ _ _ ?_).mono ?_
    · refine Ints.below ho.ints ?_; repeat' (first | (with_reducible exact Below.refl _ _) | (with_reducible assumption) | (with_reducible refine Below.alloc ?_ ?_ _) | (with_reducible refine Below.setCell ?_ ?_ _) | (with_reducible refine Below.drew ?_) | (with_reducible refine below_drewN ?_ _) | (apply bthen2; (with_reducible assumption)) | go_size)
    rintro e w2 ⟨rfl, hb2⟩
    go_wp2
    go_ret
    exact gives rfl (by repeat' (first | (with_reducible exact Below.refl _ _) | (with_reducible assumption) | (with_reducible refine Below.alloc ?_ ?_ _) | (with_reducible refine Below.setCell ?_ ?_ _) | (with_reducible refine Below.drew ?_) | (with_reducible refine below_drewN ?_ _) | (apply bthen2; (with_reducible assumption)) | go_size))
  · rw [show max (val xs) (val ys) = val xs by omega]
    simp only [if_neg h] at HG
    generalize bl (val xs).toNat = R at *
    clear hx hy rx ry h HB2
    go_enter Try.func91, Try.ntmps91
    go_wp2_with fail
    refine (HG.out _ ?_ ?_).mono ?_
    · refine Ints.below HX.out ?_; repeat' (first | (with_reducible exact Below.refl _ _) | (with_reducible assumption) | (with_reducible refine Below.alloc ?_ ?_ _) | (with_reducible refine Below.setCell ?_ ?_ _) | (with_reducible refine Below.drew ?_) | (with_reducible refine below_drewN ?_ _) | (apply bthen2; (with_reducible assumption)) | go_size)
    · refine Ints.below HY.out ?_; repeat' (first | (with_reducible exact Below.refl _ _) | (with_reducible assumption) | (with_reducible refine Below.alloc ?_ ?_ _) | (with_reducible refine Below.setCell ?_ ?_ _) | (with_reducible refine Below.drew ?_) | (with_reducible refine below_drewN ?_ _) | (apply bthen2; (with_reducible assumption)) | go_size)
    rintro e w1 ⟨a3, len3, cap3, rfl, ho, hb1⟩
    go_wp2_with fail
    refine (HB1.out _ _ _ _ _ ?_).mono ?_
    · refine Ints.below ho.ints ?_; repeat' (first | (with_reducible exact Below.refl _ _) | (with_reducible assumption) | (with_reducible refine Below.alloc ?_ ?_ _) | (with_reducible refine Below.setCell ?_ ?_ _) | (with_reducible refine Below.drew ?_) | (with_reducible refine below_drewN ?_ _) | (apply bthen2; (with_reducible assumption)) | go_size)
    rintro e w2 ⟨rfl, hb2⟩
    go_wp2
    go_ret
    exact gives rfl (by repeat' (first | (with_reducible exact Below.refl _ _) | (with_reducible assumption) | (with_reducible refine Below.alloc ?_ ?_ _) | (with_reducible refine Below.setCell ?_ ?_ _) | (with_reducible refine Below.drew ?_) | (with_reducible refine below_drewN ?_ _) | (apply bthen2; (with_reducible assumption)) | go_size))

set_option maxRecDepth 100000 in
theorem divWhole_any (a : Option Addr) (len cap : Nat) (xs : List Int) (n : Int) (w : World) (hx : Ints w (.slice a len cap) xs) (hr : InR xs) (hl : xs.length ≤ 1000000) (hn : 0 < n) (hn2 : n ≤ 1000000000000) :
    Calls Try.prog 119 #[.agg #[.bool false, .slice a len cap], .int .i64 n] w (GivesWI false (dg ((val xs).toNat / n.toNat)) (val xs % n) w) := by
  obtain ⟨h1, h2, h3⟩ := hx.cell
  obtain ⟨i0, hi, hz0, hz1, hz2⟩ := info_parts infoInt
  have hb8 : i0.bytes * len ≤ 281474976710656 := by rw [hz2]; omega
  have hml : len ≤ maxLen := by unfold maxLen; omega
  have hq := qd_spec hn hr
  have HL := Lib.hid (qd_len n xs)
  rw [← hq.2, ← hq.1]
  have HC := Lib.hid h3
  have HR := Lib.hid (fun k (h : k < len) => hr (xs.getD k 0) (by
    have hk : k < xs.length := by omega
    simp only [List.getD, List.getElem?_eq_getElem hk, Option.getD_some]; exact List.getElem_mem _))
  have HQ := Lib.hid (fun l => qd_rest hn l)
  have HD := Lib.hid (fun k h => qd_drop n xs k h)
  have HS := Lib.hid (fun k h => rowQ_set n xs k h)
  have HLN := Lib.hid (fun k h => rowQ_len n xs k h)
  have e0 := rowQ_all n xs
  rw [h1] at e0
  have E0 := Lib.hid e0
  have hqa : rowQ n xs 0 = (qd n xs).1.map (Value.int .i64) := by simp [rowQ]
  have HQA := Lib.hid hqa
  have hH1 := Lib.hid h1
  have hll : len ≤ 1000000 := by omega
  clear hq hr h3 e0 hqa hx h1 hl
  go_enter Try.func119, Try.ntmps119
  go_wp2_with (first | (at_make; refine wpList_make_full _ rfl _ _ 32 rfl (w.heap.size + 1 + 1) 3 i0 (.int .i64 0) 1 Try.underlying32 hi hz0 hz1 .i64 .i64 _ _ len rfl rfl rfl rfl hb8 hml (by simp) ?_; intro w1 hown hgrow; have hB0 := (Below.refl (w.heap.size + 1 + 1) _).grown hgrow (by simp) (fun k h => by cases h); have hS1 := World.ownsRow.lt hown; (simp only [World.size_alloc] at hS1); have p0 : w1.cell? ⟨w.heap.size, 0, none⟩ = some (.bool false) := (hB0.cell (p := ⟨w.heap.size, 0, none⟩) (by simp; omega)).trans (by simp [go_sem]); have p1 : w1.cell? ⟨w.heap.size, 1, none⟩ = some (.slice a len cap) := (hB0.cell (p := ⟨w.heap.size, 1, none⟩) (by simp; omega)).trans (by simp [go_sem]); have p2 : w1.cell? ⟨w.heap.size + 1, 0, none⟩ = some (.bool false) := (hB0.cell (p := ⟨w.heap.size + 1, 0, none⟩) (by simp)).trans (by simp [go_sem]); have p3 : w1.cell? ⟨w.heap.size + 1, 1, none⟩ = some (.slice none 0 0) := (hB0.cell (p := ⟨w.heap.size + 1, 1, none⟩) (by simp)).trans (by simp [go_sem]); have p4 : ∀ o, w1.frozen? ⟨w.heap.size + 1, o, none⟩ = false := fun o => (hB0.frozen (p := ⟨w.heap.size + 1, o, none⟩) (by simp)).trans (by simp [go_sem]); have hB1 : Below w.heap.size w w1 := (show Below w.heap.size w ((w.alloc (Obj.cells #[Value.bool false, Value.slice a len cap] 57)).alloc (Obj.cells #[Value.bool false, Value.slice none 0 0] 57)) from (by repeat' (first | (with_reducible exact Below.refl _ _) | (with_reducible assumption) | (with_reducible refine Below.alloc ?_ ?_ _) | (with_reducible refine Below.setCell ?_ ?_ _) | (with_reducible refine Below.drew ?_) | (with_reducible refine below_drewN ?_ _) | (apply bthen2; (with_reducible assumption)) | go_size))).trans (hB0.mono (by omega))))
  have hown0 : w1.ownsRow (w.heap.size + 1 + 1) 3 1 (.slice (some ⟨w.heap.size + 1 + 1, 0, none⟩) len len) len (rowQ n xs len) := by
    rw [E0.out]
    have : (madeCells (Value.int IntKind.i64 0).cells (len * 1)).toList = List.replicate len (.int .i64 0) := by rw [Nat.mul_one]; exact toList_madeCells_one _ _
    rw [← this]
    simpa using hown
  have HOWN0 := Lib.hid hown0
  clear hown hown0 hgrow hb8 hz0 hz1 hz2 hi hB0 E0
  have hq0 : (qd n (xs.drop len)).2 = 0 := by rw [← hH1.out, List.drop_length]; rfl
  go_loopw [7, 8] (fun v7 v8 wr => ∃ k : Nat, k ≤ len ∧ v8 = .int .i64 ((k : Int) - 1) ∧ v7 = .int .i64 (qd n (xs.drop k)).2 ∧ Hid (wr.ownsRow (w.heap.size + 1 + 1) 3 1 (.slice (some ⟨w.heap.size + 1 + 1, 0, none⟩) len len) len (rowQ n xs k)) ∧ Below (w.heap.size + 1 + 1) w1 wr) (fun _ v8 _ => (intOf v8 + 1).toNat)
  case atStart => exact ⟨len, Nat.le_refl _, rfl, by rw [hq0], HOWN0.out, Below.refl _ _⟩
  case round =>
    obtain ⟨k, hk, rfl, rfl, hown, hbw⟩ := hrel
    have hz := hbw.size
    have q0 := (hbw.cell (p := ⟨w.heap.size, 0, none⟩) (by simp; omega)).trans p0
    have q1 := (hbw.cell (p := ⟨w.heap.size, 1, none⟩) (by simp; omega)).trans p1
    have q2 := (hbw.cell (p := ⟨w.heap.size + 1, 0, none⟩) (by simp)).trans p2
    have q3 := (hbw.cell (p := ⟨w.heap.size + 1, 1, none⟩) (by simp)).trans p3
    have q4 := fun o => (hbw.frozen (p := ⟨w.heap.size + 1, o, none⟩) (by simp)).trans (p4 o)
    have hB2 : Below w.heap.size w wr := hB1.trans (hbw.mono (by omega))
    cases k with
    | zero =>
      have ho : Own wr (w.heap.size + 1 + 1) (.slice (some ⟨w.heap.size + 1 + 1, 0, none⟩) len len) (qd n xs).1 := by
        unfold Own
        rw [HL.out, hH1.out, ← HQA.out]
        exact hown.out
      have hlq : (qd n xs).1.length ≤ 1048576 := by rw [HL.out, hH1.out]; omega
      have HB := Lib.hid (fun W h => trimmed_any false (some ⟨w.heap.size + 1 + 1, 0, none⟩) len len (qd n xs).1 W h hlq)
      have e1 : qd n (xs.drop 0) = qd n xs := by rw [List.drop_zero]
      rw [e1]
      generalize trim (qd n xs).1 = T at *
      generalize (qd n xs).2 = R at *
      clear HL HQ HD HS HLN HR HC HQA hown e1
      have g0 : w.heap.size < wr.heap.size := by omega
      have g1 : w.heap.size + 1 < wr.heap.size := by omega
      go_wp2_with fail
      refine (HB.out _ ?_).mono ?_
      · refine Ints.below ho.ints ?_; repeat' (first | (with_reducible exact Below.refl _ _) | (with_reducible assumption) | (with_reducible refine Below.alloc ?_ ?_ _) | (with_reducible refine Below.setCell ?_ ?_ _) | (with_reducible refine Below.drew ?_) | (with_reducible refine below_drewN ?_ _) | (apply bthen2; (with_reducible assumption)) | go_size)
      rintro e wb ⟨a2, len2, cap2, rfl, ho2, hbb⟩
      rw [show (false && decide (0 < tz (qd n xs).1 (qd n xs).1.length)) = false from rfl]
      clear HB ho
      have hzb := hbb.size; (try simp only [World.size_alloc, World.size_setCell, World.size_drew, World.heap_drewN] at hzb); try (refine keepc hbb (w.heap.size) ?_ ?_; (focus (first | omega | (simp <;> omega))); intro hcb_0 hfb_0 hlb_0); try (refine keepc hbb (w.heap.size + 1) ?_ ?_; (focus (first | omega | (simp <;> omega))); intro hcb_1 hfb_1 hlb_1); try (refine keepc hbb (w.heap.size + 1 + 1) ?_ ?_; (focus (first | omega | (simp <;> omega))); intro hcb_2 hfb_2 hlb_2)
      go_wp2_with fail
      refine bodyPost_ret (v := .tuple #[.agg #[.bool false, .slice a2 len2 cap2], .int .i64 R]) (by simp [results, Try.results119, go_sem, hcb_1, q2, q3, hlb_1]) rfl ⟨_, _, _, rfl, (((ho2.set (p := ⟨w.heap.size + 1, 0, none⟩) (by show w.heap.size + 1 < wr.heap.size; omega) _).set (p := ⟨w.heap.size + 1, 1, none⟩) (by show w.heap.size + 1 < wr.heap.size; omega) _).alloc _).mono (by omega), (by repeat' (first | (with_reducible exact Below.refl _ _) | (with_reducible assumption) | (with_reducible refine Below.alloc ?_ ?_ _) | (with_reducible refine Below.setCell ?_ ?_ _) | (with_reducible refine Below.drew ?_) | (with_reducible refine below_drewN ?_ _) | (apply bthen2; (with_reducible assumption)) | go_size))⟩
    | succ k =>
      obtain ⟨b, off, ha, hbl, hc⟩ := HC.out k (by omega)
      subst ha
      have c1 : wr.cell? ⟨b, off + k, none⟩ = some (.int .i64 (xs.getD k 0)) := (hB2.cell (p := ⟨b, off + k, none⟩) hbl).trans hc
      have c2 := World.ownsRow.cellAt hown.out k (by omega)
      have c3 := World.ownsRow.frozenAt hown.out k
      have hx1 := hH1.out
      have c4 : ∃ v, (rowQ n xs (k + 1))[k]? = some v := by
        have h1 := HLN.out (k + 1) (by omega)
        have : k < (rowQ n xs (k + 1)).length := by omega
        exact ⟨_, List.getElem?_eq_getElem this⟩
      obtain ⟨v, hv⟩ := c4
      rw [hv] at c2
      have hs := World.ownsRow.stored hown.out k (.int .i64 (((qd n (xs.drop (k + 1))).2 * 10000 + xs.getD k 0) / n))
      rw [HS.out k (by omega)] at hs
      have hd := congrArg Prod.snd (HD.out k (by omega))
      simp only at hd
      obtain ⟨r1, r2⟩ := HQ.out (xs.drop (k + 1))
      obtain ⟨x1, x2⟩ := HR.out k (by omega)
      have HSS := Lib.hid hs
      have HDD := Lib.hid hd
      have hnz : n ≠ 0 := by omega
      have e0 : ((k + 1 : Nat) : Int) - 1 = (k : Int) := by omega
      rw [e0]
      clear hs hd hv hc hx1
      generalize (qd n (xs.drop (k + 1))).2 = R at *
      generalize xs.getD k 0 = X at *
      have hr3 : 0 ≤ R * 10000 + X := by omega
      have hr4 : R * 10000 + X ≤ 10000000000009999 := by omega
      go_wp2_with fail
      go_roundw
      case rel => exact ⟨k, by omega, rfl, by rw [HDD.out], HSS.out.1, hbw.grown (row := some (w.heap.size + 1 + 1)) HSS.out.2 (by omega) (fun j hj => by cases hj; exact Nat.le_refl _)⟩
      case measure => first | (simp [intOf]; done) | (simp [intOf]; omega)

theorem absolute_any (n : Bool) (a : Option Addr) (len cap : Nat) (xs : List Int) (w : World) (hx : Ints w (.slice a len cap) xs) (hn : xs.length ≤ 1048576) : Calls Try.prog 118 #[.agg #[.bool n, .slice a len cap]] w (GivesW false (trim xs) w) := by
  have HM := Lib.hid (fun W h => trimmed_any false a len cap xs W h hn)
  rw [show (false && decide (0 < tz xs xs.length)) = false from rfl] at HM
  have HX := Lib.hid hx
  generalize trim xs = T at *
  clear hx hn
  go_enter Try.func118, Try.ntmps118
  go_wp2_with fail
  refine (HM.out _ ?_).mono ?_
  · refine Ints.below HX.out ?_; repeat' (first | (with_reducible exact Below.refl _ _) | (with_reducible assumption) | (with_reducible refine Below.alloc ?_ ?_ _) | (with_reducible refine Below.setCell ?_ ?_ _) | (with_reducible refine Below.drew ?_) | (with_reducible refine below_drewN ?_ _) | (apply bthen2; (with_reducible assumption)) | go_size)
  rintro e w2 ⟨a3, len3, cap3, rfl, ho, hb2⟩
  have hz2 := hb2.size; (try simp only [World.size_alloc, World.size_setCell, World.size_drew, World.heap_drewN] at hz2); try (refine keepc hb2 (w.heap.size) ?_ ?_; (focus (first | omega | (simp <;> omega))); intro hc2_0 hf2_0 hl2_0); try (refine keepc hb2 (w.heap.size + 1) ?_ ?_; (focus (first | omega | (simp <;> omega))); intro hc2_1 hf2_1 hl2_1); try (refine keepc hb2 (w.heap.size + 1 + 1) ?_ ?_; (focus (first | omega | (simp <;> omega))); intro hc2_2 hf2_2 hl2_2)
  go_wp2_with fail
  refine bodyPost_ret (v := .agg #[.bool false, .slice a3 len3 cap3]) (by simp [results, Try.results118, go_sem, hc2_1, hl2_1]) rfl ⟨_, _, _, rfl, ((ho.set (p := ⟨w.heap.size + 1, 0, none⟩) (by simp) _).set (p := ⟨w.heap.size + 1, 1, none⟩) (by simp) _).mono (by simp; omega), (by repeat' (first | (with_reducible exact Below.refl _ _) | (with_reducible assumption) | (with_reducible refine Below.alloc ?_ ?_ _) | (with_reducible refine Below.setCell ?_ ?_ _) | (with_reducible refine Below.drew ?_) | (with_reducible refine below_drewN ?_ _) | (apply bthen2; (with_reducible assumption)) | go_size))⟩

theorem val_drop (xs : List Int) (k : Nat) (h : k < xs.length) : val (xs.drop k) = xs.getD k 0 + 10000 * val (xs.drop (k + 1)) := by
  rw [List.drop_eq_getElem_cons h]
  simp [val, List.getD, List.getElem?_eq_getElem h]
theorem val_rng {xs : List Int} (h : InR xs) (hl : xs.length ≤ 2) (k : Nat) : 0 ≤ val (xs.drop k) ∧ val (xs.drop k) < 100000000 := by
  have hr : InR (xs.drop k) := fun x hx => h x (List.mem_of_mem_drop hx)
  refine ⟨val_nonneg hr, ?_⟩
  have h1 := val_lt hr
  have h2 : (xs.drop k).length ≤ 2 := by rw [List.length_drop]; omega
  have h3 : (10000 : Int) ^ (xs.drop k).length ≤ 100000000 := by
    generalize (xs.drop k).length = n at *
    match n, h2 with
    | 0, _ => decide
    | 1, _ => decide
    | 2, _ => decide
  omega
set_option maxRecDepth 100000 in
set_option maxHeartbeats 1000000 in
theorem bitLength_any (neg : Bool) (a : Option Addr) (len cap : Nat) (xs : List Int) (w : World) (hx : Ints w (.slice a len cap) xs) (hr : InR xs) (hl : xs.length ≤ 1000000) :
    Calls Try.prog 90 #[.agg #[.bool neg, .slice a len cap]] w (Gives (.int .i64 (bl (val xs).toNat : Nat)) w) := by
  have HMk := Lib.hid (fun W h => absolute_any neg a len cap xs W h (by omega))
  have hT := trim_dg hr
  have hdl : (dg (val xs).toNat).length ≤ 1000000 := by
    rw [← hT]; unfold trim; rw [List.length_take]; omega
  rw [hT] at HMk
  have hbl := bl_dg (val xs).toNat
  have HX := Lib.hid hx
  clear hT hx hr hl
  generalize (val xs).toNat = M at *
  have HLM := Lib.hid (fun (m : Nat) (h : m ≤ M) => dg_mono h hdl)
  have hR14 : bl M ≤ 14000000 := by omega
  obtain ⟨R, hR⟩ : ∃ R, bl M = R := ⟨_, rfl⟩
  have HR := Lib.hid hR
  rw [hR] at hR14 ⊢
  have HO := Lib.hid (show ∀ (m : Nat) (hm : (dg m).length ≤ 1000000) sa sl sc W (h : Ints W (.slice sa sl sc) (dg m)), Calls Try.prog 119 #[.agg #[.bool false, .slice sa sl sc], .int .i64 67108864] W (GivesWI false (dg (m / 67108864)) ((m : Int) % 67108864) W) from fun m hm sa sl sc W h => by
    have := divWhole_any sa sl sc (dg m) 67108864 W h (inR_dg m) hm (by decide) (by decide)
    rw [val_dg] at this
    exact this)
  clear hbl hdl hR
  go_enter Try.func90, Try.ntmps90
  go_wp2_with fail
  refine (HMk.out _ ?_).mono ?_
  · refine Ints.below HX.out ?_; repeat' (first | (with_reducible exact Below.refl _ _) | (with_reducible assumption) | (with_reducible refine Below.alloc ?_ ?_ _) | (with_reducible refine Below.setCell ?_ ?_ _) | (with_reducible refine Below.drew ?_) | (with_reducible refine below_drewN ?_ _) | (apply bthen2; (with_reducible assumption)) | go_size)
  rintro e wb ⟨a2, len2, cap2, rfl, ho, hbb⟩
  have hzb := hbb.size; (try simp only [World.size_alloc, World.size_setCell, World.size_drew, World.heap_drewN] at hzb); try (refine keepc hbb (w.heap.size) ?_ ?_; (focus (first | omega | (simp <;> omega))); intro hcb_0 hfb_0 hlb_0); try (refine keepc hbb (w.heap.size + 1) ?_ ?_; (focus (first | omega | (simp <;> omega))); intro hcb_1 hfb_1 hlb_1); try (refine keepc hbb (w.heap.size + 1 + 1) ?_ ?_; (focus (first | omega | (simp <;> omega))); intro hcb_2 hfb_2 hlb_2)
  go_wp2_with fail
  refine name_world (fun W1 hW1 => ?_)
  obtain ⟨B4, hB4⟩ : ∃ B4, w.heap.size = B4 := ⟨_, rfl⟩
  have i1 : W1.cell? ⟨B4, 0, none⟩ = some (.bool false) := by subst hW1; subst hB4; simp [hcb_0, hlb_0, go_sem]
  have i2 : W1.cell? ⟨B4, 1, none⟩ = some (.slice a2 len2 cap2) := by subst hW1; subst hB4; simp [hcb_0, hlb_0, go_sem]
  have i3 : ∀ o, W1.frozen? ⟨B4, o, none⟩ = false := by subst hW1; subst hB4; intro o; simp [hfb_0, go_sem]
  have i4 : B4 < W1.heap.size := by subst hW1; subst hB4; simp; omega
  have i5 : Ints W1 (.slice a2 len2 cap2) (dg M) := by
    subst hW1
    exact ((ho.set (p := ⟨w.heap.size, 0, none⟩) (by simp) _).set (p := ⟨w.heap.size, 1, none⟩) (by simp) _).ints
  have i6 : Below w.heap.size w W1 := by subst hW1; exact (by repeat' (first | (with_reducible exact Below.refl _ _) | (with_reducible assumption) | (with_reducible refine Below.alloc ?_ ?_ _) | (with_reducible refine Below.setCell ?_ ?_ _) | (with_reducible refine Below.drew ?_) | (with_reducible refine below_drewN ?_ _) | (apply bthen2; (with_reducible assumption)) | go_size))
  have i7 : w.heap.size ≤ B4 := by omega
  rw [hB4]
  clear hW1 ho hbb hzb hlb_0 hcb_0 hfb_0 HMk HX
  go_loopw [3] (fun v3 wr => ∃ (s m : Nat) (sa : Option Addr) (sl sc : Nat), v3 = .int .i64 s ∧ s + bl m = R ∧ m ≤ M ∧ wr.cell? ⟨B4, 0, none⟩ = some (.bool false) ∧ wr.cell? ⟨B4, 1, none⟩ = some (.slice sa sl sc) ∧ (∀ o, wr.frozen? ⟨B4, o, none⟩ = false) ∧ B4 < wr.heap.size ∧ Ints wr (.slice sa sl sc) (dg m) ∧ Below w.heap.size w wr) (fun v3 _ => R - (intOf v3).toNat)
  case atStart => exact ⟨0, M, _, _, _, rfl, by rw [HR.out]; omega, Nat.le_refl _, i1, i2, i3, i4, i5, i6⟩
  case round =>
    clear i1 i2 i3 i4 i5 i6
    obtain ⟨s, m, sa, sl, sc, rfl, hs, hm, j1, j2, j3, j4, hI, hbw⟩ := hrel
    have hlen := HLM.out m hm
    obtain ⟨hsl, hsl2, hcells⟩ := hI.cell
    by_cases hlt : 2 < sl
    · have h4 : 100000000 ≤ m := by
        have h9 : ¬ (dg m).length ≤ 2 := by omega
        rw [dg_len_iff] at h9
        omega
      have hsh := bl_shift 26 m (by omega)
      rw [show (2 : Nat) ^ 26 = 67108864 from rfl] at hsh
      have hsz : s + 26 + bl (m / 67108864) = R := by rw [hsh] at hs; omega
      have HSZ := Lib.hid hsz
      have HI := Lib.hid hI
      have hr0 : 0 ≤ (m : Int) % 67108864 := by omega
      have hO := Lib.hid (HO.out m hlen)
      have hs12 : s + 26 ≤ R := by omega
      generalize (m : Int) % 67108864 = RR at *
      clear hsh hsz hI hsl hs hr0 hlen hcells
      go_wp2_with fail
      refine (hO.out _ _ _ _ ?_).mono ?_
      · refine Ints.below HI.out ?_; repeat' (first | (with_reducible exact Below.refl _ _) | (with_reducible assumption) | (with_reducible refine Below.alloc ?_ ?_ _) | (with_reducible refine Below.setCell ?_ ?_ _) | (with_reducible refine Below.drew ?_) | (with_reducible refine below_drewN ?_ _) | (apply bthen2; (with_reducible assumption)) | go_size)
      rintro e wc ⟨a3, len3, cap3, rfl, ho3, hbc⟩
      (refine keepc hbc (B4) ?_ ?_; (focus (first | omega | (simp; done) | (simp; omega))); intro hcc_x hfc_x hlc_x)
      have hzc := hbc.size
      clear hO HI
      go_wp2_with fail
      go_roundw
      case rel => exact ⟨s + 26, m / 67108864, a3, len3, cap3, by go_num, HSZ.out, by omega, by simp [hcc_x, j1, hlc_x, go_sem], by simp [hcc_x, j2, hlc_x, go_sem], by intro o; simp [hfc_x, j3, go_sem], by simp; omega, ((ho3.set (p := ⟨B4, 0, none⟩) (by show B4 < wr.heap.size; omega) _).set (p := ⟨B4, 1, none⟩) (by show B4 < wr.heap.size; omega) _).ints, (by repeat' (first | (with_reducible exact Below.refl _ _) | (with_reducible assumption) | (with_reducible refine Below.alloc ?_ ?_ _) | (with_reducible refine Below.setCell ?_ ?_ _) | (with_reducible refine Below.drew ?_) | (with_reducible refine below_drewN ?_ _) | (apply bthen2; (with_reducible assumption)) | go_size))⟩
      case measure => simp [intOf]; omega
    · have HV := Lib.hid (val_rng (inR_dg m) (by omega))
      have HD := Lib.hid (fun k h => val_drop (dg m) k h)
      have HCC := Lib.hid hcells
      have hdl : (dg m).drop sl = [] := List.drop_eq_nil_of_le (by omega)
      have hm0 : val ((dg m).drop 0) = m := by rw [List.drop_zero, val_dg]
      have HM0 := Lib.hid hm0
      have HDL := Lib.hid hdl
      have HSL := Lib.hid hsl
      have hm8 : m < 100000000 := by have := (HV.out 0).2; rw [hm0] at this; omega
      have HS := Lib.hid hs
      have HXR := Lib.hid (fun k (h : k < sl) => inR_dg m ((dg m).getD k 0) (by
        have hk : k < (dg m).length := by omega
        simp only [List.getD, List.getElem?_eq_getElem hk, Option.getD_some]; exact List.getElem_mem _))
      clear hs HO hI hsl hlen hm0 hdl hcells
      go_wp2_with fail
      go_loop [4, 5] (fun v4 v5 => ∃ k : Nat, k ≤ sl ∧ v4 = .int .i64 (val ((dg m).drop k)) ∧ v5 = .int .i64 ((k : Int) - 1)) (fun _ v5 => (intOf v5 + 1).toNat)
      case atStart => exact ⟨sl, Nat.le_refl _, by rw [HDL.out]; rfl, rfl⟩
      case round =>
        obtain ⟨k, hk, rfl, rfl⟩ := hrel
        cases k with
        | zero =>
          rw [HM0.out]
          clear HV HD HCC HDL HSL HXR
          by_cases h0 : m = 0
          · subst h0
            have e : s = R := by have := HS.out; rw [bl_zero] at this; omega
            subst e
            clear HS HLM HR HM0
            go_wp2_with fail
            go_ret
            exact gives rfl (by repeat' (first | (with_reducible exact Below.refl _ _) | (with_reducible assumption) | (with_reducible refine Below.alloc ?_ ?_ _) | (with_reducible refine Below.setCell ?_ ?_ _) | (with_reducible refine Below.drew ?_) | (with_reducible refine below_drewN ?_ _) | (apply bthen2; (with_reducible assumption)) | go_size))
          · have HLn := Lib.hid (fun w => Go.Proofs.Try.bits_Len (m : Int) w (by omega) (by omega))
            rw [show ((m : Int)).toNat = m from rfl, bl_lib (by omega)] at HLn
            have hsum := HS.out
            have hmp : ¬ (m : Int) = 0 := by omega
            clear HS HLM HR HM0
            generalize bl m = L at *
            have e : R = s + L := hsum.symm
            subst e
            go_wp2_with (first | (go_at_call 120; refine (HLn.out _).mono ?_; rintro e w9 ⟨rfl, rfl⟩))
            go_ret
            exact gives (vint (by omega)) (by repeat' (first | (with_reducible exact Below.refl _ _) | (with_reducible assumption) | (with_reducible refine Below.alloc ?_ ?_ _) | (with_reducible refine Below.setCell ?_ ?_ _) | (with_reducible refine Below.drew ?_) | (with_reducible refine below_drewN ?_ _) | (apply bthen2; (with_reducible assumption)) | go_size))
        | succ k =>
          obtain ⟨b, off, ha, hbl, hc⟩ := HCC.out k (by omega)
          subst ha
          obtain ⟨v1, v2⟩ := HV.out (k + 1)
          obtain ⟨v3, v4⟩ := HV.out k
          have hd := HD.out k (by have := HSL.out; omega)
          obtain ⟨x1, x2⟩ := HXR.out k (by omega)
          have e0 : ((k + 1 : Nat) : Int) - 1 = (k : Int) := by omega
          rw [e0]
          have HDk := Lib.hid hd
          rw [hd] at v3 v4
          clear hd e0
          generalize (dg m).getD k 0 = X at *
          generalize val ((dg m).drop (k + 1)) = V at *
          go_wp2_with fail
          go_round
          case rel => exact ⟨k, by omega, by rw [HDk.out]; exact vint (by omega), rfl⟩
          case measure => first | (simp [intOf]; done) | (simp [intOf]; omega)

end Go.Proofs.Ytelkmldmebdcgaa
