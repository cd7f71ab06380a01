import Derived.Test.YtfcfjlfobflmaaaDoorQd
set_option linter.unusedSimpArgs false
set_option linter.unusedVariables false
namespace Go.Proofs.YtfcfjlfobflmaaaDoor
open Go.RowKit
/-! ### division of wholes by numbers -/

/-- The call hands back a whole of its own and a number. -/
def GivesWI (neg : Bool) (xs : List Int) (r : Int) (w : World) (e : Ending) (w' : World) : Prop := ∃ a len cap, e = .returned (.tuple #[.agg #[.bool neg, .slice a len cap], .int .i64 r]) ∧ Own w' w.heap.size (.slice a len cap) xs ∧ Below w.heap.size w w'
set_option maxHeartbeats 1000000 in
set_option maxRecDepth 100000 in
theorem bgOver_any (a : Option Addr) (len cap : Nat) (xs : List Int) (n : Int) (w : World) (hx : Ints w (.slice a len cap) xs) (hr : InR xs) (hl : xs.length ≤ 1000000) (hn : 0 < n) (hn2 : n ≤ 1000000000000) :
    Calls Tryd.prog 63 #[.agg #[.bool false, .slice a len cap], .int .i64 n] w (GivesWI false (dg ((val xs).toNat / n.toNat)) (val xs % n) w) := by
  obtain ⟨h1, h2, h3⟩ := hx.cell
  obtain ⟨i0, hi, hz0, hz1, hz2⟩ := info_parts infoInt
  have hb8 : i0.bytes * len ≤ 281474976710656 := by rw [hz2]; omega
  have hml : len ≤ maxLen := by unfold maxLen; omega
  have hq := qd_spec hn hr
  have HL := Lib.hid (qd_len n xs)
  rw [← hq.2, ← hq.1]
  have HC := Lib.hid h3
  have HR := Lib.hid (fun k (h : k < len) => hr (xs.getD k 0) (by
    have hk : k < xs.length := by omega
    simp only [List.getD, List.getElem?_eq_getElem hk, Option.getD_some]; exact List.getElem_mem _))
  have HQ := Lib.hid (fun l => qd_rest hn l)
  have HD := Lib.hid (fun k h => qd_drop n xs k h)
  have HS := Lib.hid (fun k h => rowQ_set n xs k h)
  have HLN := Lib.hid (fun k h => rowQ_len n xs k h)
  have e0 := rowQ_all n xs
  rw [h1] at e0
  have E0 := Lib.hid e0
  have hqa : rowQ n xs 0 = (qd n xs).1.map (Value.int .i64) := by simp [rowQ]
  have HQA := Lib.hid hqa
  have hH1 := Lib.hid h1
  have hll : len ≤ 1000000 := by omega
  clear hq hr h3 e0 hqa hx h1 hl
  go_enter Tryd.func63, Tryd.ntmps63
  go_wp2_with (first | (at_make; refine wpList_make_full _ rfl _ _ 38 rfl (w.heap.size + 1 + 1) 3 i0 (.int .i64 0) 1 Tryd.underlying38 hi hz0 hz1 .i64 .i64 _ _ len rfl rfl rfl rfl hb8 hml (by simp) ?_; intro w1 hown hgrow; have hB0 := (Below.refl (w.heap.size + 1 + 1) _).grown hgrow (by simp) (fun k h => by cases h); have hS1 := World.ownsRow.lt hown; (simp only [World.size_alloc] at hS1); have p0 : w1.cell? ⟨w.heap.size, 0, none⟩ = some (.bool false) := (hB0.cell (p := ⟨w.heap.size, 0, none⟩) (by simp; omega)).trans (by simp [go_sem]); have p1 : w1.cell? ⟨w.heap.size, 1, none⟩ = some (.slice a len cap) := (hB0.cell (p := ⟨w.heap.size, 1, none⟩) (by simp; omega)).trans (by simp [go_sem]); have p2 : w1.cell? ⟨w.heap.size + 1, 0, none⟩ = some (.bool false) := (hB0.cell (p := ⟨w.heap.size + 1, 0, none⟩) (by simp)).trans (by simp [go_sem]); have p3 : w1.cell? ⟨w.heap.size + 1, 1, none⟩ = some (.slice none 0 0) := (hB0.cell (p := ⟨w.heap.size + 1, 1, none⟩) (by simp)).trans (by simp [go_sem]); have p4 : ∀ o, w1.frozen? ⟨w.heap.size + 1, o, none⟩ = false := fun o => (hB0.frozen (p := ⟨w.heap.size + 1, o, none⟩) (by simp)).trans (by simp [go_sem]); have hB1 : Below w.heap.size w w1 := (show Below w.heap.size w ((w.alloc (Obj.cells #[Value.bool false, Value.slice a len cap] 40)).alloc (Obj.cells #[Value.bool false, Value.slice none 0 0] 40)) from (by repeat' (first | (with_reducible exact Below.refl _ _) | (with_reducible assumption) | (with_reducible refine Below.alloc ?_ ?_ _) | (with_reducible refine Below.setCell ?_ ?_ _) | (with_reducible refine Below.drew ?_) | (with_reducible refine below_drewN ?_ _) | (apply bthen2; (with_reducible assumption)) | go_size))).trans (hB0.mono (by omega))))
  have hown0 : w1.ownsRow (w.heap.size + 1 + 1) 3 1 (.slice (some ⟨w.heap.size + 1 + 1, 0, none⟩) len len) len (rowQ n xs len) := by
    rw [E0.out]
    have : (madeCells (Value.int IntKind.i64 0).cells (len * 1)).toList = List.replicate len (.int .i64 0) := by rw [Nat.mul_one]; exact toList_madeCells_one _ _
    rw [← this]
    simpa using hown
  have HOWN0 := Lib.hid hown0
  clear hown hown0 hgrow hb8 hz0 hz1 hz2 hi hB0 E0
  have hq0 : (qd n (xs.drop len)).2 = 0 := by rw [← hH1.out, List.drop_length]; rfl
  go_loopw [7, 8] (fun v7 v8 wr => ∃ k : Nat, k ≤ len ∧ v8 = .int .i64 ((k : Int) - 1) ∧ v7 = .int .i64 (qd n (xs.drop k)).2 ∧ Hid (wr.ownsRow (w.heap.size + 1 + 1) 3 1 (.slice (some ⟨w.heap.size + 1 + 1, 0, none⟩) len len) len (rowQ n xs k)) ∧ Below (w.heap.size + 1 + 1) w1 wr) (fun _ v8 _ => (intOf v8 + 1).toNat)
  case atStart => exact ⟨len, Nat.le_refl _, rfl, by rw [hq0], HOWN0.out, Below.refl _ _⟩
  case round =>
    obtain ⟨k, hk, rfl, rfl, hown, hbw⟩ := hrel
    have hz := hbw.size
    have q0 := (hbw.cell (p := ⟨w.heap.size, 0, none⟩) (by simp; omega)).trans p0
    have q1 := (hbw.cell (p := ⟨w.heap.size, 1, none⟩) (by simp; omega)).trans p1
    have q2 := (hbw.cell (p := ⟨w.heap.size + 1, 0, none⟩) (by simp)).trans p2
    have q3 := (hbw.cell (p := ⟨w.heap.size + 1, 1, none⟩) (by simp)).trans p3
    have q4 := fun o => (hbw.frozen (p := ⟨w.heap.size + 1, o, none⟩) (by simp)).trans (p4 o)
    have hB2 : Below w.heap.size w wr := hB1.trans (hbw.mono (by omega))
    cases k with
    | zero =>
      have ho : Own wr (w.heap.size + 1 + 1) (.slice (some ⟨w.heap.size + 1 + 1, 0, none⟩) len len) (qd n xs).1 := by
        unfold Own
        rw [HL.out, hH1.out, ← HQA.out]
        exact hown.out
      have hlq : (qd n xs).1.length ≤ 1048576 := by rw [HL.out, hH1.out]; omega
      have HB := Lib.hid (fun W h => bgMake_any false (some ⟨w.heap.size + 1 + 1, 0, none⟩) len len (qd n xs).1 W h hlq)
      have e1 : qd n (xs.drop 0) = qd n xs := by rw [List.drop_zero]
      rw [e1]
      generalize trim (qd n xs).1 = T at *
      generalize (qd n xs).2 = R at *
      clear HL HQ HD HS HLN HR HC HQA hown e1
      have g0 : w.heap.size < wr.heap.size := by omega
      have g1 : w.heap.size + 1 < wr.heap.size := by omega
      go_wp2_with fail
      refine (HB.out _ ?_).mono ?_
      · refine Ints.below ho.ints ?_; repeat' (first | (with_reducible exact Below.refl _ _) | (with_reducible assumption) | (with_reducible refine Below.alloc ?_ ?_ _) | (with_reducible refine Below.setCell ?_ ?_ _) | (with_reducible refine Below.drew ?_) | (with_reducible refine below_drewN ?_ _) | (apply bthen2; (with_reducible assumption)) | go_size)
      rintro e wb ⟨a2, len2, cap2, rfl, ho2, hbb⟩
      rw [show (false && decide (0 < tz (qd n xs).1 (qd n xs).1.length)) = false from rfl]
      clear HB ho
      have hzb := hbb.size; (try simp only [World.size_alloc, World.size_setCell, World.size_drew, World.heap_drewN] at hzb); try (refine keepc hbb (w.heap.size) ?_ ?_; (focus (first | omega | (simp <;> omega))); intro hcb_0 hfb_0 hlb_0); try (refine keepc hbb (w.heap.size + 1) ?_ ?_; (focus (first | omega | (simp <;> omega))); intro hcb_1 hfb_1 hlb_1); try (refine keepc hbb (w.heap.size + 1 + 1) ?_ ?_; (focus (first | omega | (simp <;> omega))); intro hcb_2 hfb_2 hlb_2)
      go_wp2_with fail
      refine bodyPost_ret (v := .tuple #[.agg #[.bool false, .slice a2 len2 cap2], .int .i64 R]) (by simp [results, Tryd.results63, go_sem, hcb_1, q2, q3, hlb_1]) rfl ⟨_, _, _, rfl, (((ho2.set (p := ⟨w.heap.size + 1, 0, none⟩) (by show w.heap.size + 1 < wr.heap.size; omega) _).set (p := ⟨w.heap.size + 1, 1, none⟩) (by show w.heap.size + 1 < wr.heap.size; omega) _).alloc _).mono (by omega), (by repeat' (first | (with_reducible exact Below.refl _ _) | (with_reducible assumption) | (with_reducible refine Below.alloc ?_ ?_ _) | (with_reducible refine Below.setCell ?_ ?_ _) | (with_reducible refine Below.drew ?_) | (with_reducible refine below_drewN ?_ _) | (apply bthen2; (with_reducible assumption)) | go_size))⟩
    | succ k =>
      obtain ⟨b, off, ha, hbl, hc⟩ := HC.out k (by omega)
      subst ha
      have c1 : wr.cell? ⟨b, off + k, none⟩ = some (.int .i64 (xs.getD k 0)) := (hB2.cell (p := ⟨b, off + k, none⟩) hbl).trans hc
      have c2 := World.ownsRow.cellAt hown.out k (by omega)
      have c3 := World.ownsRow.frozenAt hown.out k
      have hx1 := hH1.out
      have c4 : ∃ v, (rowQ n xs (k + 1))[k]? = some v := by
        have h1 := HLN.out (k + 1) (by omega)
        have : k < (rowQ n xs (k + 1)).length := by omega
        exact ⟨_, List.getElem?_eq_getElem this⟩
      obtain ⟨v, hv⟩ := c4
      rw [hv] at c2
      have hs := World.ownsRow.stored hown.out k (.int .i64 (((qd n (xs.drop (k + 1))).2 * 10000 + xs.getD k 0) / n))
      rw [HS.out k (by omega)] at hs
      have hd := congrArg Prod.snd (HD.out k (by omega))
      simp only at hd
      obtain ⟨r1, r2⟩ := HQ.out (xs.drop (k + 1))
      obtain ⟨x1, x2⟩ := HR.out k (by omega)
      have HSS := Lib.hid hs
      have HDD := Lib.hid hd
      have hnz : n ≠ 0 := by omega
      have e0 : ((k + 1 : Nat) : Int) - 1 = (k : Int) := by omega
      rw [e0]
      clear hs hd hv hc hx1
      generalize (qd n (xs.drop (k + 1))).2 = R at *
      generalize xs.getD k 0 = X at *
      have hr3 : 0 ≤ R * 10000 + X := by omega
      have hr4 : R * 10000 + X ≤ 10000000000009999 := by omega
      go_wp2_with fail
      go_roundw
      case rel => exact ⟨k, by omega, rfl, by rw [HDD.out], HSS.out.1, hbw.grown (row := some (w.heap.size + 1 + 1)) HSS.out.2 (by omega) (fun j hj => by cases hj; exact Nat.le_refl _)⟩
      case measure => first | (simp [intOf]; done) | (simp [intOf]; omega)

theorem dg_short {m : Nat} (h : (dg m).length ≤ 1) : (dg m).getD 0 0 = (m : Int) := by
  have h1 : m < 10000 ^ 1 := (dg_len_iff m 1).mp h
  by_cases h0 : m = 0
  · subst h0; rfl
  · rw [dg_pos h0]
    show ((m % 10000 : Nat) : Int) = _
    rw [Nat.mod_eq_of_lt (by omega)]
theorem dg_mono {m M L : Nat} (h : m ≤ M) (hl : (dg M).length ≤ L) : (dg m).length ≤ L := by
  rw [dg_len_iff] at hl ⊢
  exact Nat.lt_of_le_of_lt h hl
set_option maxHeartbeats 1000000 in
theorem bgBits_any (neg : Bool) (a : Option Addr) (len cap : Nat) (xs : List Int) (w : World) (hx : Ints w (.slice a len cap) xs) (hr : InR xs) (hl : xs.length ≤ 1000000) :
    Calls Tryd.prog 46 #[.agg #[.bool neg, .slice a len cap]] w (Gives (.int .i64 (bl (val xs).toNat : Nat)) w) := by
  have HMk := Lib.hid (fun W h => bgMake_any false a len cap xs W h (by omega))
  have hT := trim_dg hr
  have hdl : (dg (val xs).toNat).length ≤ 1000000 := by
    rw [← hT]; unfold trim; rw [List.length_take]; omega
  rw [hT] at HMk
  rw [show (false && decide (0 < tz xs xs.length)) = false from rfl] at HMk
  have hbl := bl_dg (val xs).toNat
  have HX := Lib.hid hx
  clear hT hx hr hl
  generalize (val xs).toNat = M at *
  have HLM := Lib.hid (fun (m : Nat) (h : m ≤ M) => dg_mono h hdl)
  have hR14 : bl M ≤ 14000000 := by omega
  obtain ⟨R, hR⟩ : ∃ R, bl M = R := ⟨_, rfl⟩
  have HR := Lib.hid hR
  rw [hR] at hR14 ⊢
  have HO := Lib.hid (show ∀ (m : Nat) (hm : (dg m).length ≤ 1000000) sa sl sc W (h : Ints W (.slice sa sl sc) (dg m)), Calls Tryd.prog 63 #[.agg #[.bool false, .slice sa sl sc], .int .i64 4096] W (GivesWI false (dg (m / 4096)) ((m : Int) % 4096) W) from fun m hm sa sl sc W h => by
    have := bgOver_any sa sl sc (dg m) 4096 W h (inR_dg m) hm (by decide) (by decide)
    rw [val_dg] at this
    exact this)
  have HBL := Lib.hid (show ∀ (s : Value) (m : Nat) W (h : Ints W s (dg m)), Calls Tryd.prog 64 #[s, .int .i64 0] W (Same (.int .i64 ((dg m).getD 0 0)) W) from fun s m W h => bgLimb_any s (dg m) 0 (by decide) W h)
  clear hbl hdl hR
  go_enter Tryd.func46, Tryd.ntmps46
  go_wp2_with fail
  refine (HMk.out _ ?_).mono ?_
  · refine Ints.below HX.out ?_; repeat' (first | (with_reducible exact Below.refl _ _) | (with_reducible assumption) | (with_reducible refine Below.alloc ?_ ?_ _) | (with_reducible refine Below.setCell ?_ ?_ _) | (with_reducible refine Below.drew ?_) | (with_reducible refine below_drewN ?_ _) | (apply bthen2; (with_reducible assumption)) | go_size)
  rintro e wb ⟨a2, len2, cap2, rfl, ho, hbb⟩
  have hzb := hbb.size; (try simp only [World.size_alloc, World.size_setCell, World.size_drew, World.heap_drewN] at hzb); try (refine keepc hbb (w.heap.size) ?_ ?_; (focus (first | omega | (simp <;> omega))); intro hcb_0 hfb_0 hlb_0); try (refine keepc hbb (w.heap.size + 1) ?_ ?_; (focus (first | omega | (simp <;> omega))); intro hcb_1 hfb_1 hlb_1); try (refine keepc hbb (w.heap.size + 1 + 1) ?_ ?_; (focus (first | omega | (simp <;> omega))); intro hcb_2 hfb_2 hlb_2)
  go_wp2_with fail
  refine name_world (fun W1 hW1 => ?_)
  obtain ⟨B4, hB4⟩ : ∃ B4, wb.heap.size = B4 := ⟨_, rfl⟩
  have i1 : W1.cell? ⟨B4, 0, none⟩ = some (.bool false) := by subst hW1; subst hB4; simp
  have i2 : W1.cell? ⟨B4, 1, none⟩ = some (.slice a2 len2 cap2) := by subst hW1; subst hB4; simp
  have i3 : ∀ o, W1.frozen? ⟨B4, o, none⟩ = false := by subst hW1; subst hB4; intro o; simp
  have i4 : B4 < W1.heap.size := by subst hW1; subst hB4; simp
  have i5 : Ints W1 (.slice a2 len2 cap2) (dg M) := by subst hW1; refine Ints.below ho.ints ?_; repeat' (first | (with_reducible exact Below.refl _ _) | (with_reducible assumption) | (with_reducible refine Below.alloc ?_ ?_ _) | (with_reducible refine Below.setCell ?_ ?_ _) | (with_reducible refine Below.drew ?_) | (with_reducible refine below_drewN ?_ _) | (apply bthen2; (with_reducible assumption)) | go_size)
  have i6 : Below w.heap.size w W1 := by subst hW1; exact (by repeat' (first | (with_reducible exact Below.refl _ _) | (with_reducible assumption) | (with_reducible refine Below.alloc ?_ ?_ _) | (with_reducible refine Below.setCell ?_ ?_ _) | (with_reducible refine Below.drew ?_) | (with_reducible refine below_drewN ?_ _) | (apply bthen2; (with_reducible assumption)) | go_size))
  have i7 : w.heap.size < B4 := by omega
  rw [hB4]
  clear hW1 ho hbb hB4 hzb hlb_0 hcb_0 hfb_0 HMk HX
  go_loopw [3] (fun v3 wr => ∃ (s m : Nat) (sa : Option Addr) (sl sc : Nat), v3 = .int .i64 s ∧ s + bl m = R ∧ m ≤ M ∧ wr.cell? ⟨B4, 0, none⟩ = some (.bool false) ∧ wr.cell? ⟨B4, 1, none⟩ = some (.slice sa sl sc) ∧ (∀ o, wr.frozen? ⟨B4, o, none⟩ = false) ∧ B4 < wr.heap.size ∧ Ints wr (.slice sa sl sc) (dg m) ∧ Below w.heap.size w wr) (fun v3 _ => R - (intOf v3).toNat)
  case atStart => exact ⟨0, M, _, _, _, rfl, by rw [HR.out]; omega, Nat.le_refl _, i1, i2, i3, i4, i5, i6⟩
  case round =>
    clear i1 i2 i3 i4 i5 i6
    obtain ⟨s, m, sa, sl, sc, rfl, hs, hm, j1, j2, j3, j4, hI, hbw⟩ := hrel
    have hlen := HLM.out m hm
    obtain ⟨hsl, -, -⟩ := hI.cell
    by_cases hlt : 1 < sl
    · have h4 : 10000 ≤ m := by
        have h9 : ¬ (dg m).length ≤ 1 := by omega
        rw [dg_len_iff] at h9
        omega
      have hsh := bl_shift 12 m (by omega)
      rw [show (2 : Nat) ^ 12 = 4096 from rfl] at hsh
      have hsz : s + 12 + bl (m / 4096) = R := by rw [hsh] at hs; omega
      have HSZ := Lib.hid hsz
      have HI := Lib.hid hI
      have hr0 : 0 ≤ (m : Int) % 4096 := by omega
      have hO := Lib.hid (HO.out m hlen)
      have hs12 : s + 12 ≤ R := by omega
      generalize (m : Int) % 4096 = RR at *
      clear hsh hsz hI hsl hs hr0 hlen
      go_wp2_with fail
      refine (hO.out _ _ _ _ ?_).mono ?_
      · refine Ints.below HI.out ?_; repeat' (first | (with_reducible exact Below.refl _ _) | (with_reducible assumption) | (with_reducible refine Below.alloc ?_ ?_ _) | (with_reducible refine Below.setCell ?_ ?_ _) | (with_reducible refine Below.drew ?_) | (with_reducible refine below_drewN ?_ _) | (apply bthen2; (with_reducible assumption)) | go_size)
      rintro e wc ⟨a3, len3, cap3, rfl, ho3, hbc⟩
      (refine keepc hbc (B4) ?_ ?_; (focus (first | omega | (simp; done) | (simp; omega))); intro hcc_x hfc_x hlc_x)
      have hzc := hbc.size
      clear hO HI
      go_wp2_with fail
      go_roundw
      case rel => exact ⟨s + 12, m / 4096, a3, len3, cap3, by go_num, HSZ.out, by omega, by simp [hcc_x, j1, hlc_x, go_sem], by simp [hcc_x, j2, hlc_x, go_sem], by intro o; simp [hfc_x, j3, go_sem], by simp; omega, ((ho3.set (p := ⟨B4, 0, none⟩) (by show B4 < wr.heap.size; omega) _).set (p := ⟨B4, 1, none⟩) (by show B4 < wr.heap.size; omega) _).ints, (by repeat' (first | (with_reducible exact Below.refl _ _) | (with_reducible assumption) | (with_reducible refine Below.alloc ?_ ?_ _) | (with_reducible refine Below.setCell ?_ ?_ _) | (with_reducible refine Below.drew ?_) | (with_reducible refine below_drewN ?_ _) | (apply bthen2; (with_reducible assumption)) | go_size))⟩
      case measure => simp [intOf]; omega
    · have hsm := dg_short (m := m) (by omega)
      have hbl2 := Lib.hid (fun W h => HBL.out (.slice sa sl sc) m W h)
      rw [hsm] at hbl2
      have hm9 : m < 10000 := by have := (dg_len_iff m 1).mp (by omega); omega
      have HS := Lib.hid hs
      have HI := Lib.hid hI
      clear hs hsm HBL HO hI hsl hlen
      go_wp2_with fail
      refine (hbl2.out _ ?_).mono ?_
      · refine Ints.below HI.out ?_; repeat' (first | (with_reducible exact Below.refl _ _) | (with_reducible assumption) | (with_reducible refine Below.alloc ?_ ?_ _) | (with_reducible refine Below.setCell ?_ ?_ _) | (with_reducible refine Below.drew ?_) | (with_reducible refine below_drewN ?_ _) | (apply bthen2; (with_reducible assumption)) | go_size)
      rintro e wc ⟨rfl, rfl⟩
      clear hbl2 HI
      go_wp2_with fail
      go_loop [3, 5] (fun v3 v5 => ∃ (t n : Nat), v3 = .int .i64 t ∧ v5 = .int .i64 n ∧ n < 10000 ∧ Hid (t + bl n = R)) (fun _ v5 => (intOf v5).toNat)
      case atStart => exact ⟨s, m, rfl, rfl, hm9, HS⟩
      case round =>
        obtain ⟨t, n, rfl, rfl, hn9, ht⟩ := hrel
        by_cases h0 : n = 0
        · subst h0
          have e : t = R := by have := ht.out; rw [bl_zero] at this; omega
          subst e
          clear ht HS HLM HR
          go_wp2_with fail
          go_ret
          exact gives rfl (by repeat' (first | (with_reducible exact Below.refl _ _) | (with_reducible assumption) | (with_reducible refine Below.alloc ?_ ?_ _) | (with_reducible refine Below.setCell ?_ ?_ _) | (with_reducible refine Below.drew ?_) | (with_reducible refine below_drewN ?_ _) | (apply bthen2; (with_reducible assumption)) | go_size))
        · have ht2 := Lib.hid (show t + 1 + bl (n / 2) = R by have := ht.out; rw [bl_half h0] at this; omega)
          have hpos : 0 < (n : Int) := by omega
          have htR : t ≤ R := by have := ht.out; omega
          clear ht HS HLM HR
          go_wp2_with fail
          go_round
          case rel => exact ⟨t + 1, n / 2, by go_num, by go_num, by omega, ht2⟩
          case measure => simp [intOf]; omega

end Go.Proofs.YtfcfjlfobflmaaaDoor
