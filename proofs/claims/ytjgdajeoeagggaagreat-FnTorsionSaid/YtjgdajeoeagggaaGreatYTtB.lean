import Derived.Test.YtjgdajeoeagggaaGreatYTtA
set_option linter.unusedSimpArgs false
set_option linter.unusedVariables false
namespace Go.Proofs.YtjgdajeoeagggaaGreat
open Go.RowKit
/-! ### FnTorsion -/
def GAnyT (w : World) (e : Ending) (w' : World) : Prop := ∃ r : Bool, e = .returned (.bool r) ∧ Below w.heap.size w w'
theorem bigT_any (a b : Option Addr) (l c m d : Nat) (w : World) (h1 : l ≤ 9223372036854775807) (h2 : m ≤ 9223372036854775807) : Calls Tryz.prog 5 #[.slice a l c, .slice b m d] w (GAnyT w) := by
  by_cases g : (1048576 : Int) < (l : Int)
  · go_enter Tryz.func5, Tryz.ntmps5
    go_wp2
    go_ret
    exact ⟨_, rfl, gr⟩
  · go_enter Tryz.func5, Tryz.ntmps5
    go_wp2
    go_ret
    exact ⟨_, rfl, gr⟩
set_option maxRecDepth 100000 in
set_option maxHeartbeats 16000000 in
theorem walk_FnTorsion (a0 : Option Addr) (l0 c0 : Nat) (z0 : List Int) (am : Option Addr) (lm cm : Nat) (z1 : List Int) (w : World) (h0 : IsRow .u8 w a0 l0 c0 z0) (h1 : IsRow .u8 w am lm cm z1) :
    Calls Tryz.prog 3 #[.slice a0 l0 c0, .slice am lm cm] w (Gives (.bool true) w) := by
  have Y0 : BytsW w (.slice a0 l0 c0) := h0.byts
  have Y1 : BytsW w (.slice am lm cm) := h1.byts
  have hl0 : l0 ≤ 9223372036854775807 := by obtain ⟨_, _, _, e, h, -⟩ := Y0; cases e; exact h
  have hl1 : lm ≤ 9223372036854775807 := by obtain ⟨_, _, _, e, h, -⟩ := Y1; cases e; exact h
  clear h0 h1
  have HBG := Lib.hid (fun a b l c m d w h1 h2 => bigT_any a b l c m d w h1 h2)
  go_enter Tryz.func3, Tryz.ntmps3
  go_wp2_with fail
  refine (HBG.out _ _ _ _ _ _ _ hl0 hl1).mono ?_
  rintro e9 w1 ⟨r, rfl, hB⟩
  clear HBG hl0 hl1
  cases r
  case true =>
    go_wp2
    go_ret
    exact gives rfl gr
  case false =>
    have hY := Y0.below hB; have hM := Y1.below hB
    clear Y0 Y1
    go_wp2_with fail
    refine name_worldM (fun V hV => ?_)
    have hBz := hB.size
    have hV1 : Below w1.heap.size w1 V := by subst hV; repeat' (first | (with_reducible first | exact bq1 _ _ | assumption | refine bq2 ?_ ?_ _ | refine bq3 ?_ ?_ _ | refine bq4 ?_ | refine bq5 ?_ _) | (apply bthen2; (with_reducible assumption)) | go_size)
    have hB2 := bthen2 hV1 hB
    clear hBz
    have hM2 := hM.below hV1
    have hY2 := hY.below hV1
    clear hV1
    clear hV hB  hM hY
    refine (DrawTorsionPointsC hY2).mono ?_; rintro e9 wy1 ⟨a, b, rfl, hb⟩
    have hB := bthen2 hb hB2
    have hM := hM2.below hb
    have hY := hY2.below hb
    clear hb hB2  hM2 hY2 hY
    obtain ⟨f9, n9, hts⟩ := tsV_f a b
    obtain ⟨L, hL⟩ : ∃ L, tpPs a b = L := ⟨_, rfl⟩
    obtain ⟨C, hC⟩ : ∃ C, tcPs a b = C := ⟨_, rfl⟩
    have HF := Lib.hid (tf_of a b f9 n9 hts)
    have HP1 := Lib.hid (fun W => TorsionPoints_any a b W); have HP2 := Lib.hid (fun W => sTorsionPoints_any a b W)
    have HC1 := Lib.hid (fun W => TorsionCandidates_any a b W); have HC2 := Lib.hid (fun W => sTorsionCandidates_any a b W)
    have HS1 := Lib.hid (fun W => TorsionShape_any a b W); have HS2 := Lib.hid (fun W => sTorsionShape_any a b W)
    rw [hts] at HS1 HS2; rw [hL, hC] at HF; rw [hL] at HP1 HP2; rw [hC] at HC1 HC2
    obtain ⟨ok, hok⟩ : ∃ ok, isC a b = ok := ⟨_, rfl⟩
    rw [hok] at HF HP1 HP2 HC1 HC2 HS1 HS2; clear hts hL hC hok
    go_wp2_with fail
    refine name_worldM (fun V hV => ?_)
    have hBz := hB.size
    have hV1 : Below wy1.heap.size wy1 V := by subst hV; repeat' (first | (with_reducible first | exact bq1 _ _ | assumption | refine bq2 ?_ ?_ _ | refine bq3 ?_ ?_ _ | refine bq4 ?_ | refine bq5 ?_ _) | (apply bthen2; (with_reducible assumption)) | go_size)
    have Yc : Box V (wy1.heap.size) [.int .i64 a, .int .i64 b] := (by subst hV; exact box_two (by first | omega | (simp; done) | (simp; omega)) (by simp [go_sem]) (by simp [go_sem]) (fun o => by simp [go_sem]))
    have hB2 := bthen2 hV1 hB
    clear hBz
    have hM2 := hM.below hV1
    clear hV1
    clear hV hB  hM
    refine (HP1.out _).mono ?_; rintro e9 wy2 ⟨sa, sl, sc, rfl, O1, hb⟩
    have Xc := Yc.below hb
    have hB := bthen2 hb hB2
    have hM := hM2.below hb
    clear hb hB2 Yc hM2 HP1
    have qc0 := Xc.2.1 0 _ rfl; have qc1 := Xc.2.1 1 _ rfl; have qcl := Xc.1
    have P1 := O1.pts; clear O1
    go_wp2_with fail
    refine name_worldM (fun V hV => ?_)
    have hBz := hB.size
    have hV1 : Below wy2.heap.size wy2 V := by subst hV; repeat' (first | (with_reducible first | exact bq1 _ _ | assumption | refine bq2 ?_ ?_ _ | refine bq3 ?_ ?_ _ | refine bq4 ?_ | refine bq5 ?_ _) | (apply bthen2; (with_reducible assumption)) | go_size)
    have Yc := Xc.below hV1
    have hB2 := bthen2 hV1 hB
    clear hBz
    have hM2 := hM.below hV1
    have P12 := P1.below hV1
    clear hV1
    clear qc0 qc1 qcl
    clear hV hB Xc hM P1
    refine (HP2.out _).mono ?_; rintro e9 wy3 ⟨ta, tl, tc, rfl, O2, hb⟩
    have Xc := Yc.below hb
    have hB := bthen2 hb hB2
    have hM := hM2.below hb
    have P1 := P12.below hb
    clear hb hB2 Yc hM2 P12 HP2
    have qc0 := Xc.2.1 0 _ rfl; have qc1 := Xc.2.1 1 _ rfl; have qcl := Xc.1
    obtain ⟨a9, c9, he9⟩ := O2.slice
    obtain ⟨rfl, rfl, rfl⟩ : ta = a9 ∧ tl = _ ∧ tc = c9 := by simpa using he9
    have P2 := O2.pts; clear O2 he9
    go_wp2_with fail
    refine name_worldM (fun V hV => ?_)
    have hBz := hB.size
    have hV1 : Below wy3.heap.size wy3 V := by subst hV; repeat' (first | (with_reducible first | exact bq1 _ _ | assumption | refine bq2 ?_ ?_ _ | refine bq3 ?_ ?_ _ | refine bq4 ?_ | refine bq5 ?_ _) | (apply bthen2; (with_reducible assumption)) | go_size)
    have Yc := Xc.below hV1
    have hB2 := bthen2 hV1 hB
    clear hBz
    have hM2 := hM.below hV1
    have P12 := P1.below hV1
    have P22 := P2.below hV1
    clear hV1
    clear qc0 qc1 qcl
    clear hV hB Xc hM P1 P2
    refine (HC1.out _).mono ?_; rintro e9 wy4 ⟨ua, ul, uc, rfl, O3, hb⟩
    have Xc := Yc.below hb
    have hB := bthen2 hb hB2
    have hM := hM2.below hb
    have P1 := P12.below hb
    have P2 := P22.below hb
    clear hb hB2 Yc hM2 P12 P22 HC1
    have qc0 := Xc.2.1 0 _ rfl; have qc1 := Xc.2.1 1 _ rfl; have qcl := Xc.1
    have P3 := O3.pts; clear O3
    go_wp2_with fail
    refine name_worldM (fun V hV => ?_)
    have hBz := hB.size
    have hV1 : Below wy4.heap.size wy4 V := by subst hV; repeat' (first | (with_reducible first | exact bq1 _ _ | assumption | refine bq2 ?_ ?_ _ | refine bq3 ?_ ?_ _ | refine bq4 ?_ | refine bq5 ?_ _) | (apply bthen2; (with_reducible assumption)) | go_size)
    have Yc := Xc.below hV1
    have hB2 := bthen2 hV1 hB
    clear hBz
    have hM2 := hM.below hV1
    have P12 := P1.below hV1
    have P22 := P2.below hV1
    have P32 := P3.below hV1
    clear hV1
    clear qc0 qc1 qcl
    clear hV hB Xc hM P1 P2 P3
    refine (HC2.out _).mono ?_; rintro e9 wy5 ⟨va, vl, vc, rfl, O4, hb⟩
    have Xc := Yc.below hb
    have hB := bthen2 hb hB2
    have hM := hM2.below hb
    have P1 := P12.below hb
    have P2 := P22.below hb
    have P3 := P32.below hb
    clear hb hB2 Yc hM2 P12 P22 P32 HC2
    have qc0 := Xc.2.1 0 _ rfl; have qc1 := Xc.2.1 1 _ rfl; have qcl := Xc.1
    obtain ⟨a9, c9, he9⟩ := O4.slice
    obtain ⟨rfl, rfl, rfl⟩ : va = a9 ∧ vl = _ ∧ vc = c9 := by simpa using he9
    have P4 := O4.pts; clear O4 he9
    go_wp2_with fail
    refine name_worldM (fun V hV => ?_)
    have hBz := hB.size
    have hV1 : Below wy5.heap.size wy5 V := by subst hV; repeat' (first | (with_reducible first | exact bq1 _ _ | assumption | refine bq2 ?_ ?_ _ | refine bq3 ?_ ?_ _ | refine bq4 ?_ | refine bq5 ?_ _) | (apply bthen2; (with_reducible assumption)) | go_size)
    have Yc := Xc.below hV1
    have hB2 := bthen2 hV1 hB
    clear hBz
    have hM2 := hM.below hV1
    have P12 := P1.below hV1
    have P22 := P2.below hV1
    have P32 := P3.below hV1
    have P42 := P4.below hV1
    clear hV1
    clear qc0 qc1 qcl
    clear hV hB Xc hM P1 P2 P3 P4
    refine (HS1.out _).mono ?_; rintro e9 wy6 ⟨rfl, hb⟩
    have Xc := Yc.below hb
    have hB := bthen2 hb hB2
    have hM := hM2.below hb
    have P1 := P12.below hb
    have P2 := P22.below hb
    have P3 := P32.below hb
    have P4 := P42.below hb
    clear hb hB2 Yc hM2 P12 P22 P32 P42 HS1
    have qc0 := Xc.2.1 0 _ rfl; have qc1 := Xc.2.1 1 _ rfl; have qcl := Xc.1
    go_wp2_with fail
    refine name_worldM (fun V hV => ?_)
    have hBz := hB.size
    have hV1 : Below wy6.heap.size wy6 V := by subst hV; repeat' (first | (with_reducible first | exact bq1 _ _ | assumption | refine bq2 ?_ ?_ _ | refine bq3 ?_ ?_ _ | refine bq4 ?_ | refine bq5 ?_ _) | (apply bthen2; (with_reducible assumption)) | go_size)
    have Yc := Xc.below hV1
    have hB2 := bthen2 hV1 hB
    clear hBz
    have hM2 := hM.below hV1
    have P12 := P1.below hV1
    have P22 := P2.below hV1
    have P32 := P3.below hV1
    have P42 := P4.below hV1
    clear hV1
    clear qc0 qc1 qcl
    clear hV hB Xc hM P1 P2 P3 P4
    refine (HS2.out _).mono ?_; rintro e9 wy7 ⟨rfl, hb⟩
    have Xc := Yc.below hb
    have hB := bthen2 hb hB2
    have hM := hM2.below hb
    have P1 := P12.below hb
    have P2 := P22.below hb
    have P3 := P32.below hb
    have P4 := P42.below hb
    clear hb hB2 Yc hM2 P12 P22 P32 P42 HS2
    have qc0 := Xc.2.1 0 _ rfl; have qc1 := Xc.2.1 1 _ rfl; have qcl := Xc.1
    go_wp2_with fail
    refine name_worldM (fun V hV => ?_)
    have hBz := hB.size
    have hV1 : Below wy7.heap.size wy7 V := by subst hV; repeat' (first | (with_reducible first | exact bq1 _ _ | assumption | refine bq2 ?_ ?_ _ | refine bq3 ?_ ?_ _ | refine bq4 ?_ | refine bq5 ?_ _) | (apply bthen2; (with_reducible assumption)) | go_size)
    have Yc := Xc.below hV1
    have hB2 := bthen2 hV1 hB
    clear hBz
    have hM2 := hM.below hV1
    have P12 := P1.below hV1
    have P22 := P2.below hV1
    have P32 := P3.below hV1
    have P42 := P4.below hV1
    clear hV1
    clear qc0 qc1 qcl
    clear hV hB Xc hM P1 P2 P3 P4
    refine (pSamePoints_same _ _ L _ P12 P22).mono ?_; rintro e9 wy8 ⟨rfl, hb⟩
    have Xc := Yc.below hb
    have hB := bthen2 hb hB2
    have hM := hM2.below hb
    have P1 := P12.below hb
    have P2 := P22.below hb
    have P3 := P32.below hb
    have P4 := P42.below hb
    clear hb hB2 Yc hM2 P12 P22 P32 P42 
    have qc0 := Xc.2.1 0 _ rfl; have qc1 := Xc.2.1 1 _ rfl; have qcl := Xc.1
    go_wp2_with fail
    refine name_worldM (fun V hV => ?_)
    have hBz := hB.size
    have hV1 : Below wy8.heap.size wy8 V := by subst hV; repeat' (first | (with_reducible first | exact bq1 _ _ | assumption | refine bq2 ?_ ?_ _ | refine bq3 ?_ ?_ _ | refine bq4 ?_ | refine bq5 ?_ _) | (apply bthen2; (with_reducible assumption)) | go_size)
    have Yc := Xc.below hV1
    have hB2 := bthen2 hV1 hB
    clear hBz
    have hM2 := hM.below hV1
    have P12 := P1.below hV1
    have P22 := P2.below hV1
    have P32 := P3.below hV1
    have P42 := P4.below hV1
    clear hV1
    clear qc0 qc1 qcl
    clear hV hB Xc hM P1 P2 P3 P4
    refine (pSamePoints_same _ _ C _ P32 P42).mono ?_; rintro e9 wy9 ⟨rfl, hb⟩
    have Xc := Yc.below hb
    have hB := bthen2 hb hB2
    have hM := hM2.below hb
    have P1 := P12.below hb
    have P2 := P22.below hb
    have P3 := P32.below hb
    have P4 := P42.below hb
    clear hb hB2 Yc hM2 P12 P22 P32 P42 P3 P4
    have qc0 := Xc.2.1 0 _ rfl; have qc1 := Xc.2.1 1 _ rfl; have qcl := Xc.1
    cases ok
    · skip
      clear P1 P2 HF
      have hBz9 := hB.size
      go_upto_if 124 with fail
      clear qc0 qc1 qcl
      first | refine ttC w _ am lm cm ?_ ?_ | (go_step; first | refine ttC w _ am lm cm ?_ ?_ | (go_step; first | refine ttC w _ am lm cm ?_ ?_ | (go_step; first | refine ttC w _ am lm cm ?_ ?_ | (go_step; first | refine ttC w _ am lm cm ?_ ?_ | (go_step; first | refine ttC w _ am lm cm ?_ ?_ | (go_step; refine ttC w _ am lm cm ?_ ?_))))))
      · exact BytsW.below hM gr
      · repeat' (first | (with_reducible first | exact bq1 _ _ | assumption | refine bq2 ?_ ?_ _ | refine bq3 ?_ ?_ _ | refine bq4 ?_ | refine bq5 ?_ _) | (apply bthen2; (with_reducible assumption)) | go_size)
    · skip
      obtain ⟨f, n, bd, so, po, F⟩ := HF.out rfl; clear HF
      obtain ⟨ef, en, hlen, f1, f2, n1, n2, nf, lc, cl, l1, l13, hz, hck, htb, bm, b1, b2, hit, so0, so1, soN, po1, po2, po3⟩ := F
      subst ef; subst en
      have HCK := Lib.hid (fun W h => CheckTorsion_any a b L sa sl sc W h); rw [hck] at HCK; clear hck
      have HB1 := Lib.hid (fun W => TorsionBound_any a b 3 W); have HB2 := Lib.hid (fun W => sTorsionBound_any a b 3 W); rw [htb] at HB1 HB2; clear htb
      have HIT := Lib.hid hit; have HSO := Lib.hid so1; have HSN := Lib.hid soN; have HSZ := Lib.hid so0; have HPO1 := Lib.hid po1; have HPO2 := Lib.hid po2; have HPO3 := Lib.hid po3; clear hit so1 soN so0 po1 po2 po3
      have P2H := Lib.hid P2
      obtain ⟨a9, c9, hsl, -, hcells⟩ := P2
      obtain ⟨b8, off8, ha, hbl, x0, x1, x2⟩ := hcells 0 (0, 0, 0) hz
      obtain rfl : ta = some ⟨b8, off8, none⟩ := by rw [← ha]; simpa using congrArg (fun v => match v with | Value.slice a _ _ => a | _ => none) hsl
      simp only [Nat.zero_mul, Nat.add_zero] at x0 x1 x2
      have P2 := P2H.out; clear hcells hsl ha P2H hz
      generalize hgL : L.length = gL at *
      generalize hgC : C.length = gC at *
      have kw1 : IntKind.i64.wrap ((f : Int) * n) = gL := by rw [← hlen]; exact IntWalk.i64_in _ (by omega)
      have kw2 : IntKind.i64.wrap ((gC : Int) + 1) = (gC : Int) + 1 := IntWalk.i64_in _ (by omega)
      have k3 : decide ((gC : Int) + 1 < (gL : Int)) = false := by simp; omega
      have k4 : decide (2 < (f : Int)) = false := by simp; omega
      have k5 : decide (12 < (n : Int)) = false := by simp; omega
      have k6 : ¬ (f : Int) = 0 := by omega
      have k7 : ((f : Int) == 0) = false := by simp; omega
      clear f1 f2 n1 n2 lc hlen
      go_wp2_with fail
      refine name_worldM (fun V hV => ?_)
      have hBz := hB.size
      have hV1 : Below wy9.heap.size wy9 V := by subst hV; repeat' (first | (with_reducible first | exact bq1 _ _ | assumption | refine bq2 ?_ ?_ _ | refine bq3 ?_ ?_ _ | refine bq4 ?_ | refine bq5 ?_ _) | (apply bthen2; (with_reducible assumption)) | go_size)
      have Yc := Xc.below hV1
      have hB2 := bthen2 hV1 hB
      clear hBz
      have hM2 := hM.below hV1
      have P12 := P1.below hV1
      have P22 := P2.below hV1
      clear hV1
      clear qc0 qc1 qcl
      clear hV hB Xc hM P1 P2
      refine (HCK.out _ P12).mono ?_; rintro e9 wy10 ⟨rfl, hb⟩
      have Xc := Yc.below hb
      have hB := bthen2 hb hB2
      have hM := hM2.below hb
      have P1 := P12.below hb
      have P2 := P22.below hb
      clear hb hB2 Yc hM2 P12 P22 HCK P1 x0 x1 x2 hbl kw1 kw2 k3 k4 k5
      have qc0 := Xc.2.1 0 _ rfl; have qc1 := Xc.2.1 1 _ rfl; have qcl := Xc.1
      go_wp2_with fail
      refine name_worldM (fun V hV => ?_)
      have hBz := hB.size
      have hV1 : Below wy10.heap.size wy10 V := by subst hV; repeat' (first | (with_reducible first | exact bq1 _ _ | assumption | refine bq2 ?_ ?_ _ | refine bq3 ?_ ?_ _ | refine bq4 ?_ | refine bq5 ?_ _) | (apply bthen2; (with_reducible assumption)) | go_size)
      have Yc := Xc.below hV1
      have hB2 := bthen2 hV1 hB
      clear hBz
      have hM2 := hM.below hV1
      have P22 := P2.below hV1
      clear hV1
      clear qc0 qc1 qcl
      clear hV hB Xc hM P2
      refine (HB1.out _).mono ?_; rintro e9 wy11 ⟨rfl, hb⟩
      have Xc := Yc.below hb
      have hB := bthen2 hb hB2
      have hM := hM2.below hb
      have P2 := P22.below hb
      clear hb hB2 Yc hM2 P22 HB1
      have qc0 := Xc.2.1 0 _ rfl; have qc1 := Xc.2.1 1 _ rfl; have qcl := Xc.1
      go_wp2_with fail
      refine name_worldM (fun V hV => ?_)
      have hBz := hB.size
      have hV1 : Below wy11.heap.size wy11 V := by subst hV; repeat' (first | (with_reducible first | exact bq1 _ _ | assumption | refine bq2 ?_ ?_ _ | refine bq3 ?_ ?_ _ | refine bq4 ?_ | refine bq5 ?_ _) | (apply bthen2; (with_reducible assumption)) | go_size)
      have Yc := Xc.below hV1
      have hB2 := bthen2 hV1 hB
      clear hBz
      have hM2 := hM.below hV1
      have P22 := P2.below hV1
      clear hV1
      clear qc0 qc1 qcl
      clear hV hB Xc hM P2
      refine (HB2.out _).mono ?_; rintro e9 wy12 ⟨rfl, hb⟩
      have Xc := Yc.below hb
      have hB := bthen2 hb hB2
      have hM := hM2.below hb
      have P2 := P22.below hb
      clear hb hB2 Yc hM2 P22 HB2
      have qc0 := Xc.2.1 0 _ rfl; have qc1 := Xc.2.1 1 _ rfl; have qcl := Xc.1
      have kgl : ((gL : Int) == 0) = false := by simp; omega
      have kgl2 : (gL == 0) = false := by simp; omega
      have kgl3 : ¬ (gL : Int) = 0 := by omega
      go_wp2_with fail
      obtain ⟨wq, hwq⟩ : ∃ x, x = wy12 := ⟨_, rfl⟩; subst hwq
      clear bm nf; generalize bd % (gL : Int) = r9
      clear qc0 qc1 qcl
      go_loopw [26, 27] (fun v26 v27 wr => ∃ j : Nat, v26 = .int .i64 (so j : Nat) ∧ v27 = .int .i64 ((j : Int) + 1) ∧ j ≤ 12 ∧ so j ≤ 13 * j ∧ Box wr (wy1.heap.size) [.int .i64 a, .int .i64 b] ∧ PtsR wr (.slice (some ⟨b8, off8, none⟩) gL tc) L ∧ BytsW wr (.slice am lm cm) ∧ Below w.heap.size w wr) (fun _ v27 _ => 13 - (intOf v27).toNat)
      case atStart => exact ⟨0, by rw [HSZ.out]; rfl, rfl, by omega, by rw [HSZ.out]; omega, Xc, P2, hM, hB⟩
      case round =>
        clear Xc P2 hM hB
        obtain ⟨j, rfl, rfl, hj, hs, Xc, P2, hM, hB⟩ := hrel
        by_cases hlt : j < 12
        · skip
          clear HIT HSN HSZ
          have kj : decide ((j : Int) + 1 ≤ 12) = true := by simp; omega
          obtain ⟨e1, e2⟩ := HPO3.out j hlt
          have HO1 := Lib.hid (fun W => PointsOfOrder_any a b ((j : Int) + 1) W); have HO2 := Lib.hid (fun W => sPointsOfOrder_any a b ((j : Int) + 1) W)
          rw [e1, e2] at HO1 HO2; clear e1 e2
          have d1 := HPO1.out j; have d2 := HPO2.out j; have d3 := HSO.out j
          clear HPO1 HPO2 HPO3 HSO
          generalize po j = D at *
          have hs3 := hs
          have D2 := Lib.hid d2; clear d2
          have qc0 := Xc.2.1 0 _ rfl; have qc1 := Xc.2.1 1 _ rfl; have qcl := Xc.1
          go_wp2_with fail
          refine name_worldM (fun V hV => ?_)
          have hBz := hB.size
          have hV1 : Below wr.heap.size wr V := by subst hV; repeat' (first | (with_reducible first | exact bq1 _ _ | assumption | refine bq2 ?_ ?_ _ | refine bq3 ?_ ?_ _ | refine bq4 ?_ | refine bq5 ?_ _) | (apply bthen2; (with_reducible assumption)) | go_size)
          have Yc := Xc.below hV1
          have hB2 := bthen2 hV1 hB
          clear hBz
          have hM2 := hM.below hV1
          have P22 := P2.below hV1
          clear hV1
          clear qc0 qc1 qcl
          clear hV hB Xc hM P2
          refine (HO1.out _).mono ?_; rintro e9 wy13 ⟨xa, xl, xc, rfl, O5, hb⟩
          have Xc := Yc.below hb
          have hB := bthen2 hb hB2
          have hM := hM2.below hb
          have P2 := P22.below hb
          clear hb hB2 Yc hM2 P22 HO1
          have qc0 := Xc.2.1 0 _ rfl; have qc1 := Xc.2.1 1 _ rfl; have qcl := Xc.1
          have P5 := O5.pts; clear O5
          go_wp2_with fail
          refine name_worldM (fun V hV => ?_)
          have hBz := hB.size
          have hV1 : Below wy13.heap.size wy13 V := by subst hV; repeat' (first | (with_reducible first | exact bq1 _ _ | assumption | refine bq2 ?_ ?_ _ | refine bq3 ?_ ?_ _ | refine bq4 ?_ | refine bq5 ?_ _) | (apply bthen2; (with_reducible assumption)) | go_size)
          have Yc := Xc.below hV1
          have hB2 := bthen2 hV1 hB
          clear hBz
          have hM2 := hM.below hV1
          have P22 := P2.below hV1
          have P52 := P5.below hV1
          clear hV1
          clear qc0 qc1 qcl
          clear hV hB Xc hM P2 P5
          refine (HO2.out _).mono ?_; rintro e9 wy14 ⟨ya, yl, yc, rfl, O6, hb⟩
          have Xc := Yc.below hb
          have hB := bthen2 hb hB2
          have hM := hM2.below hb
          have P2 := P22.below hb
          have P5 := P52.below hb
          clear hb hB2 Yc hM2 P22 P52 HO2
          have qc0 := Xc.2.1 0 _ rfl; have qc1 := Xc.2.1 1 _ rfl; have qcl := Xc.1
          obtain ⟨a9, c9, he9⟩ := O6.slice
          obtain ⟨rfl, rfl, rfl⟩ : ya = a9 ∧ yl = _ ∧ yc = c9 := by simpa using he9
          have P6 := O6.pts; clear O6 he9
          go_wp2_with fail
          refine name_worldM (fun V hV => ?_)
          have hBz := hB.size
          have hV1 : Below wy14.heap.size wy14 V := by subst hV; repeat' (first | (with_reducible first | exact bq1 _ _ | assumption | refine bq2 ?_ ?_ _ | refine bq3 ?_ ?_ _ | refine bq4 ?_ | refine bq5 ?_ _) | (apply bthen2; (with_reducible assumption)) | go_size)
          have Yc := Xc.below hV1
          have hB2 := bthen2 hV1 hB
          clear hBz
          have hM2 := hM.below hV1
          have P22 := P2.below hV1
          have P52 := P5.below hV1
          have P62 := P6.below hV1
          clear hV1
          clear qc0 qc1 qcl
          clear hV hB Xc hM P2 P5 P6
          refine (pSamePoints_same _ _ D _ P52 P62).mono ?_; rintro e9 wy15 ⟨rfl, hb⟩
          have Xc := Yc.below hb
          have hB := bthen2 hb hB2
          have hM := hM2.below hb
          have P2 := P22.below hb
          have P5 := P52.below hb
          have P6 := P62.below hb
          clear hb hB2 Yc hM2 P22 P52 P62 P5 P6
          have qc0 := Xc.2.1 0 _ rfl; have qc1 := Xc.2.1 1 _ rfl; have qcl := Xc.1
          have hBz9 := hB.size
          generalize D.length = dl at *
          have kw9 : IntKind.i64.wrap ((so j : Int) + dl) = (so j : Int) + dl := IntWalk.i64_in _ (by omega)
          have kj2 : (((j : Int) + 1) == 0) = false := by simp; omega
          have kj3 : ¬ ((j : Int) + 1) = 0 := by omega
          have d4 : ((so (j + 1) : Nat) : Int) = (so j : Int) + (dl : Int) := by omega
          by_cases hd : 0 < dl
          · have kd : decide (0 < (dl : Int)) = true := by simp; omega
            have km := D2.out hd
            clear D2
            go_wp2_with fail
            go_roundw
            case rel => exact ⟨j + 1, by rw [d4], by first | rfl | go_num, by omega, by omega, Xc, P2, hM, hB⟩
            case measure => simp [intOf]; omega
          · have kd : decide (0 < (dl : Int)) = false := by simp; omega
            clear D2
            go_wp2_with fail
            go_roundw
            case rel => exact ⟨j + 1, by rw [d4], by first | rfl | go_num, by omega, by omega, Xc, P2, hM, hB⟩
            case measure => simp [intOf]; omega
        · skip
          clear HPO1 HPO2 HPO3 HSO
          have kj : decide ((j : Int) + 1 ≤ 12) = false := by simp; omega
          have e : so j = gL := by rw [show j = 12 from by omega]; exact HSN.out
          clear HSN HSZ hs
          generalize so j = s9 at *; subst e
          have qc0 := Xc.2.1 0 _ rfl; have qc1 := Xc.2.1 1 _ rfl; have qcl := Xc.1
          go_wp2_with fail
          clear qc0 qc1 qcl
          go_loopw [249] (fun v249 wz => ∃ i : Nat, v249 = .int .i64 (i : Nat) ∧ i ≤ s9 ∧ Box wz (wy1.heap.size) [.int .i64 a, .int .i64 b] ∧ PtsR wz (.slice (some ⟨b8, off8, none⟩) s9 tc) L ∧ BytsW wz (.slice am lm cm) ∧ Below w.heap.size w wz) (fun v249 _ => s9 - (intOf v249).toNat)
          case atStart => exact ⟨0, rfl, by omega, Xc, P2, hM, hB⟩
          case round =>
            clear Xc P2 hM hB
            obtain ⟨i, rfl, hi, Xc, P2, hM, hB⟩ := hrel
            by_cases hl2 : i < s9
            · skip
              obtain ⟨⟨x, y, e⟩, hxy⟩ : ∃ p, L[i]? = some p := ⟨_, List.getElem?_eq_getElem (by rw [hgL]; exact hl2)⟩
              have HI := Lib.hid (fun W => IsTorsionPoint_any a b x y e W); rw [HIT.out i x y e hxy] at HI
              have P2H := Lib.hid P2
              obtain ⟨a8, c8, hsl, -, hcells⟩ := P2
              obtain ⟨b7, off7, ha, hbl, x0, x1, x2⟩ := hcells i (x, y, e) hxy
              obtain ⟨rfl, -, -⟩ : some ⟨b8, off8, none⟩ = a8 ∧ s9 = _ ∧ tc = c8 := by simpa using hsl
              obtain ⟨rfl, rfl⟩ : b8 = b7 ∧ off8 = off7 := by simpa using ha
              have P2 := P2H.out; clear hcells hsl ha P2H hxy HIT
              have kz : decide ((i : Int) < (s9 : Int)) = true := by simp; omega
              have qc0 := Xc.2.1 0 _ rfl; have qc1 := Xc.2.1 1 _ rfl; have qcl := Xc.1
              go_wp2_with fail
              refine name_worldM (fun V hV => ?_)
              have hBz := hB.size
              have hV1 : Below wr.heap.size wr V := by subst hV; repeat' (first | (with_reducible first | exact bq1 _ _ | assumption | refine bq2 ?_ ?_ _ | refine bq3 ?_ ?_ _ | refine bq4 ?_ | refine bq5 ?_ _) | (apply bthen2; (with_reducible assumption)) | go_size)
              have Yc := Xc.below hV1
              have Yp : Box V (wr.heap.size) [.int .i64 x, .int .i64 y, .int .i64 e] := (by subst hV; exact box_three (by first | omega | (simp; done) | (simp; omega)) (by simp [go_sem]) (by simp [go_sem]) (by simp [go_sem]) (fun o => by simp [go_sem]))
              have hB2 := bthen2 hV1 hB
              clear hBz
              have hM2 := hM.below hV1
              have P22 := P2.below hV1
              clear hV1
              clear qc0 qc1 qcl
              clear hV hB Xc hM P2
              refine (HI.out _).mono ?_; rintro e9 wy13 ⟨rfl, hb⟩
              have Xc := Yc.below hb
              have Xp := Yp.below hb
              have hB := bthen2 hb hB2
              have hM := hM2.below hb
              have P2 := P22.below hb
              clear hb hB2 Yc Yp hM2 P22 HI x0 x1 x2 hbl
              have qc0 := Xc.2.1 0 _ rfl; have qc1 := Xc.2.1 1 _ rfl; have qcl := Xc.1
              have qp0 := Xp.2.1 0 _ rfl; have qp1 := Xp.2.1 1 _ rfl; have qp2 := Xp.2.1 2 _ rfl; have qpl := Xp.1
              have hBz9 := hB.size
              go_wp2_with fail
              go_roundw
              case rel => exact ⟨i + 1, by first | rfl | go_num, by omega, Xc, P2, hM, hB⟩
              case measure => simp [intOf]; omega
            · skip
              have kz : decide ((i : Int) < (s9 : Int)) = false := by simp; omega
              clear HIT P2
              have qc0 := Xc.2.1 0 _ rfl; have qc1 := Xc.2.1 1 _ rfl; have qcl := Xc.1
              have hBz9 := hB.size
              go_upto_if 250 with fail
              clear qc0 qc1 qcl
              first | refine ttC w _ am lm cm ?_ ?_ | (go_step; first | refine ttC w _ am lm cm ?_ ?_ | (go_step; first | refine ttC w _ am lm cm ?_ ?_ | (go_step; first | refine ttC w _ am lm cm ?_ ?_ | (go_step; first | refine ttC w _ am lm cm ?_ ?_ | (go_step; first | refine ttC w _ am lm cm ?_ ?_ | (go_step; first | refine ttC w _ am lm cm ?_ ?_ | (go_step; first | refine ttC w _ am lm cm ?_ ?_ | (go_step; refine ttC w _ am lm cm ?_ ?_))))))))
              · exact BytsW.below hM gr
              · repeat' (first | (with_reducible first | exact bq1 _ _ | assumption | refine bq2 ?_ ?_ _ | refine bq3 ?_ ?_ _ | refine bq4 ?_ | refine bq5 ?_ _) | (apply bthen2; (with_reducible assumption)) | go_size)
end Go.Proofs.YtjgdajeoeagggaaGreat
