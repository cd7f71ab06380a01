import Derived.Test.YtelkmldmebdcgaaMul
set_option linter.unusedSimpArgs false
set_option linter.unusedVariables false
namespace Go.Proofs.Ytelkmldmebdcgaa
open Go.RowKit
/-! ### products of wholes in the reference -/

set_option maxHeartbeats 2000000 in
set_option maxRecDepth 100000 in
theorem bgMul_dig (n1 n2 : Bool) (a a2 : Option Addr) (len cap len2 cap2 : Nat) (xs ys : List Int) (w : World) (hx : Ints w (.slice a len cap) xs) (hy : Ints w (.slice a2 len2 cap2) ys) (rx : InR xs) (ry : InR ys) (lx : xs.length ≤ 500000) (ly : ys.length ≤ 500000) :
    Calls Try.prog 129 #[.agg #[.bool n1, .slice a len cap], .agg #[.bool n2, .slice a2 len2 cap2]] w (GivesW ((n1 != n2) && decide ((val xs * val ys).toNat ≠ 0)) (dg (val xs * val ys).toNat) w) := by
  obtain ⟨x1, x2, x3⟩ := hx.cell
  obtain ⟨y1, y2, y3⟩ := hy.cell
  obtain ⟨i0, hi, hz0, hz1, hz2⟩ := info_parts infoInt
  have hb8 : i0.bytes * (len + len2) ≤ 281474976710656 := by rw [hz2]; omega
  have hml : len + len2 ≤ maxLen := by unfold maxLen; omega
  have HS := Lib.hid (fun i => prod_step xs ys i)
  have hb := prod_lt rx ry len (len + len2) (by omega)
  rw [val_take_all (show xs.length ≤ len by omega)] at hb
  have HB := Lib.hid hb; clear hb
  have HT := Lib.hid (fun n a len cap zs W h1 h2 h3 h4 => bgMakeD_any n a len cap zs (val xs * val ys) W h1 h2 h3 h4)
  have hall : val (xs.take len) = val xs := val_take_all (by omega)
  have HALL := Lib.hid hall
  have HX := Lib.hid x3; have HY := Lib.hid y3
  have RX := Lib.hid (fun k => rx.at k); have RY := Lib.hid (fun k => ry.at k)
  have HRY := Lib.hid ry
  have HLY := Lib.hid y1
  have hlen : len ≤ 500000 := by omega
  have hlen2 : len2 ≤ 500000 := by omega
  obtain ⟨nn, hnn⟩ : ∃ nn, ((n1 != n2) && decide ((val xs * val ys).toNat ≠ 0)) = nn := ⟨_, rfl⟩
  obtain ⟨D, hD⟩ : ∃ D, dg (val xs * val ys).toNat = D := ⟨_, rfl⟩
  rw [hD] at HT; rw [hnn, hD]
  have HT := Lib.hid (HT.out (n1 != n2)); rw [hnn] at HT
  clear x3 y3 hx hy rx ry lx ly x1 y1 hnn hD hall
  go_enter Try.func129, Try.ntmps129
  go_wp2_with (first | (at_make; refine wpList_make_full _ rfl _ _ 32 rfl (w.heap.size + 1 + 1 + 1) 3 i0 (.int .i64 0) 1 Try.underlying32 hi hz0 hz1 .i64 .i64 _ _ (len + len2) rfl rfl rfl rfl hb8 hml (by simp) ?_; intro w1 hown hgrow; have hB0 := (Below.refl (w.heap.size + 1 + 1 + 1) _).grown hgrow (by simp) (fun k h => by cases h); have hS1 := World.ownsRow.lt hown; (simp only [World.size_alloc] at hS1); have p0 : w1.cell? ⟨w.heap.size, 0, none⟩ = some (.bool n1) := (hB0.cell (p := ⟨w.heap.size, 0, none⟩) (by first | (simp; done) | (simp; omega))).trans (by simp [go_sem]); have p1 : w1.cell? ⟨w.heap.size, 1, none⟩ = some (.slice a len cap) := (hB0.cell (p := ⟨w.heap.size, 1, none⟩) (by first | (simp; done) | (simp; omega))).trans (by simp [go_sem]); have p2 : w1.cell? ⟨w.heap.size + 1, 0, none⟩ = some (.bool n2) := (hB0.cell (p := ⟨w.heap.size + 1, 0, none⟩) (by first | (simp; done) | (simp; omega))).trans (by simp [go_sem]); have p3 : w1.cell? ⟨w.heap.size + 1, 1, none⟩ = some (.slice a2 len2 cap2) := (hB0.cell (p := ⟨w.heap.size + 1, 1, none⟩) (by first | (simp; done) | (simp; omega))).trans (by simp [go_sem]); have p5 : w1.cell? ⟨w.heap.size + 1 + 1, 0, none⟩ = some (.bool false) := (hB0.cell (p := ⟨w.heap.size + 1 + 1, 0, none⟩) (by first | (simp; done) | (simp; omega))).trans (by simp [go_sem]); have p6 : w1.cell? ⟨w.heap.size + 1 + 1, 1, none⟩ = some (.slice none 0 0) := (hB0.cell (p := ⟨w.heap.size + 1 + 1, 1, none⟩) (by first | (simp; done) | (simp; omega))).trans (by simp [go_sem]); have p7 : ∀ o, w1.frozen? ⟨w.heap.size + 1 + 1, o, none⟩ = false := fun o => (hB0.frozen (p := ⟨w.heap.size + 1 + 1, o, none⟩) (by first | (simp; done) | (simp; omega))).trans (by simp [go_sem]); have hB1 : Below w.heap.size w w1 := (show Below w.heap.size w (((w.alloc (Obj.cells #[Value.bool n1, Value.slice a len cap] 57)).alloc (Obj.cells #[Value.bool n2, Value.slice a2 len2 cap2] 57)).alloc (Obj.cells #[Value.bool false, Value.slice none 0 0] 57)) from (by repeat' (first | (with_reducible exact Below.refl _ _) | (with_reducible assumption) | (with_reducible refine Below.alloc ?_ ?_ _) | (with_reducible refine Below.setCell ?_ ?_ _) | (with_reducible refine Below.drew ?_) | (with_reducible refine below_drewN ?_ _) | (apply bthen2; (with_reducible assumption)) | go_size))).trans (hB0.mono (by omega))))
  obtain ⟨g, hg⟩ : ∃ g, w.heap.size + 1 + 1 + 1 = g := ⟨_, rfl⟩
  have HG := Lib.hid hg
  simp only [World.size_alloc, hg] at hown hB0 hS1 ⊢
  have hown0 := Lib.hid (Own.made hown)
  clear hown hgrow hb8 hz0 hz1 hz2 hi hB0 hg
  have hgl : w.heap.size + 1 + 1 < g := by have := HG.out; omega
  go_loopw [24] (fun v24 wr => ∃ (i : Nat) (acc : List Int), i ≤ len ∧ v24 = .int .i64 i ∧ acc.length = len + len2 ∧ Own wr g (.slice (some ⟨g, 0, none⟩) (len + len2) (len + len2)) acc ∧ Hid (∀ x, SumInv (val (xs.take i) * val ys) x i ys acc 0) ∧ Below g w1 wr) (fun v24 _ => len - (intOf v24).toNat)
  case atStart => exact ⟨0, _, by omega, rfl, by simp, hown0.out, Lib.hid (fun x => by have := SumInv.start x ys (len + len2); simpa [val] using this), Below.refl _ _⟩
  case round =>
    obtain ⟨i, acc, hi, rfl, hal, hown, hsi, hbw⟩ := hrel
    have hz := hbw.size
    have q0 := (hbw.cell (p := ⟨w.heap.size, 0, none⟩) (by first | (simp; done) | (simp; omega))).trans p0
    have q2 := (hbw.cell (p := ⟨w.heap.size + 1, 0, none⟩) (by first | (simp; done) | (simp; omega))).trans p2
    have q3 := (hbw.cell (p := ⟨w.heap.size + 1, 1, none⟩) (by first | (simp; done) | (simp; omega))).trans p3
    have hB2 : Below w.heap.size w wr := hB1.trans (hbw.mono (by omega))
    by_cases hlt : i < len
    · obtain ⟨b1, o1, ha1, hb1, c1⟩ := HX.out i hlt
      subst ha1
      have c1 := (hB2.cell (p := ⟨b1, o1 + i, none⟩) hb1).trans c1
      have hx1 := RX.out i
      have hps := HS.out i
      have HPS := Lib.hid hps
      have HST0 := Lib.hid (hsi.out (xs.getD i 0))
      generalize val (xs.take i) * val ys = V at *
      generalize xs.getD i 0 = X at *
      have HAL := Lib.hid hal; have HOW := Lib.hid hown
      clear hps hal hown hsi HS HX RX HT HB
      go_wp2_with fail
      go_loopw [32] (fun v32 wi => ∃ (k : Nat) (ac : List Int), k ≤ len2 ∧ v32 = .int .i64 k ∧ ac.length = len + len2 ∧ Own wi g (.slice (some ⟨g, 0, none⟩) (len + len2) (len + len2)) ac ∧ SumInv V X i ys ac k ∧ Below g w1 wi) (fun v32 _ => len2 - (intOf v32).toNat)
      case atStart => exact ⟨0, acc, by omega, rfl, HAL.out, HOW.out, HST0.out, hbw⟩
      case round =>
        clear q0 q2 q3 c1 hB2 HST0 HAL HOW hbw hz
        obtain ⟨k, ac, hk, rfl, hal, hown, hinv, hbw⟩ := hrel
        have hz := hbw.size
        have hB2 : Below w.heap.size w wr := hB1.trans (hbw.mono (by omega))
        by_cases hlt2 : k < len2
        · obtain ⟨d, hd⟩ : ∃ d : Nat, i + k = d := ⟨_, rfl⟩
          have hd2 : (i : Int) + (k : Int) = (d : Int) := by omega
          obtain ⟨c2, c3, c4, c5⟩ := hown.at d (by omega)
          have hst := hinv.step hx1 HRY.out (by omega)
          have hlo := hinv.lo d
          have hhi : ac.getD d 0 ≤ 1000000000000000 := by have := hinv.hi d; split at this <;> omega
          have hB := RY.out k
          obtain ⟨b2, o2, ha2, hb2, d2⟩ := HY.out k hlt2
          subst ha2
          have d2 := (hB2.cell (p := ⟨b2, o2 + k, none⟩) hb2).trans d2
          have hm := mul_y ⟨Int.le_refl 0, by omega⟩ ⟨Int.le_refl 0, by omega⟩ hx1 hB
          rw [hd] at hst
          have HO := Lib.hid (fun v => hown.put d v); have HLN := Lib.hid hal
          generalize ys.getD k 0 = Y at *
          generalize ac.getD d 0 = A at *
          obtain ⟨M, hM⟩ : ∃ M, X * Y = M := ⟨_, rfl⟩
          rw [hM] at hm hst
          have HST := Lib.hid hst
          have hdl : d < len + len2 := by omega
          clear hst hal hown hinv hd HPS hB
          go_wp2_with fail
          go_roundw
          case rel => exact ⟨k + 1, _, by omega, by go_num, by rw [List.length_set, HLN.out], HO.out _, HST.out, (by repeat' (first | (with_reducible exact Below.refl _ _) | (with_reducible assumption) | (with_reducible refine Below.alloc ?_ ?_ _) | (with_reducible refine Below.setCell ?_ ?_ _) | (with_reducible refine Below.drew ?_) | (with_reducible refine below_drewN ?_ _) | (apply bthen2; (with_reducible assumption)) | go_size))⟩
          case measure => simp [intOf]; omega
        · have e : k = len2 := by omega
          subst e
          have hd := fun x' => hinv.next (by have := HLY.out; omega) x'
          rw [HPS.out] at hd
          have HD1 := Lib.hid hd; have HAL := Lib.hid hal; have HOW := Lib.hid hown
          clear hd hal hown hinv HPS
          go_wp2_with fail
          go_roundw
          case rel => exact ⟨i + 1, ac, by omega, by go_num, HAL.out, HOW.out, HD1, hbw⟩
          case measure => simp [intOf]; omega
    · have e : i = len := by omega
      subst e
      have hs0 := hsi.out 0
      rw [HALL.out] at hs0
      have hcar : CarInv (val xs * val ys) acc 0 0 := ⟨fun j hj => by omega, fun j _ => ⟨hs0.lo j, by have := hs0.hi j; split at this <;> omega⟩, by omega, by rw [hs0.eq]; simp [val]⟩
      have HC := Lib.hid hcar; have HAL := Lib.hid hal; have HOW := Lib.hid hown
      clear hsi hs0 hcar hal hown HS HX HY RX RY HALL hown0 q0 q2 q3
      generalize val xs * val ys = T at *
      go_wp2_with fail
      go_loopw [10, 52] (fun v10 v52 wi => ∃ (k : Nat) (c : Int) (ac : List Int), k ≤ i + len2 ∧ v52 = .int .i64 k ∧ v10 = .int .i64 c ∧ ac.length = i + len2 ∧ Own wi g (.slice (some ⟨g, 0, none⟩) (i + len2) (i + len2)) ac ∧ CarInv T ac k c ∧ Below g w1 wi) (fun _ v52 _ => i + len2 - (intOf v52).toNat)
      case atStart => exact ⟨0, 0, acc, by omega, rfl, rfl, HAL.out, HOW.out, HC.out, hbw⟩
      case round =>
        clear HC HAL HOW hB2 hbw hz
        obtain ⟨k, c, ac, hk, rfl, rfl, hal, hown, hinv, hbw⟩ := hrel
        have hz := hbw.size
        have hB2 : Below w.heap.size w wr := hB1.trans (hbw.mono (by omega))
        by_cases hlt2 : k < i + len2
        · obtain ⟨c2, c3, c4, c5⟩ := hown.at k (by omega)
          have hst := hinv.step (by omega)
          have hhi := hinv.hi k (Nat.le_refl _)
          have hcar := hinv.car
          have HO := Lib.hid (fun v => hown.put k v); have HLN := Lib.hid hal
          generalize ac.getD k 0 = A at *
          have HST := Lib.hid hst
          clear hst hal hown hinv
          go_wp2_with fail
          go_roundw
          case rel => exact ⟨k + 1, _, _, by omega, by go_num, rfl, by rw [List.length_set, HLN.out], HO.out _, HST.out, (by repeat' (first | (with_reducible exact Below.refl _ _) | (with_reducible assumption) | (with_reducible refine Below.alloc ?_ ?_ _) | (with_reducible refine Below.setCell ?_ ?_ _) | (with_reducible refine Below.drew ?_) | (with_reducible refine below_drewN ?_ _) | (apply bthen2; (with_reducible assumption)) | go_size))⟩
          case measure => simp [intOf]; omega
        · have e : k = i + len2 := by omega
          obtain ⟨hir, hv0⟩ := hinv.done (by omega) HB.out.1 (by rw [e]; exact HB.out.2)
          have hl : ac.length ≤ 1048576 := by omega
          have q0 := (hbw.cell (p := ⟨w.heap.size, 0, none⟩) (by first | (simp; done) | (simp; omega))).trans p0
          have q2 := (hbw.cell (p := ⟨w.heap.size + 1, 0, none⟩) (by first | (simp; done) | (simp; omega))).trans p2
          have q5 := (hbw.cell (p := ⟨w.heap.size + 1 + 1, 0, none⟩) (by first | (simp; done) | (simp; omega))).trans p5
          have q6 := (hbw.cell (p := ⟨w.heap.size + 1 + 1, 1, none⟩) (by first | (simp; done) | (simp; omega))).trans p6
          have q7 := fun o => (hbw.frozen (p := ⟨w.heap.size + 1 + 1, o, none⟩) (by first | (simp; done) | (simp; omega))).trans (p7 o)
          have HI := Lib.hid hown; have HV := Lib.hid hv0
          clear hown hv0 hinv hal p0 p1 p2 p3 p5 p6 p7 HB
          go_wp2_with fail
          refine (HT.out _ _ _ _ _ ?_ hir HV.out hl).mono ?_
          · refine Ints.below HI.out.ints ?_; repeat' (first | (with_reducible exact Below.refl _ _) | (with_reducible assumption) | (with_reducible refine Below.alloc ?_ ?_ _) | (with_reducible refine Below.setCell ?_ ?_ _) | (with_reducible refine Below.drew ?_) | (with_reducible refine below_drewN ?_ _) | (apply bthen2; (with_reducible assumption)) | go_size)
          rintro e wt ⟨a3, l3, c3, rfl, ho3, hbt⟩
          have t5 := (hbt.cell (p := ⟨w.heap.size + 1 + 1, 0, none⟩) (by show _ < wr.heap.size; simp; omega)).trans q5
          have t6 := (hbt.cell (p := ⟨w.heap.size + 1 + 1, 1, none⟩) (by show _ < wr.heap.size; simp; omega)).trans q6
          have t7 := fun o => (hbt.frozen (p := ⟨w.heap.size + 1 + 1, o, none⟩) (by show _ < wr.heap.size; simp; omega)).trans (q7 o)
          have hzt := hbt.size
          have hlt7 : w.heap.size + 1 + 1 < wt.heap.size := by omega
          go_wp2_with fail
          refine bodyPost_ret (v := .agg #[.bool nn, .slice a3 l3 c3]) (by simp [results, Try.results129, go_sem, t5, t6, hlt7]) rfl ⟨_, _, _, rfl, ((ho3.set (p := ⟨w.heap.size + 1 + 1, 0, none⟩) (by show _ < wr.heap.size; simp; omega) _).set (p := ⟨w.heap.size + 1 + 1, 1, none⟩) (by show _ < wr.heap.size; simp; omega) _).mono (by omega), (by repeat' (first | (with_reducible exact Below.refl _ _) | (with_reducible assumption) | (with_reducible refine Below.alloc ?_ ?_ _) | (with_reducible refine Below.setCell ?_ ?_ _) | (with_reducible refine Below.drew ?_) | (with_reducible refine below_drewN ?_ _) | (apply bthen2; (with_reducible assumption)) | go_size))⟩
theorem bgMul_any (z1 z2 : Int) (a a2 : Option Addr) (len cap len2 cap2 : Nat) (w : World) (hx : Ints w (.slice a len cap) (dg z1.natAbs)) (hy : Ints w (.slice a2 len2 cap2) (dg z2.natAbs)) (lx : (dg z1.natAbs).length ≤ 500000) (ly : (dg z2.natAbs).length ≤ 500000) :
    Calls Try.prog 129 #[.agg #[.bool (decide (z1 < 0)), .slice a len cap], .agg #[.bool (decide (z2 < 0)), .slice a2 len2 cap2]] w (GivesZ (z1 * z2) w) :=
  (bgMul_dig _ _ a a2 len cap len2 cap2 _ _ w hx hy (inR_dg _) (inR_dg _) lx ly).mono fun _ _ h => GivesW.cast (sgn_val z1 z2).1 (sgn_val z1 z2).2 h

end Go.Proofs.Ytelkmldmebdcgaa
