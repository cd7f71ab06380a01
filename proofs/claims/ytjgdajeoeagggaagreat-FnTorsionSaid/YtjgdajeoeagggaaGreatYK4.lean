import Derived.Test.YtjgdajeoeagggaaGreatYAdd2
import Derived.Test.YtjgdajeoeagggaaGreatYK1
import Derived.Test.YtjgdajeoeagggaaGreatYK3
set_option linter.unusedSimpArgs false
set_option linter.unusedVariables false
namespace Go.Proofs.YtjgdajeoeagggaaGreat
open Go.RowKit
/-! ### products of wholes -/
set_option maxHeartbeats 2000000 in
set_option maxRecDepth 100000 in
theorem mulWholes_dig (n1 n2 : Bool) (a a2 : Option Addr) (len cap len2 cap2 : Nat) (xs ys : List Int) (w : World) (hx : Ints w (.slice a len cap) xs) (hy : Ints w (.slice a2 len2 cap2) ys) (rx : InR xs) (ry : InR ys) (lx : xs.length ≤ 500000) (ly : ys.length ≤ 500000) :
    Calls Tryz.prog 115 #[.agg #[.bool n1, .slice a len cap], .agg #[.bool n2, .slice a2 len2 cap2]] w (GivesW ((n1 != n2) && decide ((val xs * val ys).toNat ≠ 0)) (dg (val xs * val ys).toNat) w) := by
  obtain ⟨x1, x2, x3⟩ := hx.cell
  obtain ⟨y1, y2, y3⟩ := hy.cell
  obtain ⟨i0, hi, hz0, hz1, hz2⟩ := info_parts infoInt
  have hb8 : i0.bytes * (len + len2 + 1) ≤ 281474976710656 := by rw [hz2]; omega
  have hml : len + len2 + 1 ≤ maxLen := by unfold maxLen; omega
  have HS := Lib.hid (fun i => prod_step xs ys i)
  have HB := Lib.hid (fun i (h : i ≤ len) => prod_lt rx ry i (len + len2 + 1) (by omega))
  have HT := Lib.hid (fun n a len cap zs W h1 h2 h3 h4 => trimmedD_any n a len cap zs (val xs * val ys) W h1 h2 h3 h4)
  have hall : val (xs.take len) = val xs := val_take_all (by omega)
  have HALL := Lib.hid hall
  have HX := Lib.hid x3; have HY := Lib.hid y3
  have RX := Lib.hid (fun k => rx.at k); have RY := Lib.hid (fun k => ry.at k)
  have HRY := Lib.hid ry
  have HLY := Lib.hid y1
  have Z2 := Lib.hid (show ∀ k, len2 ≤ k → ys.getD k 0 = 0 from fun k h => by simp only [List.getD, List.getElem?_eq_none (show ys.length ≤ k by omega), Option.getD_none])
  have hlen : len ≤ 500000 := by omega
  have hlen2 : len2 ≤ 500000 := by omega
  obtain ⟨nn, hnn⟩ : ∃ nn, ((n1 != n2) && decide ((val xs * val ys).toNat ≠ 0)) = nn := ⟨_, rfl⟩
  obtain ⟨D, hD⟩ : ∃ D, dg (val xs * val ys).toNat = D := ⟨_, rfl⟩
  rw [hD] at HT; rw [hnn, hD]
  have HT := Lib.hid (HT.out (n1 != n2)); rw [hnn] at HT
  clear x3 y3 hx hy rx ry lx ly x1 y1 hnn hD hall
  go_enter Tryz.func115, Tryz.ntmps115
  go_wp2_with (first | (at_make; refine wpList_make_full _ rfl _ _ 44 rfl (w.heap.size + 1 + 1 + 1) 3 i0 (.int .i64 0) 1 Tryz.underlying44 hi hz0 hz1 .i64 .i64 _ _ (len + len2 + 1) rfl rfl rfl rfl hb8 hml (by simp) ?_; intro w1 hown hgrow; have hB0 := (Below.refl (w.heap.size + 1 + 1 + 1) _).grown hgrow (by simp) (fun k h => by cases h); have hS1 := World.ownsRow.lt hown; (simp only [World.size_alloc] at hS1); have p0 : w1.cell? ⟨w.heap.size, 0, none⟩ = some (.bool n1) := (hB0.cell (p := ⟨w.heap.size, 0, none⟩) (by first | (simp; done) | (simp; omega))).trans (by simp [go_sem]); have p1 : w1.cell? ⟨w.heap.size, 1, none⟩ = some (.slice a len cap) := (hB0.cell (p := ⟨w.heap.size, 1, none⟩) (by first | (simp; done) | (simp; omega))).trans (by simp [go_sem]); have p2 : w1.cell? ⟨w.heap.size + 1, 0, none⟩ = some (.bool n2) := (hB0.cell (p := ⟨w.heap.size + 1, 0, none⟩) (by first | (simp; done) | (simp; omega))).trans (by simp [go_sem]); have p3 : w1.cell? ⟨w.heap.size + 1, 1, none⟩ = some (.slice a2 len2 cap2) := (hB0.cell (p := ⟨w.heap.size + 1, 1, none⟩) (by first | (simp; done) | (simp; omega))).trans (by simp [go_sem]); have p5 : w1.cell? ⟨w.heap.size + 1 + 1, 0, none⟩ = some (.bool false) := (hB0.cell (p := ⟨w.heap.size + 1 + 1, 0, none⟩) (by first | (simp; done) | (simp; omega))).trans (by simp [go_sem]); have p6 : w1.cell? ⟨w.heap.size + 1 + 1, 1, none⟩ = some (.slice none 0 0) := (hB0.cell (p := ⟨w.heap.size + 1 + 1, 1, none⟩) (by first | (simp; done) | (simp; omega))).trans (by simp [go_sem]); have p7 : ∀ o, w1.frozen? ⟨w.heap.size + 1 + 1, o, none⟩ = false := fun o => (hB0.frozen (p := ⟨w.heap.size + 1 + 1, o, none⟩) (by first | (simp; done) | (simp; omega))).trans (by simp [go_sem]); have hB1 : Below w.heap.size w w1 := (show Below w.heap.size w (((w.alloc (Obj.cells #[Value.bool n1, Value.slice a len cap] 106)).alloc (Obj.cells #[Value.bool n2, Value.slice a2 len2 cap2] 106)).alloc (Obj.cells #[Value.bool false, Value.slice none 0 0] 106)) from gr).trans (hB0.mono (by omega))))
  obtain ⟨g, hg⟩ : ∃ g, w.heap.size + 1 + 1 + 1 = g := ⟨_, rfl⟩
  have HG := Lib.hid hg
  simp only [World.size_alloc, hg] at hown hB0 hS1 ⊢
  have hown0 := Lib.hid (Own.made hown)
  clear hown hgrow hb8 hz0 hz1 hz2 hi hB0 hg
  have hgl : w.heap.size + 1 + 1 < g := by have := HG.out; omega
  go_loopw [23] (fun v23 wr => ∃ (i : Nat) (acc : List Int), i ≤ len ∧ v23 = .int .i64 i ∧ acc.length = len + len2 + 1 ∧ Own wr g (.slice (some ⟨g, 0, none⟩) (len + len2 + 1) (len + len2 + 1)) acc ∧ InR acc ∧ val acc = val (xs.take i) * val ys ∧ Below g w1 wr) (fun v23 _ => len - (intOf v23).toNat)
  case atStart => exact ⟨0, _, by omega, rfl, by simp, hown0.out, (AddInv.start 0 [] [] _).rng, by have := (AddInv.start 0 [] [] (len + len2 + 1)).eq; simp [val] at this ⊢; exact this, Below.refl _ _⟩
  case round =>
    obtain ⟨i, acc, hi, rfl, hal, hown, hir, hva, hbw⟩ := hrel
    have hz := hbw.size
    have q0 := (hbw.cell (p := ⟨w.heap.size, 0, none⟩) (by first | (simp; done) | (simp; omega))).trans p0
    have q2 := (hbw.cell (p := ⟨w.heap.size + 1, 0, none⟩) (by first | (simp; done) | (simp; omega))).trans p2
    have q3 := (hbw.cell (p := ⟨w.heap.size + 1, 1, none⟩) (by first | (simp; done) | (simp; omega))).trans p3
    have q5 := (hbw.cell (p := ⟨w.heap.size + 1 + 1, 0, none⟩) (by first | (simp; done) | (simp; omega))).trans p5
    have q6 := (hbw.cell (p := ⟨w.heap.size + 1 + 1, 1, none⟩) (by first | (simp; done) | (simp; omega))).trans p6
    have q7 := fun o => (hbw.frozen (p := ⟨w.heap.size + 1 + 1, o, none⟩) (by first | (simp; done) | (simp; omega))).trans (p7 o)
    have hB2 : Below w.heap.size w wr := hB1.trans (hbw.mono (by omega))
    by_cases hlt : i < len
    · obtain ⟨b1, o1, ha1, hb1, c1⟩ := HX.out i hlt
      subst ha1
      have c1 := (hB2.cell (p := ⟨b1, o1 + i, none⟩) hb1).trans c1
      have hx1 := RX.out i
      have hps := HS.out i
      have hbi := HB.out (i + 1) (by omega)
      rw [← hps] at hbi
      have hstart := MulInv.start (xs.getD i 0) i ys acc hir hva
      have HPS := Lib.hid hps
      have HDN := Lib.hid (fun ac c (h : MulInv (val (xs.take i) * val ys) (xs.getD i 0) i ys ac (len + len2 + 1) c) hk => h.done hk (by have := HLY.out; omega) hbi.1 hbi.2)
      generalize val (xs.take i) * val ys = V at *
      generalize xs.getD i 0 = X at *
      have HST0 := Lib.hid hstart; have HAL := Lib.hid hal; have HOW := Lib.hid hown
      clear hps hbi hstart hva hal hown hir HS HB HX RX HT
      go_wp2_with fail
      go_loopw [8, 9] (fun v8 v9 wr => ∃ (k : Nat) (c : Int) (ac : List Int), i ≤ k ∧ k ≤ len + len2 + 1 ∧ v9 = .int .i64 k ∧ v8 = .int .i64 c ∧ ac.length = len + len2 + 1 ∧ Own wr g (.slice (some ⟨g, 0, none⟩) (len + len2 + 1) (len + len2 + 1)) ac ∧ MulInv V X i ys ac k c ∧ Below g w1 wr) (fun _ v9 _ => len + len2 + 1 - (intOf v9).toNat)
      case atStart => exact ⟨i, 0, acc, Nat.le_refl _, by omega, rfl, rfl, HAL.out, HOW.out, HST0.out, hbw⟩
      case round =>
        clear q0 q2 q3 q5 q6 q7 c1 hB2 HST0 HAL HOW hbw hz
        obtain ⟨k, c, ac, hk1, hk2, rfl, rfl, hal, hown, hinv, hbw⟩ := hrel
        have hz := hbw.size
        have q0 := (hbw.cell (p := ⟨w.heap.size, 0, none⟩) (by first | (simp; done) | (simp; omega))).trans p0
        have q2 := (hbw.cell (p := ⟨w.heap.size + 1, 0, none⟩) (by first | (simp; done) | (simp; omega))).trans p2
        have q3 := (hbw.cell (p := ⟨w.heap.size + 1, 1, none⟩) (by first | (simp; done) | (simp; omega))).trans p3
        have hB2 : Below w.heap.size w wr := hB1.trans (hbw.mono (by omega))
        by_cases hlt2 : k < len + len2 + 1
        · obtain ⟨c2, c3, c4, c5⟩ := hown.at k (by omega)
          obtain ⟨d, hd⟩ : ∃ d : Nat, k - i = d := ⟨_, rfl⟩
          have hd2 : (k : Int) - (i : Int) = (d : Int) := by omega
          have hst := fun y e => hinv.step2 hx1 HRY.out hk1 (by omega) y e
          rw [hd] at hst
          have hA := hinv.rng.at k
          have hB := RY.out d
          have hcar := hinv.car
          have k2 : (d < len2 ∧ ∃ b o, a2 = some ⟨b, o, none⟩ ∧ wr.cell? ⟨b, o + d, none⟩ = some (.int .i64 (ys.getD d 0))) ∨ (¬ d < len2 ∧ ys.getD d 0 = 0) := by
            by_cases g : d < len2
            · obtain ⟨b2, o2, ha2, hb2, d2⟩ := HY.out d g
              exact .inl ⟨g, b2, o2, ha2, (hB2.cell (p := ⟨b2, o2 + d, none⟩) hb2).trans d2⟩
            · exact .inr ⟨g, Z2.out d (by omega)⟩
          have hm := mul_y hA hcar hx1 hB
          have HO := Lib.hid (fun v => hown.put k v); have HLN := Lib.hid hal
          generalize ac.getD k 0 = A at *
          generalize ys.getD d 0 = Y at *
          obtain ⟨M, hM⟩ : ∃ M, X * Y = M := ⟨_, rfl⟩
          rw [hM] at hm hst
          have HST := Lib.hid hst
          clear hst hal hown hinv hd HDN HPS hA hB
          rcases k2 with ⟨g2, b2, o2, rfl, d2⟩ | ⟨g2, hY0⟩
          · go_wp2_with fail
            go_roundw
            case rel => exact ⟨k + 1, _, _, by omega, by omega, by go_num, rfl, by rw [List.length_set, HLN.out], HO.out _, HST.out _ (by omega), gr⟩
            case measure => simp [intOf]; omega
          · have hM0 : M = 0 := by rw [← hM, hY0]; simp
            subst hM0
            clear hM hY0
            go_wp2_with fail
            go_roundw
            case rel => exact ⟨k + 1, _, _, by omega, by omega, by go_num, rfl, by rw [List.length_set, HLN.out], HO.out _, HST.out _ (by omega), gr⟩
            case measure => simp [intOf]; omega
        · have e : k = len + len2 + 1 := by omega
          subst e
          have hd := HDN.out ac c hinv hal
          rw [HPS.out] at hd
          have hr := hinv.rng
          have HD1 := Lib.hid hd; have HAL := Lib.hid hal; have HOW := Lib.hid hown; have HR := Lib.hid hr
          clear hd hal hown hr hinv HDN HPS
          go_wp2_with fail
          go_roundw
          case rel => exact ⟨i + 1, ac, by omega, by go_num, HAL.out, HOW.out, HR.out, HD1.out, hbw⟩
          case measure => simp [intOf]; omega
    · have e : i = len := by omega
      subst e
      rw [HALL.out] at hva
      have HV := Lib.hid hva; have HAL := Lib.hid hal
      have hl : acc.length ≤ 1048576 := by omega
      have HI := Lib.hid hown
      clear hva hal hown HS HB HX HY Z2 RX RY HALL hown0 p0 p1 p2 p3 p5 p6 p7
      go_wp2_with fail
      refine (HT.out _ _ _ _ _ ?_ hir HV.out hl).mono ?_
      · refine Ints.below HI.out.ints ?_; repeat' (first | (with_reducible first | exact bq1 _ _ | assumption | refine bq2 ?_ ?_ _ | refine bq3 ?_ ?_ _ | refine bq4 ?_ | refine bq5 ?_ _) | (apply bthen2; (with_reducible assumption)) | go_size)
      rintro e wt ⟨a3, l3, c3, rfl, ho3, hbt⟩
      have t5 := (hbt.cell (p := ⟨w.heap.size + 1 + 1, 0, none⟩) (by show _ < wr.heap.size; simp; omega)).trans q5
      have t6 := (hbt.cell (p := ⟨w.heap.size + 1 + 1, 1, none⟩) (by show _ < wr.heap.size; simp; omega)).trans q6
      have t7 := fun o => (hbt.frozen (p := ⟨w.heap.size + 1 + 1, o, none⟩) (by show _ < wr.heap.size; simp; omega)).trans (q7 o)
      have hzt := hbt.size
      have hlt7 : w.heap.size + 1 + 1 < wt.heap.size := by omega
      go_wp2_with fail
      refine bodyPost_ret (v := .agg #[.bool nn, .slice a3 l3 c3]) (by simp [results, Tryz.results115, go_sem, t5, t6, hlt7]) rfl ⟨_, _, _, rfl, ((ho3.set (p := ⟨w.heap.size + 1 + 1, 0, none⟩) (by show _ < wr.heap.size; simp; omega) _).set (p := ⟨w.heap.size + 1 + 1, 1, none⟩) (by show _ < wr.heap.size; simp; omega) _).mono (by omega), gr⟩
theorem sgn_val (z1 z2 : Int) : ((decide (z1 < 0) != decide (z2 < 0)) && decide ((val (dg z1.natAbs) * val (dg z2.natAbs)).toNat ≠ 0)) = decide (z1 * z2 < 0) ∧ dg (val (dg z1.natAbs) * val (dg z2.natAbs)).toNat = dg (z1 * z2).natAbs := by
  have e : (val (dg z1.natAbs) * val (dg z2.natAbs)).toNat = (z1 * z2).natAbs := by
    rw [val_dg, val_dg, Int.natAbs_mul]
    have : ((z1.natAbs : Int) * (z2.natAbs : Int)) = ((z1.natAbs * z2.natAbs : Nat) : Int) := by simp
    rw [this, Int.toNat_natCast]
  rw [e]
  exact ⟨sgn_mul z1 z2, rfl⟩
theorem mulWholes_any (z1 z2 : Int) (a a2 : Option Addr) (len cap len2 cap2 : Nat) (w : World) (hx : Ints w (.slice a len cap) (dg z1.natAbs)) (hy : Ints w (.slice a2 len2 cap2) (dg z2.natAbs)) (lx : (dg z1.natAbs).length ≤ 500000) (ly : (dg z2.natAbs).length ≤ 500000) :
    Calls Tryz.prog 115 #[.agg #[.bool (decide (z1 < 0)), .slice a len cap], .agg #[.bool (decide (z2 < 0)), .slice a2 len2 cap2]] w (GivesZ (z1 * z2) w) :=
  (mulWholes_dig _ _ a a2 len cap len2 cap2 _ _ w hx hy (inR_dg _) (inR_dg _) lx ly).mono fun _ _ h => GivesW.cast (sgn_val z1 z2).1 (sgn_val z1 z2).2 h
/-! ### sums and products of lists of wholes -/
def WsAt (w : World) (b : Nat) (zs : List Int) : Prop := b < w.heap.size ∧ ∀ i, i < zs.length → ∃ a l c, w.cell? ⟨b, i * 2, none⟩ = some (.bool (decide (zs.getD i 0 < 0))) ∧ w.cell? ⟨b, i * 2 + 1, none⟩ = some (.slice a l c) ∧ Ints w (.slice a l c) (dg (zs.getD i 0).natAbs)
/-! ### wholes are compared, signs and all -/
def cmpS (n1 n2 : Bool) (x y : Int) : Int := if n1 && !n2 then -1 else if n2 && !n1 then 1 else if n1 then cmpI y x else cmpI x y
theorem cmpS_z (z1 z2 : Int) : cmpS (decide (z1 < 0)) (decide (z2 < 0)) (z1.natAbs : Int) (z2.natAbs : Int) = cmpI z1 z2 := by
  unfold cmpS
  by_cases h1 : z1 < 0 <;> by_cases h2 : z2 < 0 <;> simp only [h1, h2, decide_true, decide_false, Bool.not_true, Bool.not_false, Bool.and_true, Bool.and_false, Bool.and_self, if_true, if_false, Bool.false_eq_true] <;> unfold cmpI <;> split <;> (try split) <;> (try split) <;> (try split) <;> omega
theorem compareWholes_dig (n1 n2 : Bool) (a a2 : Option Addr) (len cap len2 cap2 : Nat) (xs ys : List Int) (w : World) (hx : Ints w (.slice a len cap) xs) (hy : Ints w (.slice a2 len2 cap2) ys) (rx : Can xs) (ry : Can ys) (lx : xs.length ≤ 1000000) (ly : ys.length ≤ 1000000) :
    Calls Tryz.prog 139 #[.agg #[.bool n1, .slice a len cap], .agg #[.bool n2, .slice a2 len2 cap2]] w (Gives (.int .i64 (cmpS n1 n2 (val xs) (val ys))) w) := by
  have H1 := Lib.hid (fun n1 n2 W h h' => compareSizes_any n1 n2 a a2 len cap len2 cap2 xs ys W h h' rx ry lx ly)
  have H2 := Lib.hid (fun n1 n2 W h h' => compareSizes_any n1 n2 a2 a len2 cap2 len cap ys xs W h' h ry rx ly lx)
  have HX := Lib.hid hx; have HY := Lib.hid hy
  clear hx hy rx ry lx ly
  generalize val xs = X at *
  generalize val ys = Y at *
  cases n1 <;> cases n2
  · rw [show cmpS false false X Y = cmpI X Y from rfl]
    generalize cmpI X Y = C at *
    go_enter Tryz.func139, Tryz.ntmps139
    go_wp2_with fail
    refine (H1.out _ _ _ ?_ ?_).mono ?_
    · refine Ints.below HX.out ?_; repeat' (first | (with_reducible first | exact bq1 _ _ | assumption | refine bq2 ?_ ?_ _ | refine bq3 ?_ ?_ _ | refine bq4 ?_ | refine bq5 ?_ _) | (apply bthen2; (with_reducible assumption)) | go_size)
    · refine Ints.below HY.out ?_; repeat' (first | (with_reducible first | exact bq1 _ _ | assumption | refine bq2 ?_ ?_ _ | refine bq3 ?_ ?_ _ | refine bq4 ?_ | refine bq5 ?_ _) | (apply bthen2; (with_reducible assumption)) | go_size)
    rintro e wa ⟨rfl, hba⟩; have hza := hba.size; (try simp only [wz1, wz2, wz3, wz4] at hza); try (refine keepc hba (w.heap.size) ?_ ?_; (focus (first | omega | (simp <;> omega))); intro hca_0 hfa_0 hla_0); try (refine keepc hba (w.heap.size + 1) ?_ ?_; (focus (first | omega | (simp <;> omega))); intro hca_1 hfa_1 hla_1); try (refine keepc hba (w.heap.size + 1 + 1) ?_ ?_; (focus (first | omega | (simp <;> omega))); intro hca_2 hfa_2 hla_2)
    go_wp2_with fail
    go_ret
    exact gives rfl gr
  · rw [show cmpS false true X Y = 1 from rfl]
    go_enter Tryz.func139, Tryz.ntmps139
    go_wp2_with fail
    go_ret
    exact gives rfl gr
  · rw [show cmpS true false X Y = -1 from rfl]
    go_enter Tryz.func139, Tryz.ntmps139
    go_wp2_with fail
    go_ret
    exact gives rfl gr
  · rw [show cmpS true true X Y = cmpI Y X from rfl]
    generalize cmpI Y X = C at *
    go_enter Tryz.func139, Tryz.ntmps139
    go_wp2_with fail
    refine (H2.out _ _ _ ?_ ?_).mono ?_
    · refine Ints.below HX.out ?_; repeat' (first | (with_reducible first | exact bq1 _ _ | assumption | refine bq2 ?_ ?_ _ | refine bq3 ?_ ?_ _ | refine bq4 ?_ | refine bq5 ?_ _) | (apply bthen2; (with_reducible assumption)) | go_size)
    · refine Ints.below HY.out ?_; repeat' (first | (with_reducible first | exact bq1 _ _ | assumption | refine bq2 ?_ ?_ _ | refine bq3 ?_ ?_ _ | refine bq4 ?_ | refine bq5 ?_ _) | (apply bthen2; (with_reducible assumption)) | go_size)
    rintro e wa ⟨rfl, hba⟩; have hza := hba.size; (try simp only [wz1, wz2, wz3, wz4] at hza); try (refine keepc hba (w.heap.size) ?_ ?_; (focus (first | omega | (simp <;> omega))); intro hca_0 hfa_0 hla_0); try (refine keepc hba (w.heap.size + 1) ?_ ?_; (focus (first | omega | (simp <;> omega))); intro hca_1 hfa_1 hla_1); try (refine keepc hba (w.heap.size + 1 + 1) ?_ ?_; (focus (first | omega | (simp <;> omega))); intro hca_2 hfa_2 hla_2)
    go_wp2_with fail
    go_ret
    exact gives rfl gr
theorem compareWholes_any (z1 z2 : Int) (a a2 : Option Addr) (len cap len2 cap2 : Nat) (w : World) (hx : Ints w (.slice a len cap) (dg z1.natAbs)) (hy : Ints w (.slice a2 len2 cap2) (dg z2.natAbs)) (lx : (dg z1.natAbs).length ≤ 1000000) (ly : (dg z2.natAbs).length ≤ 1000000) :
    Calls Tryz.prog 139 #[.agg #[.bool (decide (z1 < 0)), .slice a len cap], .agg #[.bool (decide (z2 < 0)), .slice a2 len2 cap2]] w (Gives (.int .i64 (cmpI z1 z2)) w) := by
  have h := compareWholes_dig (decide (z1 < 0)) (decide (z2 < 0)) a a2 len cap len2 cap2 _ _ w hx hy (can_dg _) (can_dg _) lx ly
  rw [val_dg, val_dg, cmpS_z] at h
  exact h
/-! ### opposites, differences, products with numbers -/
theorem sgn_neg (z : Int) : ((!decide (z < 0)) && decide (0 < tz (dg z.natAbs) (dg z.natAbs).length)) = decide (-z < 0) := by
  rw [tz_can (can_dg _), len0]
  by_cases h : z < 0
  · have h2 : ¬ -z < 0 := by omega
    simp [h, h2]; omega
  · by_cases h0 : z = 0
    · subst h0; simp
    · have h2 : -z < 0 := by omega
      have h3 : z.natAbs ≠ 0 := by omega
      simp [h, h2, h3, h0]; omega
theorem negated_any (z : Int) (a : Option Addr) (len cap : Nat) (w : World) (hx : Ints w (.slice a len cap) (dg z.natAbs)) (lx : (dg z.natAbs).length ≤ 1000000) :
    Calls Tryz.prog 118 #[.agg #[.bool (decide (z < 0)), .slice a len cap]] w (GivesZ (-z) w) := by
  have HT := Lib.hid (fun W h => trimmed_any (!decide (z < 0)) a len cap (dg z.natAbs) W h (by omega))
  rw [sgn_neg, trim_can (can_dg _)] at HT
  have HX := Lib.hid hx
  clear hx lx
  unfold GivesZ
  rw [Int.natAbs_neg]
  generalize decide (-z < 0) = m at *
  generalize dg z.natAbs = D at *
  obtain ⟨n, hn⟩ : ∃ n, decide (z < 0) = n := ⟨_, rfl⟩
  rw [hn] at HT ⊢
  clear hn
  cases n
  all_goals
    go_enter Tryz.func118, Tryz.ntmps118
    go_wp2_with fail
    refine (HT.out _ ?_).mono ?_
    · refine Ints.below HX.out ?_; repeat' (first | (with_reducible first | exact bq1 _ _ | assumption | refine bq2 ?_ ?_ _ | refine bq3 ?_ ?_ _ | refine bq4 ?_ | refine bq5 ?_ _) | (apply bthen2; (with_reducible assumption)) | go_size)
    rintro e wa ⟨a3, l3, c3, rfl, ho3, hba⟩
    have hza := hba.size; (try simp only [wz1, wz2, wz3, wz4] at hza); try (refine keepc hba (w.heap.size) ?_ ?_; (focus (first | omega | (simp <;> omega))); intro hca_0 hfa_0 hla_0); try (refine keepc hba (w.heap.size + 1) ?_ ?_; (focus (first | omega | (simp <;> omega))); intro hca_1 hfa_1 hla_1); try (refine keepc hba (w.heap.size + 1 + 1) ?_ ?_; (focus (first | omega | (simp <;> omega))); intro hca_2 hfa_2 hla_2)
    go_wp2_with fail
    refine bodyPost_ret (v := .agg #[.bool m, .slice a3 l3 c3]) (by simp [results, Tryz.results118, go_sem, hca_1, hla_1]) rfl ⟨_, _, _, rfl, ((ho3.set (p := ⟨w.heap.size + 1, 0, none⟩) (by first | (simp; done) | (simp; omega)) _).set (p := ⟨w.heap.size + 1, 1, none⟩) (by first | (simp; done) | (simp; omega)) _).mono (by first | (simp; done) | (simp; omega)), gr⟩
end Go.Proofs.YtjgdajeoeagggaaGreat
