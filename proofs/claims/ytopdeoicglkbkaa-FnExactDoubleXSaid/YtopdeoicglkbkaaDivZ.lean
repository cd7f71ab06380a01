import Derived.Test.YtopdeoicglkbkaaPol
import Derived.Test.YtopdeoicglkbkaaBits
import Derived.Test.YtopdeoicglkbkaaCmpR
set_option linter.unusedSimpArgs false
set_option linter.unusedVariables false
namespace Go.Proofs.Ytopdeoicglkbkaa
open Go.RowKit
/-! ### division of negative wholes -/

theorem neg_div0 {V n : Int} (hn : 0 < n) (h : V % n = 0) : (-V) / n = -(V / n) ∧ (-V) % n = 0 := by
  refine (Int.ediv_emod_unique hn).2 ⟨?_, by omega, by omega⟩
  have := Int.mul_ediv_add_emod V n
  rw [Int.mul_neg]; omega
theorem neg_div1 {V n : Int} (hn : 0 < n) (h : 0 < V % n) : (-V) / n = -(V / n) - 1 ∧ (-V) % n = n - V % n := by
  have h2 := Int.emod_lt_of_pos V hn
  refine (Int.ediv_emod_unique hn).2 ⟨?_, by omega, by omega⟩
  have := Int.mul_ediv_add_emod V n
  rw [Int.mul_sub, Int.mul_neg]; omega
theorem trim_len (xs : List Int) (h : tz xs xs.length ≤ xs.length) : (trim xs).length = tz xs xs.length := by unfold trim; rw [List.length_take]; omega
theorem sgn_q {xs : List Int} {Q : Nat} (h : trim xs = dg Q) : (true && decide (0 < tz xs xs.length)) = decide (-(Q : Int) < 0) := by
  rw [← trim_len xs (tz_le xs xs.length), h, Bool.true_and, len0]
  by_cases hq : Q = 0
  · subst hq; simp
  · simp [hq]; omega
theorem GivesWI.cast {n n2 : Bool} {D D2 : List Int} {r r2 : Int} {w : World} {e : Ending} {w' : World} (h1 : n = n2) (h2 : D = D2) (h3 : r = r2) (h : GivesWI n D r w e w') : GivesWI n2 D2 r2 w e w' := by subst h1 h2 h3; exact h
def GivesZI (z r : Int) (w : World) (e : Ending) (w' : World) : Prop := GivesWI (decide (z < 0)) (dg z.natAbs) r w e w'

set_option maxHeartbeats 4000000 in
set_option maxRecDepth 100000 in
theorem bgOver_neg (a : Option Addr) (len cap : Nat) (xs : List Int) (n : Int) (w : World) (hx : Ints w (.slice a len cap) xs) (hr : InR xs) (hl : xs.length ≤ 1000000) (hn : 0 < n) (hn2 : n ≤ 1000000000000) :
    Calls Try.prog 109 #[.agg #[.bool true, .slice a len cap], .int .i64 n] w (GivesZI (-(val xs) / n) (-(val xs) % n) w) := by
  obtain ⟨h1, h2, h3⟩ := hx.cell
  obtain ⟨i0, hi, hz0, hz1, hz2⟩ := info_parts infoInt
  have hb8 : i0.bytes * len ≤ 281474976710656 := by rw [hz2]; omega
  have hml : len ≤ maxLen := by unfold maxLen; omega
  have hq := qd_spec hn hr
  have HL := Lib.hid (qd_len n xs)
  have hV0 := val_nonneg hr
  obtain ⟨Q, hQ⟩ : ∃ Q : Nat, (val xs).toNat / n.toNat = Q := ⟨_, rfl⟩
  have hVQ : val xs / n = (Q : Int) := by
    rw [← hQ]
    have e1 : val xs = ((val xs).toNat : Int) := by omega
    have e2 : n = (n.toNat : Int) := by omega
    rw [e1, e2]; simp
  rw [hQ] at hq
  have hlQ : (dg Q).length ≤ 1000000 := by rw [← hq.1, trim_len _ (tz_le _ _)]; have := tz_le (qd n xs).1 (qd n xs).1.length; have := qd_len n xs; omega
  have SGQ := Lib.hid (sgn_q hq.1); have TQ := Lib.hid hq.1; have RQ := Lib.hid hq.2
  have Z0 := Lib.hid (show val xs % n = 0 → -(val xs) / n = -(Q : Int) ∧ -(val xs) % n = 0 from fun h => by have := neg_div0 hn h; rw [hVQ] at this; exact this)
  have Z1 := Lib.hid (show 0 < val xs % n → -(val xs) / n = -(Q : Int) - 1 ∧ -(val xs) % n = n - val xs % n from fun h => by have := neg_div1 hn h; rw [hVQ] at this; exact this)
  have RB := Lib.hid (show 0 ≤ val xs % n ∧ val xs % n < n from ⟨Int.emod_nonneg _ (by omega), Int.emod_lt_of_pos _ hn⟩)
  have HONE := Lib.hid (fun W => bgOf_any 1 (by omega) (by omega) W)
  have HOP := Lib.hid (fun a2 l2 c2 a3 l3 c3 W h h' => bgSub_any (-(Q : Int)) 1 a2 a3 l2 c2 l3 c3 W h h' (by rw [Int.natAbs_neg]; exact hlQ) (by decide +kernel))
  have hz1 : -(Q : Int) - 1 = -(Q : Int) - 1 := by omega
  rw [hz1] at HOP
  rw [show (-(Q : Int)).natAbs = Q by omega] at HOP
  unfold GivesZI
  generalize -(val xs) / n = ZQ at *
  generalize -(val xs) % n = ZR at *
  generalize val xs % n = VR at *
  clear hV0 hQ hVQ hlQ hz1
  have HC := Lib.hid h3
  have HR := Lib.hid (fun k (h : k < len) => hr (xs.getD k 0) (by
    have hk : k < xs.length := by omega
    simp only [List.getD, List.getElem?_eq_getElem hk, Option.getD_some]; exact List.getElem_mem _))
  have HQ := Lib.hid (fun l => qd_rest hn l)
  have HD := Lib.hid (fun k h => qd_drop n xs k h)
  have HS := Lib.hid (fun k h => rowQ_set n xs k h)
  have HLN := Lib.hid (fun k h => rowQ_len n xs k h)
  have e0 := rowQ_all n xs
  rw [h1] at e0
  have E0 := Lib.hid e0
  have hqa : rowQ n xs 0 = (qd n xs).1.map (Value.int .i64) := by simp [rowQ]
  have HQA := Lib.hid hqa
  have hH1 := Lib.hid h1
  have hll : len ≤ 1000000 := by omega
  clear hq hr h3 e0 hqa hx h1 hl
  go_enter Try.func109, Try.ntmps109
  go_wp2_with (first | (at_make; refine wpList_make_full _ rfl _ _ 24 rfl (w.heap.size + 1 + 1) 3 i0 (.int .i64 0) 1 Try.underlying24 hi hz0 hz1 .i64 .i64 _ _ len rfl rfl rfl rfl hb8 hml (by simp) ?_; intro w1 hown hgrow; have hB0 := (Below.refl (w.heap.size + 1 + 1) _).grown hgrow (by simp) (fun k h => by cases h); have hS1 := World.ownsRow.lt hown; (simp only [World.size_alloc] at hS1); have p0 : w1.cell? ⟨w.heap.size, 0, none⟩ = some (.bool true) := (hB0.cell (p := ⟨w.heap.size, 0, none⟩) (by simp; omega)).trans (by simp [go_sem]); have p1 : w1.cell? ⟨w.heap.size, 1, none⟩ = some (.slice a len cap) := (hB0.cell (p := ⟨w.heap.size, 1, none⟩) (by simp; omega)).trans (by simp [go_sem]); have p2 : w1.cell? ⟨w.heap.size + 1, 0, none⟩ = some (.bool false) := (hB0.cell (p := ⟨w.heap.size + 1, 0, none⟩) (by simp)).trans (by simp [go_sem]); have p3 : w1.cell? ⟨w.heap.size + 1, 1, none⟩ = some (.slice none 0 0) := (hB0.cell (p := ⟨w.heap.size + 1, 1, none⟩) (by simp)).trans (by simp [go_sem]); have p4 : ∀ o, w1.frozen? ⟨w.heap.size + 1, o, none⟩ = false := fun o => (hB0.frozen (p := ⟨w.heap.size + 1, o, none⟩) (by simp)).trans (by simp [go_sem]); have hB1 : Below w.heap.size w w1 := (show Below w.heap.size w ((w.alloc (Obj.cells #[Value.bool true, Value.slice a len cap] 26)).alloc (Obj.cells #[Value.bool false, Value.slice none 0 0] 26)) from (by repeat' (first | (with_reducible exact Below.refl _ _) | (with_reducible assumption) | (with_reducible refine Below.alloc ?_ ?_ _) | (with_reducible refine Below.setCell ?_ ?_ _) | (with_reducible refine Below.drew ?_) | (with_reducible refine below_drewN ?_ _) | (apply bthen2; (with_reducible assumption)) | go_size))).trans (hB0.mono (by omega))))
  have hown0 : w1.ownsRow (w.heap.size + 1 + 1) 3 1 (.slice (some ⟨w.heap.size + 1 + 1, 0, none⟩) len len) len (rowQ n xs len) := by
    rw [E0.out]
    have : (madeCells (Value.int IntKind.i64 0).cells (len * 1)).toList = List.replicate len (.int .i64 0) := by rw [Nat.mul_one]; exact toList_madeCells_one _ _
    rw [← this]
    simpa using hown
  have HOWN0 := Lib.hid hown0
  clear hown hown0 hgrow hb8 hz0 hz1 hz2 hi hB0 E0
  have hq0 : (qd n (xs.drop len)).2 = 0 := by rw [← hH1.out, List.drop_length]; rfl
  go_loopw [7, 8] (fun v7 v8 wr => ∃ k : Nat, k ≤ len ∧ v8 = .int .i64 ((k : Int) - 1) ∧ v7 = .int .i64 (qd n (xs.drop k)).2 ∧ Hid (wr.ownsRow (w.heap.size + 1 + 1) 3 1 (.slice (some ⟨w.heap.size + 1 + 1, 0, none⟩) len len) len (rowQ n xs k)) ∧ Below (w.heap.size + 1 + 1) w1 wr) (fun _ v8 _ => (intOf v8 + 1).toNat)
  case atStart => exact ⟨len, Nat.le_refl _, rfl, by rw [hq0], HOWN0.out, Below.refl _ _⟩
  case round =>
    obtain ⟨k, hk, rfl, rfl, hown, hbw⟩ := hrel
    have hz := hbw.size
    have q0 := (hbw.cell (p := ⟨w.heap.size, 0, none⟩) (by simp; omega)).trans p0
    have q1 := (hbw.cell (p := ⟨w.heap.size, 1, none⟩) (by simp; omega)).trans p1
    have q2 := (hbw.cell (p := ⟨w.heap.size + 1, 0, none⟩) (by simp)).trans p2
    have q3 := (hbw.cell (p := ⟨w.heap.size + 1, 1, none⟩) (by simp)).trans p3
    have q4 := fun o => (hbw.frozen (p := ⟨w.heap.size + 1, o, none⟩) (by simp)).trans (p4 o)
    have hB2 : Below w.heap.size w wr := hB1.trans (hbw.mono (by omega))
    cases k with
    | zero =>
      have ho : Own wr (w.heap.size + 1 + 1) (.slice (some ⟨w.heap.size + 1 + 1, 0, none⟩) len len) (qd n xs).1 := by
        unfold Own
        rw [HL.out, hH1.out, ← HQA.out]
        exact hown.out
      have hlq : (qd n xs).1.length ≤ 1048576 := by rw [HL.out, hH1.out]; omega
      have HB := Lib.hid (fun W h => bgMake_any true (some ⟨w.heap.size + 1 + 1, 0, none⟩) len len (qd n xs).1 W h hlq)
      rw [SGQ.out, TQ.out] at HB
      have e1 : qd n (xs.drop 0) = qd n xs := by rw [List.drop_zero]
      rw [e1, RQ.out]
      have ho3 := Lib.hid ho.ints
      clear HL HQ HD HS HLN HR HC HQA hown e1 ho SGQ TQ RQ
      have g0 : w.heap.size < wr.heap.size := by omega
      have g1 : w.heap.size + 1 < wr.heap.size := by omega
      obtain ⟨nq, hnq⟩ : ∃ b, decide (-(Q : Int) < 0) = b := ⟨_, rfl⟩
      rw [hnq] at HB HOP
      by_cases h0 : VR = 0
      · obtain ⟨y1, y2⟩ := Z0.out h0
        have E1 := Lib.hid (show nq = decide (ZQ < 0) by rw [y1, hnq])
        have E2 := Lib.hid (show dg Q = dg ZQ.natAbs by rw [y1, show (-(Q : Int)).natAbs = Q by omega])
        have E3 := Lib.hid (show (0 : Int) = ZR from y2.symm)
        subst h0
        generalize dg Q = DQ at *
        clear HONE HOP Z0 Z1 RB y1 y2 hnq
        go_wp2_with fail
        refine (HB.out _ ?_).mono ?_
        · refine Ints.below ho3.out ?_; repeat' (first | (with_reducible exact Below.refl _ _) | (with_reducible assumption) | (with_reducible refine Below.alloc ?_ ?_ _) | (with_reducible refine Below.setCell ?_ ?_ _) | (with_reducible refine Below.drew ?_) | (with_reducible refine below_drewN ?_ _) | (apply bthen2; (with_reducible assumption)) | go_size)
        rintro e wb ⟨a2, len2, cap2, rfl, ho2, hbb⟩
        clear HB
        have hzb := hbb.size; (try simp only [World.size_alloc, World.size_setCell, World.size_drew, World.heap_drewN] at hzb); try (refine keepc hbb (w.heap.size) ?_ ?_; (focus (first | omega | (simp <;> omega))); intro hcb_0 hfb_0 hlb_0); try (refine keepc hbb (w.heap.size + 1) ?_ ?_; (focus (first | omega | (simp <;> omega))); intro hcb_1 hfb_1 hlb_1); try (refine keepc hbb (w.heap.size + 1 + 1) ?_ ?_; (focus (first | omega | (simp <;> omega))); intro hcb_2 hfb_2 hlb_2)
        go_wp2_with fail
        refine bodyPost_ret (v := .tuple #[.agg #[.bool nq, .slice a2 len2 cap2], .int .i64 0]) (by simp [results, Try.results109, go_sem, hcb_1, q2, q3, hlb_1]) rfl (GivesWI.cast E1.out E2.out E3.out ⟨_, _, _, rfl, (((ho2.set (p := ⟨w.heap.size + 1, 0, none⟩) (by show w.heap.size + 1 < wr.heap.size; omega) _).set (p := ⟨w.heap.size + 1, 1, none⟩) (by show w.heap.size + 1 < wr.heap.size; omega) _).alloc _).mono (by omega), (by repeat' (first | (with_reducible exact Below.refl _ _) | (with_reducible assumption) | (with_reducible refine Below.alloc ?_ ?_ _) | (with_reducible refine Below.setCell ?_ ?_ _) | (with_reducible refine Below.drew ?_) | (with_reducible refine below_drewN ?_ _) | (apply bthen2; (with_reducible assumption)) | go_size))⟩)
      · have h1 : 0 < VR := by have := RB.out; omega
        obtain ⟨y1, y2⟩ := Z1.out h1
        have hw : wrap64 (n - VR) = n - VR := win (by have := RB.out; omega)
        unfold GivesZ at HOP
        obtain ⟨nz, hnz⟩ : ∃ b, decide (-(Q : Int) - 1 < 0) = b := ⟨_, rfl⟩
        obtain ⟨DZ, hDZ⟩ : ∃ b, dg (-(Q : Int) - 1).natAbs = b := ⟨_, rfl⟩
        rw [hnz, hDZ] at HOP
        have E1 := Lib.hid (show nz = decide (ZQ < 0) by rw [y1, hnz])
        have E2 := Lib.hid (show DZ = dg ZQ.natAbs by rw [y1, hDZ])
        have E3 := Lib.hid (show n - VR = ZR from y2.symm)
        generalize dg Q = DQ at *
        obtain ⟨n1, hn1⟩ : ∃ b, decide ((1 : Int) < 0) = b := ⟨_, rfl⟩
        obtain ⟨D1, hD1⟩ : ∃ b, dg (1 : Int).natAbs = b := ⟨_, rfl⟩
        rw [hn1, hD1] at HONE HOP
        clear Z0 Z1 RB y1 y2 hnz hDZ hnq hn1 hD1 h0
        go_wp2_with fail
        refine (HB.out _ ?_).mono ?_
        · refine Ints.below ho3.out ?_; repeat' (first | (with_reducible exact Below.refl _ _) | (with_reducible assumption) | (with_reducible refine Below.alloc ?_ ?_ _) | (with_reducible refine Below.setCell ?_ ?_ _) | (with_reducible refine Below.drew ?_) | (with_reducible refine below_drewN ?_ _) | (apply bthen2; (with_reducible assumption)) | go_size)
        rintro e wb ⟨a2, len2, cap2, rfl, ho2, hbb⟩
        clear HB
        have hzb := hbb.size; (try simp only [World.size_alloc, World.size_setCell, World.size_drew, World.heap_drewN] at hzb); try (refine keepc hbb (w.heap.size) ?_ ?_; (focus (first | omega | (simp <;> omega))); intro hcb_0 hfb_0 hlb_0); try (refine keepc hbb (w.heap.size + 1) ?_ ?_; (focus (first | omega | (simp <;> omega))); intro hcb_1 hfb_1 hlb_1); try (refine keepc hbb (w.heap.size + 1 + 1) ?_ ?_; (focus (first | omega | (simp <;> omega))); intro hcb_2 hfb_2 hlb_2)
        go_wp2_with fail
        refine name_world (fun W1 hW1 => ?_)
        have hB3 : Below w.heap.size w W1 := by subst hW1; exact (by repeat' (first | (with_reducible exact Below.refl _ _) | (with_reducible assumption) | (with_reducible refine Below.alloc ?_ ?_ _) | (with_reducible refine Below.setCell ?_ ?_ _) | (with_reducible refine Below.drew ?_) | (with_reducible refine below_drewN ?_ _) | (apply bthen2; (with_reducible assumption)) | go_size))
        have BR : Box W1 (w.heap.size + 1) [.bool false, .slice none 0 0] := by subst hW1; exact box_two (by first | (simp; done) | (simp; omega) | omega) (by simp [hcb_1, q2, hlb_1, go_sem]) (by simp [hcb_1, q3, hlb_1, go_sem]) (fun o => by simp [hfb_1, q4, hlb_1, go_sem])
        have Bq : Box W1 wb.heap.size [.bool nq, .slice a2 len2 cap2] := by subst hW1; exact box_two (by first | (simp; done) | (simp; omega) | omega) (by simp [go_sem]) (by simp [go_sem]) (fun o => by simp [go_sem])
        have Iq : Ints W1 (.slice a2 len2 cap2) DQ := by subst hW1; exact ho2.ints.alloc _
        have hR1 : w.heap.size + 1 < wb.heap.size := hlb_1
        have hR2 : wb.heap.size < W1.heap.size := Bq.1
        clear hW1 ho2 ho3
        have tok1 := True.intro
        have tok2 := True.intro
        have qT := BR
        have qT0 := qT.2.1 0 _ rfl
        have qT1 := qT.2.1 1 _ rfl
        have qTf := qT.2.2
        go_region_held3 (fun w' => ChgS (fun k => k = w.heap.size + 1) W1 w' ∧ w'.cell? ⟨wb.heap.size, 0, none⟩ = some (.bool nq) ∧ w'.cell? ⟨wb.heap.size, 1, none⟩ = some (.slice a2 len2 cap2)) ((refine (fun hK => And.intro hK (by exact ⟨(hK.cell (b := wb.heap.size) (o := 0) hR2 (by omega)).trans (Bq.2.1 0 _ rfl), (hK.cell (b := wb.heap.size) (o := 1) hR2 (by omega)).trans (Bq.2.1 1 _ rfl)⟩)) ?_; repeat' (first | (with_reducible exact ChgS.refl _ _) | (with_reducible assumption) | (with_reducible refine ChgS.alloc ?_ _) | (with_reducible refine ChgS.drew ?_) | (with_reducible refine ChgS.set ?_ ?_ _) | (apply ChgS.stepB; (with_reducible assumption)) | (exact rfl)))) ((first | (go_at_call 86; clear tok1; refine (HONE.out _).mono ?_; rintro e u1 ⟨a4, l4, c4, rfl, o4, hb1⟩; have hz1 := hb1.size; (try simp only [World.size_alloc, World.size_setCell, World.size_drew, World.heap_drewN] at hz1); have i4 := o4.ints; have qT := Box.below (show Box _ (w.heap.size + 1) [.bool false, .slice none 0 0] from (by (repeat' (first | (with_reducible assumption) | (with_reducible refine Box.alloc ?_ _) | (with_reducible refine Box.drew ?_))))) hb1; have qT0 := qT.2.1 0 _ rfl; have qT1 := qT.2.1 1 _ rfl; have qTf := qT.2.2) | (go_at_call 107; clear tok2; refine (HOP.out _ _ _ _ _ _ _ ?_ ?_).mono ?_; (focus (exact (by refine Ints.below Iq ?_; repeat' (first | (with_reducible exact Below.refl _ _) | (with_reducible assumption) | (with_reducible refine Below.alloc ?_ ?_ _) | (with_reducible refine Below.setCell ?_ ?_ _) | (with_reducible refine Below.drew ?_) | (with_reducible refine below_drewN ?_ _) | (apply bthen2; (with_reducible assumption)) | go_size)))); (focus (exact (by refine Ints.below i4 ?_; repeat' (first | (with_reducible exact Below.refl _ _) | (with_reducible assumption) | (with_reducible refine Below.alloc ?_ ?_ _) | (with_reducible refine Below.setCell ?_ ?_ _) | (with_reducible refine Below.drew ?_) | (with_reducible refine below_drewN ?_ _) | (apply bthen2; (with_reducible assumption)) | go_size)))); rintro e u2 ⟨a5, l5, c5, rfl, o5, hb2⟩; have hz2 := hb2.size; (try simp only [World.size_alloc, World.size_setCell, World.size_drew, World.heap_drewN] at hz2); have qT := Box.below (show Box _ (w.heap.size + 1) [.bool false, .slice none 0 0] from (by (repeat' (first | (with_reducible assumption) | (with_reducible refine Box.alloc ?_ _) | (with_reducible refine Box.drew ?_))))) hb2; have qT0 := qT.2.1 0 _ rfl; have qT1 := qT.2.1 1 _ rfl; have qTf := qT.2.2)))
        all_goals
          have qTl := qT.1
          go_wp2_with fail
          refine bodyPost_ret (v := .tuple #[.agg #[.bool nz, .slice a5 l5 c5], .int .i64 (n - VR)]) (by simp [results, Try.results109, go_sem, qT0, qT1, qTf, qTl, hw, IntWalk.i64_left]) rfl (GivesWI.cast E1.out E2.out E3.out ⟨_, _, _, rfl, ((o5.set (p := ⟨w.heap.size + 1, 0, none⟩) (by first | omega | (simp; done) | (simp; omega)) _).set (p := ⟨w.heap.size + 1, 1, none⟩) (by first | omega | (simp; done) | (simp; omega)) _).mono (by first | omega | (simp; done) | (simp; omega)), (by repeat' (first | (with_reducible exact Below.refl _ _) | (with_reducible assumption) | (with_reducible refine Below.alloc ?_ ?_ _) | (with_reducible refine Below.setCell ?_ ?_ _) | (with_reducible refine Below.drew ?_) | (with_reducible refine below_drewN ?_ _) | (apply bthen2; (with_reducible assumption)) | go_size))⟩)
    | succ k =>
      obtain ⟨b, off, ha, hbl, hc⟩ := HC.out k (by omega)
      subst ha
      have c1 : wr.cell? ⟨b, off + k, none⟩ = some (.int .i64 (xs.getD k 0)) := (hB2.cell (p := ⟨b, off + k, none⟩) hbl).trans hc
      have c2 := World.ownsRow.cellAt hown.out k (by omega)
      have c3 := World.ownsRow.frozenAt hown.out k
      have hx1 := hH1.out
      have c4 : ∃ v, (rowQ n xs (k + 1))[k]? = some v := by
        have h1 := HLN.out (k + 1) (by omega)
        have : k < (rowQ n xs (k + 1)).length := by omega
        exact ⟨_, List.getElem?_eq_getElem this⟩
      obtain ⟨v, hv⟩ := c4
      rw [hv] at c2
      have hs := World.ownsRow.stored hown.out k (.int .i64 (((qd n (xs.drop (k + 1))).2 * 10000 + xs.getD k 0) / n))
      rw [HS.out k (by omega)] at hs
      have hd := congrArg Prod.snd (HD.out k (by omega))
      simp only at hd
      obtain ⟨r1, r2⟩ := HQ.out (xs.drop (k + 1))
      obtain ⟨x1, x2⟩ := HR.out k (by omega)
      have HSS := Lib.hid hs
      have HDD := Lib.hid hd
      have hnz : n ≠ 0 := by omega
      have e0 : ((k + 1 : Nat) : Int) - 1 = (k : Int) := by omega
      rw [e0]
      clear hs hd hv hc hx1
      generalize (qd n (xs.drop (k + 1))).2 = R at *
      generalize xs.getD k 0 = X at *
      have hr3 : 0 ≤ R * 10000 + X := by omega
      have hr4 : R * 10000 + X ≤ 10000000000009999 := by omega
      go_wp2_with fail
      go_roundw
      case rel => exact ⟨k, by omega, rfl, by rw [HDD.out], HSS.out.1, hbw.grown (row := some (w.heap.size + 1 + 1)) HSS.out.2 (by omega) (fun j hj => by cases hj; exact Nat.le_refl _)⟩
      case measure => first | (simp [intOf]; done) | (simp [intOf]; omega)
theorem bgOver_z (z : Int) (a : Option Addr) (len cap : Nat) (n : Int) (w : World) (hx : Ints w (.slice a len cap) (dg z.natAbs)) (hl : (dg z.natAbs).length ≤ 1000000) (hn : 0 < n) (hn2 : n ≤ 1000000000000) :
    Calls Try.prog 109 #[.agg #[.bool (decide (z < 0)), .slice a len cap], .int .i64 n] w (GivesZI (z / n) (z % n) w) := by
  by_cases h : z < 0
  · have := bgOver_neg a len cap _ n w hx (inR_dg _) hl hn hn2
    rw [val_dg, show -((z.natAbs : Nat) : Int) = z by omega] at this
    rwa [show decide (z < 0) = true by simp [h]]
  · have := bgOver_any a len cap _ n w hx (inR_dg _) hl hn hn2
    rw [val_dg, show ((z.natAbs : Nat) : Int) = z by omega] at this
    rw [show decide (z < 0) = false by simp [h]]
    unfold GivesZI
    have h2 : 0 ≤ z / n := Int.ediv_nonneg (by omega) (by omega)
    have e : z.toNat / n.toNat = (z / n).natAbs := by
      have e1 : z = (z.toNat : Int) := by omega
      have e2 : n = (n.toNat : Int) := by omega
      have : z / n = ((z.toNat / n.toNat : Nat) : Int) := by rw [e1, e2]; simp
      omega
    rw [e] at this
    rwa [show decide (z / n < 0) = false by simp; omega]

set_option maxHeartbeats 4000000 in
set_option maxRecDepth 100000 in
theorem divWhole_neg (a : Option Addr) (len cap : Nat) (xs : List Int) (n : Int) (w : World) (hx : Ints w (.slice a len cap) xs) (hr : InR xs) (hl : xs.length ≤ 1000000) (hn : 0 < n) (hn2 : n ≤ 1000000000000) :
    Calls Try.prog 112 #[.agg #[.bool true, .slice a len cap], .int .i64 n] w (GivesZI (-(val xs) / n) (-(val xs) % n) w) := by
  obtain ⟨h1, h2, h3⟩ := hx.cell
  obtain ⟨i0, hi, hz0, hz1, hz2⟩ := info_parts infoInt
  have hb8 : i0.bytes * len ≤ 281474976710656 := by rw [hz2]; omega
  have hml : len ≤ maxLen := by unfold maxLen; omega
  have hq := qd_spec hn hr
  have HL := Lib.hid (qd_len n xs)
  have hV0 := val_nonneg hr
  obtain ⟨Q, hQ⟩ : ∃ Q : Nat, (val xs).toNat / n.toNat = Q := ⟨_, rfl⟩
  have hVQ : val xs / n = (Q : Int) := by
    rw [← hQ]
    have e1 : val xs = ((val xs).toNat : Int) := by omega
    have e2 : n = (n.toNat : Int) := by omega
    rw [e1, e2]; simp
  rw [hQ] at hq
  have hlQ : (dg Q).length ≤ 1000000 := by rw [← hq.1, trim_len _ (tz_le _ _)]; have := tz_le (qd n xs).1 (qd n xs).1.length; have := qd_len n xs; omega
  have SGQ := Lib.hid (sgn_q hq.1); have TQ := Lib.hid hq.1; have RQ := Lib.hid hq.2
  have Z0 := Lib.hid (show val xs % n = 0 → -(val xs) / n = -(Q : Int) ∧ -(val xs) % n = 0 from fun h => by have := neg_div0 hn h; rw [hVQ] at this; exact this)
  have Z1 := Lib.hid (show 0 < val xs % n → -(val xs) / n = -(Q : Int) - 1 ∧ -(val xs) % n = n - val xs % n from fun h => by have := neg_div1 hn h; rw [hVQ] at this; exact this)
  have RB := Lib.hid (show 0 ≤ val xs % n ∧ val xs % n < n from ⟨Int.emod_nonneg _ (by omega), Int.emod_lt_of_pos _ hn⟩)
  have HONE := Lib.hid (fun W => wholeOf_any (-1) (by omega) (by omega) W)
  have HOP := Lib.hid (fun a2 l2 c2 a3 l3 c3 W h h' => addWholes_any (-(Q : Int)) (-1) a2 a3 l2 c2 l3 c3 W h h' (by rw [Int.natAbs_neg]; exact hlQ) (by decide +kernel))
  have hz1 : -(Q : Int) + -1 = -(Q : Int) - 1 := by omega
  rw [hz1] at HOP
  rw [show (-(Q : Int)).natAbs = Q by omega] at HOP
  unfold GivesZI
  generalize -(val xs) / n = ZQ at *
  generalize -(val xs) % n = ZR at *
  generalize val xs % n = VR at *
  clear hV0 hQ hVQ hlQ hz1
  have HC := Lib.hid h3
  have HR := Lib.hid (fun k (h : k < len) => hr (xs.getD k 0) (by
    have hk : k < xs.length := by omega
    simp only [List.getD, List.getElem?_eq_getElem hk, Option.getD_some]; exact List.getElem_mem _))
  have HQ := Lib.hid (fun l => qd_rest hn l)
  have HD := Lib.hid (fun k h => qd_drop n xs k h)
  have HS := Lib.hid (fun k h => rowQ_set n xs k h)
  have HLN := Lib.hid (fun k h => rowQ_len n xs k h)
  have e0 := rowQ_all n xs
  rw [h1] at e0
  have E0 := Lib.hid e0
  have hqa : rowQ n xs 0 = (qd n xs).1.map (Value.int .i64) := by simp [rowQ]
  have HQA := Lib.hid hqa
  have hH1 := Lib.hid h1
  have hll : len ≤ 1000000 := by omega
  clear hq hr h3 e0 hqa hx h1 hl
  go_enter Try.func112, Try.ntmps112
  go_wp2_with (first | (at_make; refine wpList_make_full _ rfl _ _ 24 rfl (w.heap.size + 1 + 1) 3 i0 (.int .i64 0) 1 Try.underlying24 hi hz0 hz1 .i64 .i64 _ _ len rfl rfl rfl rfl hb8 hml (by simp) ?_; intro w1 hown hgrow; have hB0 := (Below.refl (w.heap.size + 1 + 1) _).grown hgrow (by simp) (fun k h => by cases h); have hS1 := World.ownsRow.lt hown; (simp only [World.size_alloc] at hS1); have p0 : w1.cell? ⟨w.heap.size, 0, none⟩ = some (.bool true) := (hB0.cell (p := ⟨w.heap.size, 0, none⟩) (by simp; omega)).trans (by simp [go_sem]); have p1 : w1.cell? ⟨w.heap.size, 1, none⟩ = some (.slice a len cap) := (hB0.cell (p := ⟨w.heap.size, 1, none⟩) (by simp; omega)).trans (by simp [go_sem]); have p2 : w1.cell? ⟨w.heap.size + 1, 0, none⟩ = some (.bool false) := (hB0.cell (p := ⟨w.heap.size + 1, 0, none⟩) (by simp)).trans (by simp [go_sem]); have p3 : w1.cell? ⟨w.heap.size + 1, 1, none⟩ = some (.slice none 0 0) := (hB0.cell (p := ⟨w.heap.size + 1, 1, none⟩) (by simp)).trans (by simp [go_sem]); have p4 : ∀ o, w1.frozen? ⟨w.heap.size + 1, o, none⟩ = false := fun o => (hB0.frozen (p := ⟨w.heap.size + 1, o, none⟩) (by simp)).trans (by simp [go_sem]); have hB1 : Below w.heap.size w w1 := (show Below w.heap.size w ((w.alloc (Obj.cells #[Value.bool true, Value.slice a len cap] 26)).alloc (Obj.cells #[Value.bool false, Value.slice none 0 0] 26)) from (by repeat' (first | (with_reducible exact Below.refl _ _) | (with_reducible assumption) | (with_reducible refine Below.alloc ?_ ?_ _) | (with_reducible refine Below.setCell ?_ ?_ _) | (with_reducible refine Below.drew ?_) | (with_reducible refine below_drewN ?_ _) | (apply bthen2; (with_reducible assumption)) | go_size))).trans (hB0.mono (by omega))))
  have hown0 : w1.ownsRow (w.heap.size + 1 + 1) 3 1 (.slice (some ⟨w.heap.size + 1 + 1, 0, none⟩) len len) len (rowQ n xs len) := by
    rw [E0.out]
    have : (madeCells (Value.int IntKind.i64 0).cells (len * 1)).toList = List.replicate len (.int .i64 0) := by rw [Nat.mul_one]; exact toList_madeCells_one _ _
    rw [← this]
    simpa using hown
  have HOWN0 := Lib.hid hown0
  clear hown hown0 hgrow hb8 hz0 hz1 hz2 hi hB0 E0
  have hq0 : (qd n (xs.drop len)).2 = 0 := by rw [← hH1.out, List.drop_length]; rfl
  go_loopw [7, 8] (fun v7 v8 wr => ∃ k : Nat, k ≤ len ∧ v8 = .int .i64 ((k : Int) - 1) ∧ v7 = .int .i64 (qd n (xs.drop k)).2 ∧ Hid (wr.ownsRow (w.heap.size + 1 + 1) 3 1 (.slice (some ⟨w.heap.size + 1 + 1, 0, none⟩) len len) len (rowQ n xs k)) ∧ Below (w.heap.size + 1 + 1) w1 wr) (fun _ v8 _ => (intOf v8 + 1).toNat)
  case atStart => exact ⟨len, Nat.le_refl _, rfl, by rw [hq0], HOWN0.out, Below.refl _ _⟩
  case round =>
    obtain ⟨k, hk, rfl, rfl, hown, hbw⟩ := hrel
    have hz := hbw.size
    have q0 := (hbw.cell (p := ⟨w.heap.size, 0, none⟩) (by simp; omega)).trans p0
    have q1 := (hbw.cell (p := ⟨w.heap.size, 1, none⟩) (by simp; omega)).trans p1
    have q2 := (hbw.cell (p := ⟨w.heap.size + 1, 0, none⟩) (by simp)).trans p2
    have q3 := (hbw.cell (p := ⟨w.heap.size + 1, 1, none⟩) (by simp)).trans p3
    have q4 := fun o => (hbw.frozen (p := ⟨w.heap.size + 1, o, none⟩) (by simp)).trans (p4 o)
    have hB2 : Below w.heap.size w wr := hB1.trans (hbw.mono (by omega))
    cases k with
    | zero =>
      have ho : Own wr (w.heap.size + 1 + 1) (.slice (some ⟨w.heap.size + 1 + 1, 0, none⟩) len len) (qd n xs).1 := by
        unfold Own
        rw [HL.out, hH1.out, ← HQA.out]
        exact hown.out
      have hlq : (qd n xs).1.length ≤ 1048576 := by rw [HL.out, hH1.out]; omega
      have HB := Lib.hid (fun W h => trimmed_any true (some ⟨w.heap.size + 1 + 1, 0, none⟩) len len (qd n xs).1 W h hlq)
      rw [SGQ.out, TQ.out] at HB
      have e1 : qd n (xs.drop 0) = qd n xs := by rw [List.drop_zero]
      rw [e1, RQ.out]
      have ho3 := Lib.hid ho.ints
      clear HL HQ HD HS HLN HR HC HQA hown e1 ho SGQ TQ RQ
      have g0 : w.heap.size < wr.heap.size := by omega
      have g1 : w.heap.size + 1 < wr.heap.size := by omega
      obtain ⟨nq, hnq⟩ : ∃ b, decide (-(Q : Int) < 0) = b := ⟨_, rfl⟩
      rw [hnq] at HB HOP
      by_cases h0 : VR = 0
      · obtain ⟨y1, y2⟩ := Z0.out h0
        have E1 := Lib.hid (show nq = decide (ZQ < 0) by rw [y1, hnq])
        have E2 := Lib.hid (show dg Q = dg ZQ.natAbs by rw [y1, show (-(Q : Int)).natAbs = Q by omega])
        have E3 := Lib.hid (show (0 : Int) = ZR from y2.symm)
        subst h0
        generalize dg Q = DQ at *
        clear HONE HOP Z0 Z1 RB y1 y2 hnq
        go_wp2_with fail
        refine (HB.out _ ?_).mono ?_
        · refine Ints.below ho3.out ?_; repeat' (first | (with_reducible exact Below.refl _ _) | (with_reducible assumption) | (with_reducible refine Below.alloc ?_ ?_ _) | (with_reducible refine Below.setCell ?_ ?_ _) | (with_reducible refine Below.drew ?_) | (with_reducible refine below_drewN ?_ _) | (apply bthen2; (with_reducible assumption)) | go_size)
        rintro e wb ⟨a2, len2, cap2, rfl, ho2, hbb⟩
        clear HB
        have hzb := hbb.size; (try simp only [World.size_alloc, World.size_setCell, World.size_drew, World.heap_drewN] at hzb); try (refine keepc hbb (w.heap.size) ?_ ?_; (focus (first | omega | (simp <;> omega))); intro hcb_0 hfb_0 hlb_0); try (refine keepc hbb (w.heap.size + 1) ?_ ?_; (focus (first | omega | (simp <;> omega))); intro hcb_1 hfb_1 hlb_1); try (refine keepc hbb (w.heap.size + 1 + 1) ?_ ?_; (focus (first | omega | (simp <;> omega))); intro hcb_2 hfb_2 hlb_2)
        go_wp2_with fail
        refine bodyPost_ret (v := .tuple #[.agg #[.bool nq, .slice a2 len2 cap2], .int .i64 0]) (by simp [results, Try.results112, go_sem, hcb_1, q2, q3, hlb_1]) rfl (GivesWI.cast E1.out E2.out E3.out ⟨_, _, _, rfl, (((ho2.set (p := ⟨w.heap.size + 1, 0, none⟩) (by show w.heap.size + 1 < wr.heap.size; omega) _).set (p := ⟨w.heap.size + 1, 1, none⟩) (by show w.heap.size + 1 < wr.heap.size; omega) _).alloc _).mono (by omega), (by repeat' (first | (with_reducible exact Below.refl _ _) | (with_reducible assumption) | (with_reducible refine Below.alloc ?_ ?_ _) | (with_reducible refine Below.setCell ?_ ?_ _) | (with_reducible refine Below.drew ?_) | (with_reducible refine below_drewN ?_ _) | (apply bthen2; (with_reducible assumption)) | go_size))⟩)
      · have h1 : 0 < VR := by have := RB.out; omega
        obtain ⟨y1, y2⟩ := Z1.out h1
        have hw : wrap64 (n - VR) = n - VR := win (by have := RB.out; omega)
        unfold GivesZ at HOP
        obtain ⟨nz, hnz⟩ : ∃ b, decide (-(Q : Int) - 1 < 0) = b := ⟨_, rfl⟩
        obtain ⟨DZ, hDZ⟩ : ∃ b, dg (-(Q : Int) - 1).natAbs = b := ⟨_, rfl⟩
        rw [hnz, hDZ] at HOP
        have E1 := Lib.hid (show nz = decide (ZQ < 0) by rw [y1, hnz])
        have E2 := Lib.hid (show DZ = dg ZQ.natAbs by rw [y1, hDZ])
        have E3 := Lib.hid (show n - VR = ZR from y2.symm)
        generalize dg Q = DQ at *
        obtain ⟨n1, hn1⟩ : ∃ b, decide ((-1 : Int) < 0) = b := ⟨_, rfl⟩
        obtain ⟨D1, hD1⟩ : ∃ b, dg (-1 : Int).natAbs = b := ⟨_, rfl⟩
        rw [hn1, hD1] at HONE HOP
        clear Z0 Z1 RB y1 y2 hnz hDZ hnq hn1 hD1 h0
        go_wp2_with fail
        refine (HB.out _ ?_).mono ?_
        · refine Ints.below ho3.out ?_; repeat' (first | (with_reducible exact Below.refl _ _) | (with_reducible assumption) | (with_reducible refine Below.alloc ?_ ?_ _) | (with_reducible refine Below.setCell ?_ ?_ _) | (with_reducible refine Below.drew ?_) | (with_reducible refine below_drewN ?_ _) | (apply bthen2; (with_reducible assumption)) | go_size)
        rintro e wb ⟨a2, len2, cap2, rfl, ho2, hbb⟩
        clear HB
        have hzb := hbb.size; (try simp only [World.size_alloc, World.size_setCell, World.size_drew, World.heap_drewN] at hzb); try (refine keepc hbb (w.heap.size) ?_ ?_; (focus (first | omega | (simp <;> omega))); intro hcb_0 hfb_0 hlb_0); try (refine keepc hbb (w.heap.size + 1) ?_ ?_; (focus (first | omega | (simp <;> omega))); intro hcb_1 hfb_1 hlb_1); try (refine keepc hbb (w.heap.size + 1 + 1) ?_ ?_; (focus (first | omega | (simp <;> omega))); intro hcb_2 hfb_2 hlb_2)
        go_wp2_with fail
        refine name_world (fun W1 hW1 => ?_)
        have hB3 : Below w.heap.size w W1 := by subst hW1; exact (by repeat' (first | (with_reducible exact Below.refl _ _) | (with_reducible assumption) | (with_reducible refine Below.alloc ?_ ?_ _) | (with_reducible refine Below.setCell ?_ ?_ _) | (with_reducible refine Below.drew ?_) | (with_reducible refine below_drewN ?_ _) | (apply bthen2; (with_reducible assumption)) | go_size))
        have BR : Box W1 (w.heap.size + 1) [.bool false, .slice none 0 0] := by subst hW1; exact box_two (by first | (simp; done) | (simp; omega) | omega) (by simp [hcb_1, q2, hlb_1, go_sem]) (by simp [hcb_1, q3, hlb_1, go_sem]) (fun o => by simp [hfb_1, q4, hlb_1, go_sem])
        have Bq : Box W1 wb.heap.size [.bool nq, .slice a2 len2 cap2] := by subst hW1; exact box_two (by first | (simp; done) | (simp; omega) | omega) (by simp [go_sem]) (by simp [go_sem]) (fun o => by simp [go_sem])
        have Iq : Ints W1 (.slice a2 len2 cap2) DQ := by subst hW1; exact ho2.ints.alloc _
        have hR1 : w.heap.size + 1 < wb.heap.size := hlb_1
        have hR2 : wb.heap.size < W1.heap.size := Bq.1
        clear hW1 ho2 ho3
        have tok1 := True.intro
        have tok2 := True.intro
        have qT := BR
        have qT0 := qT.2.1 0 _ rfl
        have qT1 := qT.2.1 1 _ rfl
        have qTf := qT.2.2
        go_region_held3 (fun w' => ChgS (fun k => k = w.heap.size + 1) W1 w' ∧ w'.cell? ⟨wb.heap.size, 0, none⟩ = some (.bool nq) ∧ w'.cell? ⟨wb.heap.size, 1, none⟩ = some (.slice a2 len2 cap2)) ((refine (fun hK => And.intro hK (by exact ⟨(hK.cell (b := wb.heap.size) (o := 0) hR2 (by omega)).trans (Bq.2.1 0 _ rfl), (hK.cell (b := wb.heap.size) (o := 1) hR2 (by omega)).trans (Bq.2.1 1 _ rfl)⟩)) ?_; repeat' (first | (with_reducible exact ChgS.refl _ _) | (with_reducible assumption) | (with_reducible refine ChgS.alloc ?_ _) | (with_reducible refine ChgS.drew ?_) | (with_reducible refine ChgS.set ?_ ?_ _) | (apply ChgS.stepB; (with_reducible assumption)) | (exact rfl)))) ((first | (go_at_call 49; clear tok1; refine (HONE.out _).mono ?_; rintro e u1 ⟨a4, l4, c4, rfl, o4, hb1⟩; have hz1 := hb1.size; (try simp only [World.size_alloc, World.size_setCell, World.size_drew, World.heap_drewN] at hz1); have i4 := o4.ints; have qT := Box.below (show Box _ (w.heap.size + 1) [.bool false, .slice none 0 0] from (by (repeat' (first | (with_reducible assumption) | (with_reducible refine Box.alloc ?_ _) | (with_reducible refine Box.drew ?_))))) hb1; have qT0 := qT.2.1 0 _ rfl; have qT1 := qT.2.1 1 _ rfl; have qTf := qT.2.2) | (go_at_call 120; clear tok2; refine (HOP.out _ _ _ _ _ _ _ ?_ ?_).mono ?_; (focus (exact (by refine Ints.below Iq ?_; repeat' (first | (with_reducible exact Below.refl _ _) | (with_reducible assumption) | (with_reducible refine Below.alloc ?_ ?_ _) | (with_reducible refine Below.setCell ?_ ?_ _) | (with_reducible refine Below.drew ?_) | (with_reducible refine below_drewN ?_ _) | (apply bthen2; (with_reducible assumption)) | go_size)))); (focus (exact (by refine Ints.below i4 ?_; repeat' (first | (with_reducible exact Below.refl _ _) | (with_reducible assumption) | (with_reducible refine Below.alloc ?_ ?_ _) | (with_reducible refine Below.setCell ?_ ?_ _) | (with_reducible refine Below.drew ?_) | (with_reducible refine below_drewN ?_ _) | (apply bthen2; (with_reducible assumption)) | go_size)))); rintro e u2 ⟨a5, l5, c5, rfl, o5, hb2⟩; have hz2 := hb2.size; (try simp only [World.size_alloc, World.size_setCell, World.size_drew, World.heap_drewN] at hz2); have qT := Box.below (show Box _ (w.heap.size + 1) [.bool false, .slice none 0 0] from (by (repeat' (first | (with_reducible assumption) | (with_reducible refine Box.alloc ?_ _) | (with_reducible refine Box.drew ?_))))) hb2; have qT0 := qT.2.1 0 _ rfl; have qT1 := qT.2.1 1 _ rfl; have qTf := qT.2.2)))
        all_goals
          have qTl := qT.1
          go_wp2_with fail
          refine bodyPost_ret (v := .tuple #[.agg #[.bool nz, .slice a5 l5 c5], .int .i64 (n - VR)]) (by simp [results, Try.results112, go_sem, qT0, qT1, qTf, qTl, hw, IntWalk.i64_left]) rfl (GivesWI.cast E1.out E2.out E3.out ⟨_, _, _, rfl, ((o5.set (p := ⟨w.heap.size + 1, 0, none⟩) (by first | omega | (simp; done) | (simp; omega)) _).set (p := ⟨w.heap.size + 1, 1, none⟩) (by first | omega | (simp; done) | (simp; omega)) _).mono (by first | omega | (simp; done) | (simp; omega)), (by repeat' (first | (with_reducible exact Below.refl _ _) | (with_reducible assumption) | (with_reducible refine Below.alloc ?_ ?_ _) | (with_reducible refine Below.setCell ?_ ?_ _) | (with_reducible refine Below.drew ?_) | (with_reducible refine below_drewN ?_ _) | (apply bthen2; (with_reducible assumption)) | go_size))⟩)
    | succ k =>
      obtain ⟨b, off, ha, hbl, hc⟩ := HC.out k (by omega)
      subst ha
      have c1 : wr.cell? ⟨b, off + k, none⟩ = some (.int .i64 (xs.getD k 0)) := (hB2.cell (p := ⟨b, off + k, none⟩) hbl).trans hc
      have c2 := World.ownsRow.cellAt hown.out k (by omega)
      have c3 := World.ownsRow.frozenAt hown.out k
      have hx1 := hH1.out
      have c4 : ∃ v, (rowQ n xs (k + 1))[k]? = some v := by
        have h1 := HLN.out (k + 1) (by omega)
        have : k < (rowQ n xs (k + 1)).length := by omega
        exact ⟨_, List.getElem?_eq_getElem this⟩
      obtain ⟨v, hv⟩ := c4
      rw [hv] at c2
      have hs := World.ownsRow.stored hown.out k (.int .i64 (((qd n (xs.drop (k + 1))).2 * 10000 + xs.getD k 0) / n))
      rw [HS.out k (by omega)] at hs
      have hd := congrArg Prod.snd (HD.out k (by omega))
      simp only at hd
      obtain ⟨r1, r2⟩ := HQ.out (xs.drop (k + 1))
      obtain ⟨x1, x2⟩ := HR.out k (by omega)
      have HSS := Lib.hid hs
      have HDD := Lib.hid hd
      have hnz : n ≠ 0 := by omega
      have e0 : ((k + 1 : Nat) : Int) - 1 = (k : Int) := by omega
      rw [e0]
      clear hs hd hv hc hx1
      generalize (qd n (xs.drop (k + 1))).2 = R at *
      generalize xs.getD k 0 = X at *
      have hr3 : 0 ≤ R * 10000 + X := by omega
      have hr4 : R * 10000 + X ≤ 10000000000009999 := by omega
      go_wp2_with fail
      go_roundw
      case rel => exact ⟨k, by omega, rfl, by rw [HDD.out], HSS.out.1, hbw.grown (row := some (w.heap.size + 1 + 1)) HSS.out.2 (by omega) (fun j hj => by cases hj; exact Nat.le_refl _)⟩
      case measure => first | (simp [intOf]; done) | (simp [intOf]; omega)
theorem divWhole_z (z : Int) (a : Option Addr) (len cap : Nat) (n : Int) (w : World) (hx : Ints w (.slice a len cap) (dg z.natAbs)) (hl : (dg z.natAbs).length ≤ 1000000) (hn : 0 < n) (hn2 : n ≤ 1000000000000) :
    Calls Try.prog 112 #[.agg #[.bool (decide (z < 0)), .slice a len cap], .int .i64 n] w (GivesZI (z / n) (z % n) w) := by
  by_cases h : z < 0
  · have := divWhole_neg a len cap _ n w hx (inR_dg _) hl hn hn2
    rw [val_dg, show -((z.natAbs : Nat) : Int) = z by omega] at this
    rwa [show decide (z < 0) = true by simp [h]]
  · have := divWhole_any a len cap _ n w hx (inR_dg _) hl hn hn2
    rw [val_dg, show ((z.natAbs : Nat) : Int) = z by omega] at this
    rw [show decide (z < 0) = false by simp [h]]
    unfold GivesZI
    have h2 : 0 ≤ z / n := Int.ediv_nonneg (by omega) (by omega)
    have e : z.toNat / n.toNat = (z / n).natAbs := by
      have e1 : z = (z.toNat : Int) := by omega
      have e2 : n = (n.toNat : Int) := by omega
      have : z / n = ((z.toNat / n.toNat : Nat) : Int) := by rw [e1, e2]; simp
      omega
    rw [e] at this
    rwa [show decide (z / n < 0) = false by simp; omega]

end Go.Proofs.Ytopdeoicglkbkaa
