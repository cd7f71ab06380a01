import Derived.Test.YtjgdajeoeagggaaGreatYPtS
import Derived.Test.YtjgdajeoeagggaaGreatYK10
import Derived.Deep.AppendLies
set_option linter.unusedSimpArgs false
set_option linter.unusedVariables false
namespace Go.Proofs.YtjgdajeoeagggaaGreat
open Go.RowKit
/-! ### torsion points -/
theorem wpl_appPG {ops : Array Oper} {rest : List Oper} {o : Oper} {a : Act} {Q : Exit → Act → World → Prop} {w : World} (hgd : o.guard = none) (s x : Operand)
    (ho : o.op = .call { callee := .builtin .append, args := #[s, x], argTypes := #[27, 27] }) (B : Nat) (v : Value) (ps : List P3) (hs : a.eval s = v) (hown : OwnP w B v ps)
    (b c : Nat) (p : P3) (hx : a.eval x = .slice (some ⟨b, 0, none⟩) 1 c) (h0 : w.cell? ⟨b, 0, none⟩ = some (.int .i64 p.1)) (h1 : w.cell? ⟨b, 1, none⟩ = some (.int .i64 p.2.1)) (h2 : w.cell? ⟨b, 2, none⟩ = some (.int .i64 p.2.2))
    (hlen : ps.length ≤ 1000000000000) (hB : B ≤ w.heap.size)
    (h : ∀ g' cap' w', OwnP w' B (.slice (some ⟨g', 0, none⟩) (ps.length + 1) cap') (ps ++ [p]) → Only v.ownBlock w w' → (v.ownBlock = some g' ∨ g' = w.heap.size) → g' < w'.heap.size → wpList Tryz.prog ops Q rest (a.put o.dst (.slice (some ⟨g', 0, none⟩) (ps.length + 1) cap')) w') : wpList Tryz.prog ops Q (o :: rest) a w := by
  obtain ⟨i0, hi, hz0, hz1, hz2⟩ := info_parts infoP
  obtain ⟨px, py, pe⟩ := p
  refine wpList_append_lies w hgd s x 27 ho B 34 i0 _ 3 24 Tryz.underlying27 hi hz0 hz1 hz2 rfl (by decide) v ps.length (flatP ps) hs hown ⟨b, 0, none⟩ 1 c [.int .i64 px, .int .i64 py, .int .i64 pe] hx rfl ?_ ?_ (by decide) (by unfold maxLen; omega) (by omega) hB _ rfl ?_
  · intro j u hj
    match j, hj with
    | 0, hj => simp at hj; subst hj; exact h0
    | 1, hj => simp at hj; subst hj; exact h1
    | 2, hj => simp at hj; subst hj; exact h2
  · intro u hu; simp at hu; rcases hu with rfl | rfl | rfl <;> rfl
  · intro g' cap' w' q1 q2 q3 q4
    refine h g' cap' w' ?_ (Only.of_grown q2) q3 q4
    unfold OwnP
    rw [flatP_app, List.length_append]
    exact q1
theorem PtsR.only {w w' : World} {a : Option Addr} {len cap : Nat} {ps : List P3} {og : Option Nat} (h : PtsR w (.slice a len cap) ps) (ho : Only og w w') (hne : ∀ b off, a = some ⟨b, off, none⟩ → some b ≠ og) : PtsR w' (.slice a len cap) ps := by
  obtain ⟨a', cap', hv, hl, hc⟩ := h
  obtain ⟨rfl, rfl, rfl⟩ := by simpa using hv
  refine ⟨a, cap, rfl, hl, fun i p hp => ?_⟩
  obtain ⟨b, off, ha, hb1, c0, c1, c2⟩ := hc i p hp
  have hb := ho.block b hb1 (hne b off ha)
  exact ⟨b, off, ha, Nat.lt_of_lt_of_le hb1 ho.size, (World.cell?_of_block (w := w) (w' := w') (a := ⟨b, _, none⟩) hb).trans c0, (World.cell?_of_block (w := w) (w' := w') (a := ⟨b, _, none⟩) hb).trans c1, (World.cell?_of_block (w := w) (w' := w') (a := ⟨b, _, none⟩) hb).trans c2⟩
theorem isC_ff {a b : Int} (h : isC a b = true) : -1000 ≤ a ∧ a ≤ 1000 ∧ -10000 ≤ b ∧ b ≤ 10000 ∧ dsc a b ≠ 0 := by
  unfold isC at h
  simp only [Bool.and_eq_true, inB_iff, bne_iff_ne, ne_eq] at h
  exact ⟨h.1.1.1, h.1.1.2, h.1.2.1, h.1.2.2, h.2⟩
def tps (a b : Int) : List P3 := (0, 0, 0) :: (cds a b 6001).filter fun p => (ordV a p).2
theorem cds_PV {a b : Int} (hC : isC a b = true) : ∀ p ∈ cds a b 6001, EC.PV a b p := by
  obtain ⟨hA, hB⟩ := isC_rng hC
  intro p hp
  unfold cds at hp
  obtain ⟨i, hi, hp⟩ := List.mem_flatMap.1 hp
  rw [List.mem_range] at hi
  have hx : -3000 ≤ -3000 + (i : Int) ∧ -3000 + (i : Int) ≤ 3000 := by omega
  generalize -3000 + (i : Int) = x at *
  have hcv := cVal_in (a := a) (b := b) (x := x) (e := 1) hA hB ⟨by omega, by omega⟩ ⟨by omega, by omega⟩
  unfold cnd at hp
  split at hp
  · unfold ptsX at hp
    split at hp
    · rename_i hs
      have hr := sq_rt hs
      have hg : Int.gcd x 1 = 1 := Int.gcd_one
      split at hp
      · rename_i h0
        simp only [List.mem_singleton] at hp
        subst hp
        exact .inr ⟨by simp only; omega, by simp only; omega, by simp, by simp, hg, by simp only; rw [← hcv, h0]; rfl⟩
      · simp only [List.mem_cons, List.not_mem_nil, or_false] at hp
        rcases hp with rfl | rfl
        · exact .inr ⟨by simp only; omega, by simp only; omega, by simp, by simp, hg, by simp only; rw [← hcv, ← hr.1]; grind⟩
        · exact .inr ⟨by simp only; omega, by simp only; omega, by simp, by simp, hg, by simp only; rw [← hcv]; exact hr.1⟩
    · simp at hp
  · simp at hp
theorem tps_len (a b : Int) : (tps a b).length ≤ 12003 := by
  unfold tps
  have h1 := List.length_filter_le (fun p => (ordV a p).2) (cds a b 6001)
  have h2 := cds_len a b 6001
  simp only [List.length_cons]; omega
theorem tps_PV {a b : Int} (hC : isC a b = true) : ∀ p ∈ tps a b, EC.PV a b p := by
  intro p hp
  unfold tps at hp
  rcases List.mem_cons.1 hp with rfl | hp
  · exact .inl rfl
  · exact cds_PV hC p (List.mem_filter.1 hp).1
theorem filt_take {α : Type} (f : α → Bool) (L : List α) (k : Nat) (p : α) (h : L[k]? = some p) : (L.take (k + 1)).filter f = (L.take k).filter f ++ (if f p = true then [p] else []) := by
  have hk : k < L.length := by
    rcases Nat.lt_or_ge k L.length with q | q
    · exact q
    · rw [List.getElem?_eq_none q] at h; cases h
  have e : L[k] = p := by rw [List.getElem?_eq_getElem hk] at h; exact Option.some.inj h
  rw [List.take_succ_eq_append_getElem hk, List.filter_append, e]
  congr 1
  by_cases g : f p = true <;> simp [g]
set_option maxRecDepth 100000 in
set_option maxHeartbeats 4000000 in
theorem torsionPoints_any (A B : Int) (hC : isC A B = true) (w : World) : Calls Tryz.prog 43 #[.agg #[.int .i64 A, .int .i64 B]] w (GivesP (tps A B) w) := by
  obtain ⟨k1, k2, k3, k4, hD⟩ := isC_ff hC
  have HC := Lib.hid (fun w => candidates_any A B k1 k2 k3 k4 w)
  have HO := Lib.hid (fun x y e (h : EC.PV A B (x, y, e)) W => orderOfPoint_any A B x y e hC h W)
  have HPV := Lib.hid (cds_PV hC)
  have HL := Lib.hid (cds_len A B 6001)
  have HT := Lib.hid (show tps A B = (0, 0, 0) :: (cds A B 6001).filter (fun p => (ordV A p).2) from rfl)
  have HF := Lib.hid (fun k p h => filt_take (fun p => (ordV A p).2) (cds A B 6001) k p h)
  generalize tps A B = R at *
  generalize cds A B 6001 = L at *
  have hL0 : L.length ≤ 12002 := HL.out
  clear k1 k2 k3 k4 hD hC HL
  generalize hff : (fun p => (ordV A p).2) = F at *
  have HFF := Lib.hid (show ∀ p, F p = (ordV A p).2 from fun p => by rw [← hff])
  clear hff
  go_enter Tryz.func43, Tryz.ntmps43
  go_wp2_with fail
  refine (HC.out _).mono ?_
  rintro e9 wa ⟨ca, cl, cc, rfl, hown, hba⟩
  obtain ⟨ca', cc', hsl⟩ := hown.slice
  obtain ⟨rfl, rfl, rfl⟩ : ca = ca' ∧ cl = L.length ∧ cc = cc' := by simpa using hsl
  clear hsl
  have hza := hba.size
  have Bc : Box wa w.heap.size [.int .i64 A, .int .i64 B] := Box.below (show Box _ w.heap.size [.int .i64 A, .int .i64 B] from Box.alloc (box_made2 _ _ _ _) _) hba
  have OO : OwnP wa (w.heap.size + 1) (.slice (some ⟨w.heap.size + 1, 0, none⟩) 1 1) [(0, 0, 0)] := by
    refine OwnP.below ?_ hba
    have := ownP_lit1 (w.alloc (Obj.cells #[.int .i64 A, .int .i64 B] 25)) (0, 0, 0)
    simpa using this
  have hB : Below w.heap.size w wa := by repeat' (first | (with_reducible first | exact bq1 _ _ | assumption | refine bq2 ?_ ?_ _ | refine bq3 ?_ ?_ _ | refine bq4 ?_ | refine bq5 ?_ _) | (apply bthen2; (with_reducible assumption)) | go_size)
  have hcb : ∀ b off, ca = some ⟨b, off, none⟩ → w.heap.size + 1 < b := by
    intro b off h
    subst h
    have := (_root_.Go.World.ownsRow.lt hown b rfl).1
    simp only [World.size_alloc] at this
    omega
  have PT := hown.pts
  (try simp only [World.size_alloc] at hza)
  have c0 := Bc.2.1 0 _ rfl; have c1 := Bc.2.1 1 _ rfl; have cl := Bc.1
  go_wp2_with fail
  go_loopw [3, 13] (fun v3 v13 wr => ∃ (k g n c3 : Nat), v13 = .int .i64 k ∧ v3 = .slice (some ⟨g, 0, none⟩) n c3 ∧ k ≤ L.length ∧ OwnP wr (w.heap.size + 1) v3 ((0, 0, 0) :: (L.take k).filter F) ∧ (∀ b off, ca = some ⟨b, off, none⟩ → b ≠ g) ∧ g < wr.heap.size ∧ PtsR wr (.slice ca L.length cc) L ∧ Box wr w.heap.size [.int .i64 A, .int .i64 B] ∧ w.heap.size + 1 ≤ g ∧ Below w.heap.size w wr) (fun _ v13 _ => (L.length - intOf v13).toNat)
  case atStart => exact ⟨0, w.heap.size + 1, 1, 1, rfl, rfl, by omega, OO, fun b off h => by have := hcb b off h; omega, by omega, PT, Bc, by omega, hB⟩
  case round =>
    clear OO PT hcb hown HC c0 c1 cl Bc hB
    obtain ⟨k, g, n, c3, rfl, rfl, hk, OO, hne, hg, PT, Bc, hg1, hB⟩ := hrel
    have c0 := Bc.2.1 0 _ rfl; have c1 := Bc.2.1 1 _ rfl; have cl := Bc.1
    by_cases hlt : k < L.length
    · obtain ⟨⟨px, py, pe⟩, hp⟩ : ∃ p, L[k]? = some p := ⟨_, List.getElem?_eq_getElem hlt⟩
      obtain ⟨ca2, cc2, hsl, hml, hcells⟩ := PT
      obtain ⟨b, off, ha, hbl, x0, x1, x2⟩ := hcells k _ hp
      have hca : ca = some ⟨b, off, none⟩ := by
        have : ca = ca2 := by simpa using congrArg (fun v => match v with | Value.slice a _ _ => a | _ => none) hsl
        rw [this, ha]
      subst hca
      have PT : PtsR wr (.slice (some ⟨b, off, none⟩) L.length cc) L := ⟨ca2, cc2, hsl, hml, hcells⟩
      clear hcells hsl ha
      have hpv := HPV.out (px, py, pe) (List.mem_of_getElem? hp)
      have hfl := HF.out k _ hp
      have hff := HFF.out (px, py, pe)
      have HOO := HO.out px py pe hpv
      have hlen : ((0, 0, 0) :: (L.take k).filter F).length ≤ 100000 := by
        have := List.length_filter_le F (L.take k)
        have := List.length_take_le k L
        simp only [List.length_cons]; omega
      obtain ⟨o1, o2, ho⟩ : ∃ o1 o2, ordV A (px, py, pe) = (o1, o2) := ⟨_, _, rfl⟩
      rw [ho] at HOO hff
      simp only at HOO hff
      simp only at x0 x1 x2
      have HOO := Lib.hid HOO
      have hlt' : (k : Int) < (L.length : Int) := by omega
      have hnb := hne b off rfl
      have hofs1 : off + k * 3 + 1 = off + k * 3 + 1 := rfl
      cases o2
      · have HQ := Lib.hid (show (L.take (k + 1)).filter F = (L.take k).filter F from by rw [hfl, ho]; simp)
        clear hfl hff ho hpv hp HO HPV HF HFF
        go_wp2_with fail
        refine (HOO.out _).mono ?_
        rintro e9 wb ⟨rfl, hbb⟩
        have hzb := hbb.size
        go_wp2_with fail
        go_roundw
        case rel => exact ⟨k + 1, g, n, c3, rfl, rfl, by omega, by rw [HQ.out]; exact (OO.alloc _).below hbb, hne, by (first | omega | (simp at hzb; omega)), (PT.below (show Below wr.heap.size wr _ by repeat' (first | (with_reducible first | exact bq1 _ _ | assumption | refine bq2 ?_ ?_ _ | refine bq3 ?_ ?_ _ | refine bq4 ?_ | refine bq5 ?_ _) | (apply bthen2; (with_reducible assumption)) | go_size))).below hbb, (Box.alloc Bc _).below hbb, hg1, gr⟩
        case measure => simp [intOf]; omega
      · have HQ := Lib.hid (show (0, 0, 0) :: (L.take (k + 1)).filter F = ((0, 0, 0) :: (L.take k).filter F) ++ [(px, py, pe)] from by rw [hfl, ho]; simp)
        clear hfl hff ho hpv hp HO HPV HF HFF
        generalize ((0, 0, 0) :: (L.take k).filter F) = P at *
        go_wp2_with fail
        refine (HOO.out _).mono ?_
        rintro e9 wb ⟨rfl, hbb⟩
        have hzb := hbb.size
        have Bx := Box.below (show Box _ wr.heap.size [.int .i64 px, .int .i64 py, .int .i64 pe] from box_three (by simp) (by simp) (by simp) (by simp) (fun o => by simp)) hbb
        have b0 := Bx.2.1 0 _ rfl; have b1 := Bx.2.1 1 _ rfl; have b2 := Bx.2.1 2 _ rfl; have bl := Bx.1
        have OO2 := (OO.alloc (Obj.cells #[.int .i64 px, .int .i64 py, .int .i64 pe] 34)).below hbb
        have PT2 := (PT.below (show Below wr.heap.size wr (wr.alloc (Obj.cells #[.int .i64 px, .int .i64 py, .int .i64 pe] 34)) by repeat' (first | (with_reducible first | exact bq1 _ _ | assumption | refine bq2 ?_ ?_ _ | refine bq3 ?_ ?_ _ | refine bq4 ?_ | refine bq5 ?_ _) | (apply bthen2; (with_reducible assumption)) | go_size))).below hbb
        have Bc2 := (Box.alloc Bc (Obj.cells #[.int .i64 px, .int .i64 py, .int .i64 pe] 34)).below hbb
        have hgb : g < wb.heap.size := by (first | omega | (simp at hzb; omega))
        have hBb : Below w.heap.size w wb := by repeat' (first | (with_reducible first | exact bq1 _ _ | assumption | refine bq2 ?_ ?_ _ | refine bq3 ?_ ?_ _ | refine bq4 ?_ | refine bq5 ?_ _) | (apply bthen2; (with_reducible assumption)) | go_size)
        have hbb2 : b < wb.heap.size := by (first | omega | (simp at hzb; omega))
        have hwb : w.heap.size + 1 ≤ wb.heap.size := by (first | omega | (simp at hzb; omega))
        clear hzb OO PT Bc
        go_wp2_with (first | (at_builtin; refine wpl_appPG rfl _ _ rfl (w.heap.size + 1) (.slice (some ⟨g, 0, none⟩) n c3) P rfl (OO2.alloc _) wb.heap.size 1 (px, py, pe) rfl (by simp) (by simp) (by simp) (by omega) (by simp; omega) ?_; intro g' cap' wp hownp hon hgg hgl))
        have hwp := hon.size
        have hBp : Below w.heap.size w wp := by
          have h1 : Below w.heap.size w (wb.alloc (Obj.cells #[.int .i64 px, .int .i64 py, .int .i64 pe] 34)) := Below.alloc hBb (by omega) _
          exact h1.trans (hon.below (by simp; omega) (fun q hq => by have h9 : g = q := (by simpa [Value.ownBlock] using hq); omega))
        have hbg : ∀ b2 off2, some (⟨b, off, none⟩ : Addr) = some ⟨b2, off2, none⟩ → b2 ≠ g' := by
          intro b2 off2 he
          obtain ⟨rfl, rfl⟩ : b = b2 ∧ off = off2 := by simpa using he
          rcases hgg with h | h
          · obtain rfl : g = g' := by simpa [Value.ownBlock] using h
            exact hnb
          · simp at h; omega
        have PT3 := (PT2.below (show Below wb.heap.size wb (wb.alloc (Obj.cells #[.int .i64 px, .int .i64 py, .int .i64 pe] 34)) by repeat' (first | (with_reducible first | exact bq1 _ _ | assumption | refine bq2 ?_ ?_ _ | refine bq3 ?_ ?_ _ | refine bq4 ?_ | refine bq5 ?_ _) | (apply bthen2; (with_reducible assumption)) | go_size))).only hon (fun b2 off2 he => by
          obtain ⟨rfl, rfl⟩ : b = b2 ∧ off = off2 := by simpa using he
          simp [Value.ownBlock]; exact hnb)
        have Bc3 := (Box.alloc Bc2 (Obj.cells #[.int .i64 px, .int .i64 py, .int .i64 pe] 34)).chg (ChgS.of hon) (fun e => absurd (show g = w.heap.size from by simpa [Value.ownBlock] using e) (by omega))
        have hgg1 : w.heap.size + 1 ≤ g' := by
          rcases hgg with h | h
          · obtain rfl : g = g' := by simpa [Value.ownBlock] using h
            exact hg1
          · simp at h; omega
        clear hon hgg OO2 PT2 Bc2
        go_wp2_with fail
        go_roundw
        case rel => exact ⟨k + 1, g', _, cap', rfl, rfl, by omega, by rw [HQ.out]; exact hownp, hbg, hgl, PT3, Bc3, hgg1, hBp⟩
        case measure => simp [intOf]; omega
    · obtain rfl : k = L.length := by omega
      have HE := Lib.hid (show R = (0, 0, 0) :: (L.take L.length).filter F from by rw [HT.out, List.take_length])
      clear HO HPV HF HFF PT
      go_wp2_with fail
      go_ret
      exact ⟨_, _, _, rfl, by rw [HE.out]; exact OO.mono (by omega), hB⟩
set_option maxRecDepth 100000 in
set_option maxHeartbeats 4000000 in
theorem toPoints_any (A B : Int) (hC : isC A B = true) (w : World) : Calls Tryz.prog 45 #[.agg #[.int .i64 A, .int .i64 B]] w (GivesP (tps A B) w) := by
  obtain ⟨k1, k2, k3, k4, hD⟩ := isC_ff hC
  have HC := Lib.hid (fun w => toCandidates_any A B k1 k2 k3 k4 hD w)
  have HO := Lib.hid (fun x y e (h : EC.PV A B (x, y, e)) W => ptOrder_any A B x y e hC h W)
  have HPV := Lib.hid (cds_PV hC)
  have HL := Lib.hid (cds_len A B 6001)
  have HT := Lib.hid (show tps A B = (0, 0, 0) :: (cds A B 6001).filter (fun p => (ordV A p).2) from rfl)
  have HF := Lib.hid (fun k p h => filt_take (fun p => (ordV A p).2) (cds A B 6001) k p h)
  generalize tps A B = R at *
  generalize cds A B 6001 = L at *
  have hL0 : L.length ≤ 12002 := HL.out
  clear k1 k2 k3 k4 hD hC HL
  generalize hff : (fun p => (ordV A p).2) = F at *
  have HFF := Lib.hid (show ∀ p, F p = (ordV A p).2 from fun p => by rw [← hff])
  clear hff
  go_enter Tryz.func45, Tryz.ntmps45
  go_wp2_with fail
  refine (HC.out _).mono ?_
  rintro e9 wa ⟨ca, cl, cc, rfl, hown, hba⟩
  obtain ⟨ca', cc', hsl⟩ := hown.slice
  obtain ⟨rfl, rfl, rfl⟩ : ca = ca' ∧ cl = L.length ∧ cc = cc' := by simpa using hsl
  clear hsl
  have hza := hba.size
  have Bc : Box wa w.heap.size [.int .i64 A, .int .i64 B] := Box.below (show Box _ w.heap.size [.int .i64 A, .int .i64 B] from Box.alloc (box_made2 _ _ _ _) _) hba
  have OO : OwnP wa (w.heap.size + 1) (.slice (some ⟨w.heap.size + 1, 0, none⟩) 1 1) [(0, 0, 0)] := by
    refine OwnP.below ?_ hba
    have := ownP_lit1 (w.alloc (Obj.cells #[.int .i64 A, .int .i64 B] 25)) (0, 0, 0)
    simpa using this
  have hB : Below w.heap.size w wa := by repeat' (first | (with_reducible first | exact bq1 _ _ | assumption | refine bq2 ?_ ?_ _ | refine bq3 ?_ ?_ _ | refine bq4 ?_ | refine bq5 ?_ _) | (apply bthen2; (with_reducible assumption)) | go_size)
  have hcb : ∀ b off, ca = some ⟨b, off, none⟩ → w.heap.size + 1 < b := by
    intro b off h
    subst h
    have := (_root_.Go.World.ownsRow.lt hown b rfl).1
    simp only [World.size_alloc] at this
    omega
  have PT := hown.pts
  (try simp only [World.size_alloc] at hza)
  have c0 := Bc.2.1 0 _ rfl; have c1 := Bc.2.1 1 _ rfl; have cl := Bc.1
  go_wp2_with fail
  go_loopw [3, 13] (fun v3 v13 wr => ∃ (k g n c3 : Nat), v13 = .int .i64 k ∧ v3 = .slice (some ⟨g, 0, none⟩) n c3 ∧ k ≤ L.length ∧ OwnP wr (w.heap.size + 1) v3 ((0, 0, 0) :: (L.take k).filter F) ∧ (∀ b off, ca = some ⟨b, off, none⟩ → b ≠ g) ∧ g < wr.heap.size ∧ PtsR wr (.slice ca L.length cc) L ∧ Box wr w.heap.size [.int .i64 A, .int .i64 B] ∧ w.heap.size + 1 ≤ g ∧ Below w.heap.size w wr) (fun _ v13 _ => (L.length - intOf v13).toNat)
  case atStart => exact ⟨0, w.heap.size + 1, 1, 1, rfl, rfl, by omega, OO, fun b off h => by have := hcb b off h; omega, by omega, PT, Bc, by omega, hB⟩
  case round =>
    clear OO PT hcb hown HC c0 c1 cl Bc hB
    obtain ⟨k, g, n, c3, rfl, rfl, hk, OO, hne, hg, PT, Bc, hg1, hB⟩ := hrel
    have c0 := Bc.2.1 0 _ rfl; have c1 := Bc.2.1 1 _ rfl; have cl := Bc.1
    by_cases hlt : k < L.length
    · obtain ⟨⟨px, py, pe⟩, hp⟩ : ∃ p, L[k]? = some p := ⟨_, List.getElem?_eq_getElem hlt⟩
      obtain ⟨ca2, cc2, hsl, hml, hcells⟩ := PT
      obtain ⟨b, off, ha, hbl, x0, x1, x2⟩ := hcells k _ hp
      have hca : ca = some ⟨b, off, none⟩ := by
        have : ca = ca2 := by simpa using congrArg (fun v => match v with | Value.slice a _ _ => a | _ => none) hsl
        rw [this, ha]
      subst hca
      have PT : PtsR wr (.slice (some ⟨b, off, none⟩) L.length cc) L := ⟨ca2, cc2, hsl, hml, hcells⟩
      clear hcells hsl ha
      have hpv := HPV.out (px, py, pe) (List.mem_of_getElem? hp)
      have hfl := HF.out k _ hp
      have hff := HFF.out (px, py, pe)
      have HOO := HO.out px py pe hpv
      have hlen : ((0, 0, 0) :: (L.take k).filter F).length ≤ 100000 := by
        have := List.length_filter_le F (L.take k)
        have := List.length_take_le k L
        simp only [List.length_cons]; omega
      obtain ⟨o1, o2, ho⟩ : ∃ o1 o2, ordV A (px, py, pe) = (o1, o2) := ⟨_, _, rfl⟩
      rw [ho] at HOO hff
      simp only at HOO hff
      simp only at x0 x1 x2
      have HOO := Lib.hid HOO
      have hlt' : (k : Int) < (L.length : Int) := by omega
      have hnb := hne b off rfl
      have hofs1 : off + k * 3 + 1 = off + k * 3 + 1 := rfl
      cases o2
      · have HQ := Lib.hid (show (L.take (k + 1)).filter F = (L.take k).filter F from by rw [hfl, ho]; simp)
        clear hfl hff ho hpv hp HO HPV HF HFF
        go_wp2_with fail
        refine (HOO.out _).mono ?_
        rintro e9 wb ⟨rfl, hbb⟩
        have hzb := hbb.size
        go_wp2_with fail
        go_roundw
        case rel => exact ⟨k + 1, g, n, c3, rfl, rfl, by omega, by rw [HQ.out]; exact (OO.alloc _).below hbb, hne, by (first | omega | (simp at hzb; omega)), (PT.below (show Below wr.heap.size wr _ by repeat' (first | (with_reducible first | exact bq1 _ _ | assumption | refine bq2 ?_ ?_ _ | refine bq3 ?_ ?_ _ | refine bq4 ?_ | refine bq5 ?_ _) | (apply bthen2; (with_reducible assumption)) | go_size))).below hbb, (Box.alloc Bc _).below hbb, hg1, gr⟩
        case measure => simp [intOf]; omega
      · have HQ := Lib.hid (show (0, 0, 0) :: (L.take (k + 1)).filter F = ((0, 0, 0) :: (L.take k).filter F) ++ [(px, py, pe)] from by rw [hfl, ho]; simp)
        clear hfl hff ho hpv hp HO HPV HF HFF
        generalize ((0, 0, 0) :: (L.take k).filter F) = P at *
        go_wp2_with fail
        refine (HOO.out _).mono ?_
        rintro e9 wb ⟨rfl, hbb⟩
        have hzb := hbb.size
        have Bx := Box.below (show Box _ wr.heap.size [.int .i64 px, .int .i64 py, .int .i64 pe] from box_three (by simp) (by simp) (by simp) (by simp) (fun o => by simp)) hbb
        have b0 := Bx.2.1 0 _ rfl; have b1 := Bx.2.1 1 _ rfl; have b2 := Bx.2.1 2 _ rfl; have bl := Bx.1
        have OO2 := (OO.alloc (Obj.cells #[.int .i64 px, .int .i64 py, .int .i64 pe] 34)).below hbb
        have PT2 := (PT.below (show Below wr.heap.size wr (wr.alloc (Obj.cells #[.int .i64 px, .int .i64 py, .int .i64 pe] 34)) by repeat' (first | (with_reducible first | exact bq1 _ _ | assumption | refine bq2 ?_ ?_ _ | refine bq3 ?_ ?_ _ | refine bq4 ?_ | refine bq5 ?_ _) | (apply bthen2; (with_reducible assumption)) | go_size))).below hbb
        have Bc2 := (Box.alloc Bc (Obj.cells #[.int .i64 px, .int .i64 py, .int .i64 pe] 34)).below hbb
        have hgb : g < wb.heap.size := by (first | omega | (simp at hzb; omega))
        have hBb : Below w.heap.size w wb := by repeat' (first | (with_reducible first | exact bq1 _ _ | assumption | refine bq2 ?_ ?_ _ | refine bq3 ?_ ?_ _ | refine bq4 ?_ | refine bq5 ?_ _) | (apply bthen2; (with_reducible assumption)) | go_size)
        have hbb2 : b < wb.heap.size := by (first | omega | (simp at hzb; omega))
        have hwb : w.heap.size + 1 ≤ wb.heap.size := by (first | omega | (simp at hzb; omega))
        clear hzb OO PT Bc
        go_wp2_with (first | (at_builtin; refine wpl_appPG rfl _ _ rfl (w.heap.size + 1) (.slice (some ⟨g, 0, none⟩) n c3) P rfl (OO2.alloc _) wb.heap.size 1 (px, py, pe) rfl (by simp) (by simp) (by simp) (by omega) (by simp; omega) ?_; intro g' cap' wp hownp hon hgg hgl))
        have hwp := hon.size
        have hBp : Below w.heap.size w wp := by
          have h1 : Below w.heap.size w (wb.alloc (Obj.cells #[.int .i64 px, .int .i64 py, .int .i64 pe] 34)) := Below.alloc hBb (by omega) _
          exact h1.trans (hon.below (by simp; omega) (fun q hq => by have h9 : g = q := (by simpa [Value.ownBlock] using hq); omega))
        have hbg : ∀ b2 off2, some (⟨b, off, none⟩ : Addr) = some ⟨b2, off2, none⟩ → b2 ≠ g' := by
          intro b2 off2 he
          obtain ⟨rfl, rfl⟩ : b = b2 ∧ off = off2 := by simpa using he
          rcases hgg with h | h
          · obtain rfl : g = g' := by simpa [Value.ownBlock] using h
            exact hnb
          · simp at h; omega
        have PT3 := (PT2.below (show Below wb.heap.size wb (wb.alloc (Obj.cells #[.int .i64 px, .int .i64 py, .int .i64 pe] 34)) by repeat' (first | (with_reducible first | exact bq1 _ _ | assumption | refine bq2 ?_ ?_ _ | refine bq3 ?_ ?_ _ | refine bq4 ?_ | refine bq5 ?_ _) | (apply bthen2; (with_reducible assumption)) | go_size))).only hon (fun b2 off2 he => by
          obtain ⟨rfl, rfl⟩ : b = b2 ∧ off = off2 := by simpa using he
          simp [Value.ownBlock]; exact hnb)
        have Bc3 := (Box.alloc Bc2 (Obj.cells #[.int .i64 px, .int .i64 py, .int .i64 pe] 34)).chg (ChgS.of hon) (fun e => absurd (show g = w.heap.size from by simpa [Value.ownBlock] using e) (by omega))
        have hgg1 : w.heap.size + 1 ≤ g' := by
          rcases hgg with h | h
          · obtain rfl : g = g' := by simpa [Value.ownBlock] using h
            exact hg1
          · simp at h; omega
        clear hon hgg OO2 PT2 Bc2
        go_wp2_with fail
        go_roundw
        case rel => exact ⟨k + 1, g', _, cap', rfl, rfl, by omega, by rw [HQ.out]; exact hownp, hbg, hgl, PT3, Bc3, hgg1, hBp⟩
        case measure => simp [intOf]; omega
    · obtain rfl : k = L.length := by omega
      have HE := Lib.hid (show R = (0, 0, 0) :: (L.take L.length).filter F from by rw [HT.out, List.take_length])
      clear HO HPV HF HFF PT
      go_wp2_with fail
      go_ret
      exact ⟨_, _, _, rfl, by rw [HE.out]; exact OO.mono (by omega), hB⟩
def tpPs (a b : Int) : List P3 := if isC a b then tps a b else []
theorem TorsionPoints_any (a b : Int) (w : World) : Calls Tryz.prog 7 #[.agg #[.int .i64 a, .int .i64 b]] w (GivesPB (tpPs a b) (isC a b) w) := by
  have HF := Lib.hid (fun w => isCurve_any a b w)
  cases g1 : isC a b
  · have E1 := Lib.hid (show tpPs a b = [] by simp [tpPs, g1])
    rw [E1.out]
    rw [g1] at HF
    go_enter Tryz.func7, Tryz.ntmps7
    go_wp2_with (first | (go_at_call 42; refine (HF.out _).mono ?_; rintro e wa ⟨rfl, hba⟩; have hza := hba.size; (try simp only [wz1, wz2, wz3, wz4] at hza); try (refine keepc hba (w.heap.size) ?_ ?_; (focus (first | omega | (simp <;> omega))); intro hca_0 hfa_0 hla_0); try (refine keepc hba (w.heap.size + 1) ?_ ?_; (focus (first | omega | (simp <;> omega))); intro hca_1 hfa_1 hla_1); try (refine keepc hba (w.heap.size + 1 + 1) ?_ ?_; (focus (first | omega | (simp <;> omega))); intro hca_2 hfa_2 hla_2)))
    go_ret2
    exact ⟨none, 0, 0, rfl, OwnP.nil _ _, gr⟩
  · rw [g1] at HF
    have E1 := Lib.hid (show tpPs a b = tps a b by simp [tpPs, g1])
    rw [E1.out]
    have HC := Lib.hid (fun w => torsionPoints_any a b g1 w)
    clear E1
    generalize tps a b = R at *
    go_enter Tryz.func7, Tryz.ntmps7
    go_wp2_with (first | (go_at_call 42; refine (HF.out _).mono ?_; rintro e wa ⟨rfl, hba⟩; have hza := hba.size; (try simp only [wz1, wz2, wz3, wz4] at hza); try (refine keepc hba (w.heap.size) ?_ ?_; (focus (first | omega | (simp <;> omega))); intro hca_0 hfa_0 hla_0); try (refine keepc hba (w.heap.size + 1) ?_ ?_; (focus (first | omega | (simp <;> omega))); intro hca_1 hfa_1 hla_1); try (refine keepc hba (w.heap.size + 1 + 1) ?_ ?_; (focus (first | omega | (simp <;> omega))); intro hca_2 hfa_2 hla_2)) | (go_at_call 43; refine (HC.out _).mono ?_; rintro e wb ⟨a1, len1, cap1, rfl, hown, hbb⟩))
    go_ret2
    exact ⟨a1, len1, cap1, rfl, hown.mono (by first | omega | (simp; omega)), gr⟩
theorem sTorsionPoints_any (a b : Int) (w : World) : Calls Tryz.prog 8 #[.agg #[.int .i64 a, .int .i64 b]] w (GivesPB (tpPs a b) (isC a b) w) := by
  have HF := Lib.hid (fun w => ecGood_any a b w)
  cases g1 : isC a b
  · have E1 := Lib.hid (show tpPs a b = [] by simp [tpPs, g1])
    rw [E1.out]
    rw [g1] at HF
    go_enter Tryz.func8, Tryz.ntmps8
    go_wp2_with (first | (go_at_call 44; refine (HF.out _).mono ?_; rintro e wa ⟨rfl, hba⟩; have hza := hba.size; (try simp only [wz1, wz2, wz3, wz4] at hza); try (refine keepc hba (w.heap.size) ?_ ?_; (focus (first | omega | (simp <;> omega))); intro hca_0 hfa_0 hla_0); try (refine keepc hba (w.heap.size + 1) ?_ ?_; (focus (first | omega | (simp <;> omega))); intro hca_1 hfa_1 hla_1); try (refine keepc hba (w.heap.size + 1 + 1) ?_ ?_; (focus (first | omega | (simp <;> omega))); intro hca_2 hfa_2 hla_2)))
    go_ret2
    exact ⟨none, 0, 0, rfl, OwnP.nil _ _, gr⟩
  · rw [g1] at HF
    have E1 := Lib.hid (show tpPs a b = tps a b by simp [tpPs, g1])
    rw [E1.out]
    have HC := Lib.hid (fun w => toPoints_any a b g1 w)
    clear E1
    generalize tps a b = R at *
    go_enter Tryz.func8, Tryz.ntmps8
    go_wp2_with (first | (go_at_call 44; refine (HF.out _).mono ?_; rintro e wa ⟨rfl, hba⟩; have hza := hba.size; (try simp only [wz1, wz2, wz3, wz4] at hza); try (refine keepc hba (w.heap.size) ?_ ?_; (focus (first | omega | (simp <;> omega))); intro hca_0 hfa_0 hla_0); try (refine keepc hba (w.heap.size + 1) ?_ ?_; (focus (first | omega | (simp <;> omega))); intro hca_1 hfa_1 hla_1); try (refine keepc hba (w.heap.size + 1 + 1) ?_ ?_; (focus (first | omega | (simp <;> omega))); intro hca_2 hfa_2 hla_2)) | (go_at_call 45; refine (HC.out _).mono ?_; rintro e wb ⟨a1, len1, cap1, rfl, hown, hbb⟩))
    go_ret2
    exact ⟨a1, len1, cap1, rfl, hown.mono (by first | omega | (simp; omega)), gr⟩
/-! ### the told torsion points are the points of a finite order (up to 12): Nagell and Lutz -/
theorem ordGo_mul {A B : Int} {p : P3} (hp : EC.PV A B p) : ∀ (f : Nat) (n : Nat) (now : P3), EC.PV A B now → EC.toQ now = EC.nmul (A : Rat) n (EC.toQ p) → ∀ r, ordGo A p f ((n : Int) + 1) now = (r, true) → ∃ k : Nat, 1 ≤ k ∧ k ≤ n + f ∧ r = k ∧ EC.nmul (A : Rat) k (EC.toQ p) = none
  | 0, n, now, hn, h1, r, h => by simp [ordGo] at h
  | f + 1, n, now, hn, h1, r, h => by
    rcases hs : EC.sumO A now p with _ | q
    · rw [ordGo_none hs] at h; simp at h
    · obtain ⟨hq, hqq⟩ := EC.sumO_PV hn hp hs
      have h2 : EC.toQ q = EC.nmul (A : Rat) (n + 1) (EC.toQ p) := by rw [hqq, h1]; rfl
      by_cases h0 : q.2.2 = 0
      · rw [ordGo_fin hs h0] at h
        simp only [Prod.mk.injEq, and_true] at h
        refine ⟨n + 1, by omega, by omega, by omega, ?_⟩
        rw [← h2]
        unfold EC.toQ; rw [if_pos h0]
      · rw [ordGo_go hs h0] at h
        obtain ⟨k, k1, k2, k3, k4⟩ := ordGo_mul hp f (n + 1) q hq h2 r (by rw [← h]; congr 1)
        exact ⟨k, k1, by omega, k3, k4⟩
theorem ord_fin {A B : Int} {p : P3} (hp : EC.PV A B p) (h : (ordV A p).2 = true) : ∃ k : Nat, 1 ≤ k ∧ k ≤ 12 ∧ (ordV A p).1 = k ∧ EC.nmul (A : Rat) k (EC.toQ p) = none := by
  obtain ⟨r, b, hr⟩ : ∃ r b, ordV A p = (r, b) := ⟨_, _, rfl⟩
  rw [hr] at h ⊢
  simp only at h ⊢
  subst h
  obtain ⟨k, k1, k2, k3, k4⟩ := ordGo_mul hp 12 0 (0, 0, 0) (.inl rfl) (by unfold EC.toQ; rw [if_pos rfl]; rfl) r hr
  exact ⟨k, k1, by omega, k3, k4⟩
theorem cub_rng {A B X v : Int} (hA : -1000 ≤ A ∧ A ≤ 1000) (hB : -10000 ≤ B ∧ B ≤ 10000) (h0 : 0 ≤ v) (h1 : v ≤ 6700000000) (h : v = X * X * X + A * X + B) : -3000 ≤ X ∧ X ≤ 3000 := by
  constructor
  · rcases Int.lt_or_le X (-3000) with g | g
    · exfalso
      have e4 : (-X) * (-X) = X * X := by grind
      have e1 : (9000000 : Int) ≤ X * X := by
        have := Int.mul_le_mul (a := 3000) (b := 3000) (c := -X) (d := -X) (by omega) (by omega) (by omega) (by omega)
        omega
      have e2 : X * X * X ≤ X * X * (-3000) := Int.mul_le_mul_of_nonneg_left (by omega) (by omega)
      have e5 : A * X ≤ 1000 * (-X) := by
        have : (-A) * (-X) ≤ 1000 * (-X) := Int.mul_le_mul_of_nonneg_right (by omega) (by omega)
        have e6 : (-A) * (-X) = A * X := by grind
        omega
      have e7 : 3000 * (-X) ≤ X * X := by
        have := Int.mul_le_mul_of_nonneg_right (a := 3000) (b := -X) (c := -X) (by omega) (by omega)
        omega
      omega
    · exact g
  · rcases Int.lt_or_le 3000 X with g | g
    · exfalso
      have e1 : 3000 * X ≤ X * X := Int.mul_le_mul_of_nonneg_right (by omega) (by omega)
      have e2 : X * X * 3000 ≤ X * X * X := Int.mul_le_mul_of_nonneg_left (by omega) (by omega)
      have e3 : -(1000 * X) ≤ A * X := by
        have : (-1000) * X ≤ A * X := Int.mul_le_mul_of_nonneg_right (by omega) (by omega)
        omega
      omega
    · exact g
theorem ord_cds {A B : Int} (hC : isC A B = true) {p : P3} (hp : EC.PV A B p) (h0 : p.2.2 ≠ 0) (h : (ordV A p).2 = true) : p ∈ cds A B 6001 := by
  obtain ⟨hA, hB⟩ := isC_rng hC
  obtain ⟨-, -, -, -, hD⟩ := isC_ff hC
  obtain ⟨k, k1, k2, -, hk⟩ := ord_fin hp h
  obtain ⟨f1, f2, f3, f4, f5, f6⟩ := hp.fin h0
  obtain ⟨X, Y, E⟩ := p
  simp only at *
  have hdd : dsc A B = 4 * A * A * A + 27 * B * B := by
    have t1 := nmul (nmul (nmul (a := 4) (b := A) (x := 4) (y := 1000) (by decide) (by omega)) (show A.natAbs ≤ 1000 by omega)) (show A.natAbs ≤ 1000 by omega)
    have t2 := nmul (nmul (a := 27) (b := B) (x := 27) (y := 10000) (by decide) (by omega)) (show B.natAbs ≤ 10000 by omega)
    unfold dsc; exact win (by omega)
  have hDb : (dsc A B).natAbs ≤ 6700000000 := by
    have t1 := nmul (nmul (nmul (a := 4) (b := A) (x := 4) (y := 1000) (by decide) (by omega)) (show A.natAbs ≤ 1000 by omega)) (show A.natAbs ≤ 1000 by omega)
    have t2 := nmul (nmul (a := 27) (b := B) (x := 27) (y := 10000) (by decide) (by omega)) (show B.natAbs ≤ 10000 by omega)
    rw [hdd]; omega
  have hE : E = 1 := by
    have hq : EC.toQ (X, Y, E) = some ((X : Rat) * ((E : Rat)⁻¹ * (E : Rat)⁻¹), (Y : Rat) * ((E : Rat)⁻¹ * (E : Rat)⁻¹ * (E : Rat)⁻¹)) := by unfold EC.toQ; rw [if_neg h0]
    rw [hq] at hk
    exact EC.torsion_whole f3 f5 (EC.cvI_on f6) (EC.inv_ok h0) k1 k2 hk
  subst hE
  have hY2 : Y * Y = X * X * X + A * X + B := by rw [f6]; unfold cvI; grind
  have hdiv : Y = 0 ∨ Y * Y ∣ dsc A B := by
    by_cases hY : Y = 0
    · exact .inl hY
    · right
      rw [hdd]
      have hq : EC.toQ (X, Y, 1) = some ((X : Rat), (Y : Rat)) := EC.toQ_fin (by decide) (by simp) (by simp)
      rw [hq] at hk
      exact EC.lutz (by rw [← hdd]; exact hD) (EC.cvI_on f6) hY k1 k2 hk
  have hv : 0 ≤ Y * Y ∧ Y * Y ≤ 6700000000 := by
    have h1 : 0 ≤ Y * Y := by rw [← Int.natAbs_mul_self' Y]; exact Int.mul_nonneg (by omega) (by omega)
    refine ⟨h1, ?_⟩
    rcases hdiv with rfl | hd
    · decide
    · have := Nat.le_of_dvd (by omega) (Int.natAbs_dvd_natAbs.2 hd)
      omega
  obtain ⟨x1, x2⟩ := cub_rng hA hB hv.1 hv.2 hY2
  have hcv := cVal_in (a := A) (b := B) (x := X) (e := 1) hA hB ⟨by omega, by omega⟩ ⟨by omega, by omega⟩
  have hcY : cVal A B X 1 = Y * Y := by rw [hcv, f6]
  unfold cds
  refine List.mem_flatMap.2 ⟨(X + 3000).toNat, List.mem_range.2 (by omega), ?_⟩
  have eX : -3000 + (((X + 3000).toNat : Nat) : Int) = X := by omega
  rw [eX]
  unfold cnd
  have hcond : cVal A B X 1 = 0 ∨ (dsc A B).tmod (cVal A B X 1) = 0 := by
    rcases hdiv with hY | hd
    · left; rw [hcY, hY]; rfl
    · right; rw [hcY]; exact Int.tmod_eq_zero_of_dvd hd
  rw [if_pos hcond]
  have hsq : sqB (cVal A B X 1) = true := by rw [hcY]; exact sqB_iff.2 ⟨Y.natAbs, by omega, Int.natAbs_mul_self' Y⟩
  have hrt : rt (cVal A B X 1) = Y.natAbs := by rw [hcY]; exact rt_sq (by omega) (Int.natAbs_mul_self' Y)
  unfold ptsX
  rw [if_pos hsq]
  by_cases hY : Y = 0
  · subst hY
    rw [if_pos (by rw [hcY]; rfl)]
    exact List.mem_singleton.2 rfl
  · rw [if_neg (by rw [hcY]; exact Int.mul_ne_zero hY hY), hrt]
    rcases Int.lt_or_le Y 0 with g | g
    · exact List.mem_cons.2 (.inl (by rw [show -((Y.natAbs : Nat) : Int) = Y by omega]))
    · exact List.mem_cons.2 (.inr (List.mem_singleton.2 (by rw [show ((Y.natAbs : Nat) : Int) = Y by omega])))
theorem ordV_zero2 (A : Int) : (ordV A (0, 0, 0)).2 = true := by
  have : ordV A (0, 0, 0) = (1, true) := by
    unfold ordV
    exact ordGo_fin (q := (0, 0, 0)) (sumO_zl (B := 0) (.inl rfl)) rfl
  rw [this]
/-- The told torsion points are the points of an order up to 12. -/
theorem mem_tps {A B : Int} (hC : isC A B = true) {p : P3} (hp : EC.PV A B p) : p ∈ tps A B ↔ (ordV A p).2 = true := by
  unfold tps
  constructor
  · intro h
    rcases List.mem_cons.1 h with rfl | h
    · exact ordV_zero2 A
    · exact (List.mem_filter.1 h).2
  · intro h
    by_cases h0 : p.2.2 = 0
    · have : p = (0, 0, 0) := by
        rcases hp with h1 | ⟨-, -, h3, -⟩
        · exact h1
        · omega
      rw [this]; exact List.mem_cons_self
    · exact List.mem_cons.2 (.inr (List.mem_filter.2 ⟨ord_cds hC hp h0 h, h⟩))
theorem sq_of_cop {D M Z : Nat} (h : D * M = Z * Z) (hc : Nat.gcd D M = 1) : ∃ e, D = e * e := by
  refine ⟨Nat.gcd D Z, ?_⟩
  have h1 : Nat.gcd (D * D) (Z * Z) = D := by
    rw [← h, Nat.gcd_mul_left, hc, Nat.mul_one]
  have h2 : Nat.gcd (D ^ 2) (Z ^ 2) = (Nat.gcd D Z) ^ 2 := Nat.pow_gcd_pow
  simp only [Nat.pow_succ, Nat.pow_zero, Nat.one_mul] at h2
  rw [h1] at h2
  exact h2
theorem rat_den_sq {A B : Int} {x y : Rat} (h : EC.On (A : Rat) B x y) : ∃ e : Int, 0 < e ∧ (x.den : Int) = e * e := by
  have hx := EC.rat_num_den x
  have hN : (y * ((x.den : Rat) * (x.den : Rat))) * (y * ((x.den : Rat) * (x.den : Rat))) = (((x.den : Int) * (x.num * x.num * x.num + A * x.num * ((x.den : Int) * (x.den : Int)) + B * ((x.den : Int) * (x.den : Int) * (x.den : Int))) : Int) : Rat) := by
    unfold EC.On at h
    simp only [Rat.intCast_mul, Rat.intCast_add, Rat.intCast_natCast] at *
    generalize (x.den : Rat) = d at *
    generalize (x.num : Rat) = n at *
    grind
  obtain ⟨m, -, hm⟩ := EC.rat_sq_int hN
  have hp := x.den_pos
  have hg : Int.gcd (x.num * x.num * x.num + A * x.num * ((x.den : Int) * (x.den : Int)) + B * ((x.den : Int) * (x.den : Int) * (x.den : Int))) (x.den : Int) = 1 := by
    have e1 : x.num * x.num * x.num + A * x.num * ((x.den : Int) * (x.den : Int)) + B * ((x.den : Int) * (x.den : Int) * (x.den : Int)) = x.num * x.num * x.num + (A * x.num * (x.den : Int) + B * ((x.den : Int) * (x.den : Int))) * (x.den : Int) := by grind
    rw [e1, Int.gcd_add_mul_right_left]
    have h1 : Int.gcd x.num (x.den : Int) = 1 := x.reduced
    exact EC.gcd_mul1 (EC.gcd_mul1 h1 h1) h1
  generalize x.num * x.num * x.num + A * x.num * ((x.den : Int) * (x.den : Int)) + B * ((x.den : Int) * (x.den : Int) * (x.den : Int)) = N at *
  have h1 : x.den * N.natAbs = m.natAbs * m.natAbs := by
    have := congrArg Int.natAbs hm
    rw [Int.natAbs_mul, Int.natAbs_mul, Int.natAbs_natCast] at this
    exact this.symm
  have h2 : Nat.gcd x.den N.natAbs = 1 := by
    have h3 : Nat.gcd N.natAbs (x.den : Int).natAbs = 1 := hg
    rw [Int.natAbs_natCast, Nat.gcd_comm] at h3
    exact h3
  obtain ⟨e, he⟩ := sq_of_cop h1 h2
  refine ⟨(e : Int), ?_, by rw [he]; push_cast; rfl⟩
  rcases Nat.eq_zero_or_pos e with rfl | g
  · omega
  · omega
theorem tors_rng {A B X Y : Int} (hC : isC A B = true) (hY2 : Y * Y = X * X * X + A * X + B) (hdiv : Y = 0 ∨ Y * Y ∣ 4 * A * A * A + 27 * B * B) : -3000 ≤ X ∧ X ≤ 3000 := by
  obtain ⟨hA, hB⟩ := isC_rng hC
  obtain ⟨-, -, -, -, hD⟩ := isC_ff hC
  have t1 := nmul (nmul (nmul (a := 4) (b := A) (x := 4) (y := 1000) (by decide) (by omega)) (show A.natAbs ≤ 1000 by omega)) (show A.natAbs ≤ 1000 by omega)
  have t2 := nmul (nmul (a := 27) (b := B) (x := 27) (y := 10000) (by decide) (by omega)) (show B.natAbs ≤ 10000 by omega)
  have hdd : dsc A B = 4 * A * A * A + 27 * B * B := by unfold dsc; exact win (by omega)
  rw [hdd] at hD
  have h1 : 0 ≤ Y * Y := by rw [← Int.natAbs_mul_self' Y]; exact Int.mul_nonneg (by omega) (by omega)
  refine cub_rng hA hB h1 ?_ hY2
  rcases hdiv with rfl | hd
  · decide
  · have := Nat.le_of_dvd (by omega) (Int.natAbs_dvd_natAbs.2 hd)
    omega
theorem disc_ne0 {A B : Int} (hC : isC A B = true) : 4 * A * A * A + 27 * B * B ≠ 0 := by
  obtain ⟨hA, hB⟩ := isC_rng hC
  obtain ⟨-, -, -, -, hD⟩ := isC_ff hC
  have t1 := nmul (nmul (nmul (a := 4) (b := A) (x := 4) (y := 1000) (by decide) (by omega)) (show A.natAbs ≤ 1000 by omega)) (show A.natAbs ≤ 1000 by omega)
  have t2 := nmul (nmul (a := 27) (b := B) (x := 27) (y := 10000) (by decide) (by omega)) (show B.natAbs ≤ 10000 by omega)
  have hdd : dsc A B = 4 * A * A * A + 27 * B * B := by unfold dsc; exact win (by omega)
  rwa [hdd] at hD
/-- A torsion point of the group is one of the program's points. -/
theorem rep_tors {A B : Int} (hC : isC A B = true) {q : Option (Rat × Rat)} (hq : EC.OnO (A : Rat) B q) {n : Nat} (h1 : 1 ≤ n) (h2 : n ≤ 12) (hn : EC.nmul (A : Rat) n q = none) : ∃ r, EC.rep q = some r := by
  rcases q with _ | ⟨x, y⟩
  · exact ⟨_, rfl⟩
  · have hon : EC.On (A : Rat) B x y := hq
    obtain ⟨e, he, hd⟩ := rat_den_sq hon
    obtain ⟨u1, u2⟩ := EC.under_of hd
    obtain ⟨Y, k1, k2⟩ := EC.whole_y hon hd
    have hT := EC.toQ_fin (X := x.num) (Y := Y) (E := e) (by omega) u1 k1
    have hE : e = 1 := by
      refine EC.torsion_whole (A := A) (B := B) (by omega) u2 (EC.cvI_on k2) (EC.inv_ok (show e ≠ 0 by omega)) h1 h2 ?_
      rw [← hT] at hn
      unfold EC.toQ at hn
      rw [if_neg (show ¬ e = 0 by omega)] at hn
      exact hn
    subst hE
    have e1 : x = (x.num : Rat) := by have := u1; simp at this; exact this
    have e2 : y = (Y : Rat) := by have := k1; simp at this; exact this
    have hdiv : Y = 0 ∨ Y * Y ∣ 4 * A * A * A + 27 * B * B := by
      by_cases hY : Y = 0
      · exact .inl hY
      · right
        rw [e1, e2] at hn
        exact EC.lutz (disc_ne0 hC) (EC.cvI_on k2) hY h1 h2 hn
    have hr := tors_rng hC (X := x.num) (Y := Y) (by rw [k2]; unfold cvI; grind) hdiv
    obtain ⟨Y', r1, -, -⟩ := EC.rep_hit hon (e := 1) (X := x.num) (by omega) (by omega) (by omega) (by omega) u1 u2
    exact ⟨_, r1⟩
theorem nmul_comm {A B : Int} (hC : isC A B = true) {q : Option (Rat × Rat)} (hq : EC.OnO (A : Rat) B q) {n : Nat} (hn : EC.nmul (A : Rat) n q = none) (k : Nat) : EC.nmul (A : Rat) n (EC.nmul (A : Rat) k q) = none := by
  have ns := EC.disc_ne (disc_ne0 hC)
  rw [← EC.nmul_mul EC.two_rat ns hq, Nat.mul_comm, EC.nmul_mul EC.two_rat ns hq, hn, EC.nmul_none]
theorem ordGo_tors {A B : Int} (hC : isC A B = true) {p : P3} (hp : EC.PV A B p) {n : Nat} (h1 : 1 ≤ n) (h2 : n ≤ 12) (hn : EC.nmul (A : Rat) n (EC.toQ p) = none) :
    ∀ (f k : Nat) (now : P3), EC.PV A B now → EC.toQ now = EC.nmul (A : Rat) k (EC.toQ p) → k < n → n ≤ k + f → ∀ c, (ordGo A p f c now).2 = true
  | 0, k, now, hnow, hq, hk, hf, c => by omega
  | f + 1, k, now, hnow, hq, hk, hf, c => by
    have hs : EC.sumO A now p = EC.rep (EC.nmul (A : Rat) (k + 1) (EC.toQ p)) := by unfold EC.sumO; rw [hq]; rfl
    obtain ⟨r, hr⟩ := rep_tors hC (EC.nmul_on EC.two_rat hp.on (k + 1)) h1 h2 (nmul_comm hC hp.on hn (k + 1))
    rw [hr] at hs
    obtain ⟨hPV, hT⟩ := EC.sumO_PV hnow hp hs
    by_cases h0 : r.2.2 = 0
    · rw [ordGo_fin hs h0]
    · rw [ordGo_go hs h0]
      have h3 : EC.toQ r = EC.nmul (A : Rat) (k + 1) (EC.toQ p) := by rw [hT, hq]; rfl
      have hk2 : k + 1 ≠ n := by
        intro he
        rw [he, hn] at h3
        unfold EC.toQ at h3
        rw [if_neg h0] at h3
        cases h3
      exact ordGo_tors hC hp h1 h2 hn f (k + 1) r hPV h3 (by omega) (by omega) _
/-- A point has a told order exactly if one of its multiples up to the twelfth is infinity. -/
theorem ord_iff {A B : Int} (hC : isC A B = true) {p : P3} (hp : EC.PV A B p) : (ordV A p).2 = true ↔ ∃ n : Nat, 1 ≤ n ∧ n ≤ 12 ∧ EC.nmul (A : Rat) n (EC.toQ p) = none := by
  constructor
  · intro h
    obtain ⟨k, k1, k2, -, k4⟩ := ord_fin hp h
    exact ⟨k, k1, k2, k4⟩
  · rintro ⟨n, h1, h2, hn⟩
    exact ordGo_tors hC hp h1 h2 hn 12 0 (0, 0, 0) (.inl rfl) (by unfold EC.toQ; rw [if_pos rfl]; rfl) (by omega) (by omega) 1
/-! ### the greatest order -/
def gmL (A : Int) (L : List P3) (m : Int) : Int := L.foldl (fun m p => max m (ordV A p).1) m
def tmL (A : Int) (L : List P3) (b : P3 × Int) : P3 × Int := L.foldl (fun b p => if b.2 < (ordV A p).1 then (p, (ordV A p).1) else b) b
theorem gmL_take (A : Int) (L : List P3) (k : Nat) (p : P3) (m : Int) (h : L[k]? = some p) : gmL A (L.take (k + 1)) m = max (gmL A (L.take k) m) (ordV A p).1 := by
  have hk : k < L.length := by
    rcases Nat.lt_or_ge k L.length with q | q
    · exact q
    · rw [List.getElem?_eq_none q] at h; cases h
  have e : L[k] = p := by rw [List.getElem?_eq_getElem hk] at h; exact Option.some.inj h
  unfold gmL
  rw [List.take_succ_eq_append_getElem hk, List.foldl_append, e]; rfl
theorem tmL_take (A : Int) (L : List P3) (k : Nat) (p : P3) (b : P3 × Int) (h : L[k]? = some p) : tmL A (L.take (k + 1)) b = if (tmL A (L.take k) b).2 < (ordV A p).1 then (p, (ordV A p).1) else tmL A (L.take k) b := by
  have hk : k < L.length := by
    rcases Nat.lt_or_ge k L.length with q | q
    · exact q
    · rw [List.getElem?_eq_none q] at h; cases h
  have e : L[k] = p := by rw [List.getElem?_eq_getElem hk] at h; exact Option.some.inj h
  unfold tmL
  rw [List.take_succ_eq_append_getElem hk, List.foldl_append, e]; rfl
theorem tmL_gmL (A : Int) (L : List P3) : ∀ b : P3 × Int, (tmL A L b).2 = gmL A L b.2 := by
  induction L with
  | nil => intro b; rfl
  | cons p L ih =>
    intro b
    show (tmL A L (if b.2 < (ordV A p).1 then (p, (ordV A p).1) else b)).2 = gmL A L (max b.2 (ordV A p).1)
    rw [ih]
    congr 1
    split <;> (try dsimp only) <;> omega
theorem gmL_cons (A : Int) (p : P3) (L : List P3) (m : Int) : gmL A (p :: L) m = gmL A L (max m (ordV A p).1) := rfl
theorem ordV_zero (A : Int) : ordV A (0, 0, 0) = (1, true) := by
  unfold ordV
  exact ordGo_fin (q := (0, 0, 0)) (by have h : EC.PV A 0 (0, 0, 0) := .inl rfl
                                       exact sumO_zl h) rfl
theorem gmL_le (A : Int) (L : List P3) : ∀ m, m ≤ gmL A L m := by
  induction L with
  | nil => intro m; exact Int.le_refl _
  | cons p L ih => intro m; show m ≤ gmL A L (max m (ordV A p).1); have := ih (max m (ordV A p).1); omega
theorem ordGo_b {A : Int} {p : P3} : ∀ (f : Nat) (n : Int) (now : P3), 0 ≤ n → n + f ≤ 1000 → 0 ≤ (ordGo A p f n now).1 ∧ (ordGo A p f n now).1 ≤ 1000
  | 0, n, now, h, h2 => by simp [ordGo]
  | f + 1, n, now, h, h2 => by
    rcases hs : EC.sumO A now p with _ | q
    · rw [ordGo_none hs]; simp
    · by_cases h0 : q.2.2 = 0
      · rw [ordGo_fin hs h0]; simp only; omega
      · rw [ordGo_go hs h0]; exact ordGo_b f (n + 1) q (by omega) (by omega)
theorem ordV_b (A : Int) (p : P3) : 0 ≤ (ordV A p).1 ∧ (ordV A p).1 ≤ 1000 := ordGo_b 12 1 (0, 0, 0) (by omega) (by omega)
theorem gmL_b (A : Int) (L : List P3) : ∀ m, 0 ≤ m → m ≤ 1000 → 0 ≤ gmL A L m ∧ gmL A L m ≤ 1000 := by
  induction L with
  | nil => intro m h h2; exact ⟨h, h2⟩
  | cons p L ih => intro m h h2; have := ordV_b A p; exact ih (max m (ordV A p).1) (by omega) (by omega)
def gmV (a b : Int) : Int := gmL a (tps a b) 1
theorem gmV_b (a b : Int) : 1 ≤ gmV a b ∧ gmV a b ≤ 1000 := ⟨gmL_le _ _ 1, (gmL_b _ _ 1 (by omega) (by omega)).2⟩
theorem tm_gmV (a b : Int) : (tmL a (tps a b) ((0, 0, 0), 0)).2 = gmV a b := by
  rw [tmL_gmL]
  unfold gmV tps
  rw [gmL_cons, gmL_cons, ordV_zero]
  exact congrArg (gmL a ((cds a b 6001).filter fun p => (ordV a p).2)) (by decide)
set_option maxRecDepth 100000 in
set_option maxHeartbeats 4000000 in
theorem greatestOrder_any (A B : Int) (hC : isC A B = true) (L : List P3) (hL : ∀ p ∈ L, EC.PV A B p) (hL2 : L.length ≤ 1000000) (ca : Option Addr) (cl cc : Nat) (w : World) (hl : PtsR w (.slice ca cl cc) L) :
    Calls Tryz.prog 48 #[.agg #[.int .i64 A, .int .i64 B], .slice ca cl cc] w (Gives (.int .i64 (gmL A L 1)) w) := by
  obtain ⟨ca', cc', hsl, hml, -⟩ := id hl
  obtain ⟨rfl, rfl, rfl⟩ : ca = ca' ∧ cl = L.length ∧ cc = cc' := by simpa using hsl
  have HL := Lib.hid hl
  have HO := Lib.hid (fun x y e (h : EC.PV A B (x, y, e)) W => orderOfPoint_any A B x y e hC h W)
  have HT := Lib.hid (fun k p h => gmL_take A L k p 1 h)
  have HPV := Lib.hid hL
  have H0 := Lib.hid (show gmL A (L.take 0) 1 = 1 from rfl)
  have HE := Lib.hid (show gmL A (L.take L.length) 1 = gmL A L 1 from by rw [List.take_length])
  obtain ⟨R, hR⟩ : ∃ R, gmL A L 1 = R := ⟨_, rfl⟩
  rw [hR] at HE ⊢
  clear hR hC hL hsl hl hml
  generalize hgm : gmL A = gm at *
  clear hgm
  go_enter Tryz.func48, Tryz.ntmps48
  go_wp2_with fail
  refine name_world (fun W1 hW1 => ?_)
  have Bc : Box W1 w.heap.size [.int .i64 A, .int .i64 B] := by subst hW1; exact box_two (by first | omega | (simp; done) | (simp; omega)) (by simp [go_sem]) (by simp [go_sem]) (fun o => by simp [go_sem])
  have hB : Below w.heap.size w W1 := by subst hW1; exact gr
  have PT := HL.out.below hB
  clear hW1 HL
  go_loopw [5, 12] (fun v5 v12 wr => ∃ (k : Nat) (m : Int), v12 = .int .i64 k ∧ v5 = .int .i64 m ∧ k ≤ L.length ∧ Hid (gm (L.take k) 1 = m) ∧ Below W1.heap.size W1 wr) (fun _ v12 _ => (L.length - intOf v12).toNat)
  case atStart => exact ⟨0, 1, rfl, rfl, by omega, H0, Below.refl _ _⟩
  case round =>
    clear H0
    obtain ⟨k, m, rfl, rfl, hk, HM, hbw⟩ := hrel
    have hzw := hbw.size
    have Bw := Bc.below hbw
    have c0 := Bw.2.1 0 _ rfl; have c1 := Bw.2.1 1 _ rfl; have cl := Bw.1
    by_cases hlt : k < L.length
    · obtain ⟨⟨px, py, pe⟩, hp⟩ : ∃ p, L[k]? = some p := ⟨_, List.getElem?_eq_getElem hlt⟩
      obtain ⟨ca2, cc2, hsl, hml, hcells⟩ := PT.below hbw
      obtain ⟨b, off, ha, hbl, x0, x1, x2⟩ := hcells k _ hp
      have hca : ca = some ⟨b, off, none⟩ := by
        have : ca = ca2 := by simpa using congrArg (fun v => match v with | Value.slice a _ _ => a | _ => none) hsl
        rw [this, ha]
      subst hca
      clear hcells hsl ha
      have HOO := Lib.hid (HO.out px py pe (HPV.out _ (List.mem_of_getElem? hp)))
      have HN := HT.out k _ hp
      rw [HM.out] at HN
      simp only at x0 x1 x2
      have hlt' : (k : Int) < (L.length : Int) := by omega
      clear hp HO HPV HT
      generalize ordV A (px, py, pe) = ov at *
      have HNN := Lib.hid HN
      clear HN
      go_wp2_with fail
      refine (HOO.out _).mono ?_
      rintro e9 wb ⟨rfl, hbb⟩
      have hzb := hbb.size
      go_wp2_with fail
      go_roundw
      case rel => exact ⟨k + 1, max m ov.1, rfl, rfl, by omega, HNN, by repeat' (first | (with_reducible first | exact bq1 _ _ | assumption | refine bq2 ?_ ?_ _ | refine bq3 ?_ ?_ _ | refine bq4 ?_ | refine bq5 ?_ _) | (apply bthen2; (with_reducible assumption)) | go_size)⟩
      case measure => simp [intOf]; omega
    · obtain rfl : k = L.length := by omega
      have HV := Lib.hid (show m = R from by rw [← HM.out, HE.out])
      clear HO HPV HT
      go_wp2_with fail
      go_ret
      exact gives (show Value.int IntKind.i64 m = Value.int IntKind.i64 R from by rw [HV.out]) (bthen hB hbw)
set_option maxRecDepth 100000 in
set_option maxHeartbeats 4000000 in
theorem toMost_any (A B : Int) (hC : isC A B = true) (L : List P3) (hL : ∀ p ∈ L, EC.PV A B p) (hL2 : L.length ≤ 1000000) (ca : Option Addr) (cl cc : Nat) (w : World) (hl : PtsR w (.slice ca cl cc) L) :
    Calls Tryz.prog 49 #[.agg #[.int .i64 A, .int .i64 B], .slice ca cl cc] w (Gives (.tuple #[.agg #[.int .i64 (tmL A L ((0, 0, 0), 0)).1.1, .int .i64 (tmL A L ((0, 0, 0), 0)).1.2.1, .int .i64 (tmL A L ((0, 0, 0), 0)).1.2.2], .int .i64 (tmL A L ((0, 0, 0), 0)).2]) w) := by
  obtain ⟨ca', cc', hsl, hml, -⟩ := id hl
  obtain ⟨rfl, rfl, rfl⟩ : ca = ca' ∧ cl = L.length ∧ cc = cc' := by simpa using hsl
  have HL := Lib.hid hl
  have HO := Lib.hid (fun x y e (h : EC.PV A B (x, y, e)) W => toOrder_any A B x y e hC h W)
  have HT := Lib.hid (fun k p h => tmL_take A L k p ((0, 0, 0), 0) h)
  have HPV := Lib.hid hL
  have H0 := Lib.hid (show tmL A (L.take 0) ((0, 0, 0), 0) = ((0, 0, 0), 0) from rfl)
  have HE := Lib.hid (show tmL A (L.take L.length) ((0, 0, 0), 0) = tmL A L ((0, 0, 0), 0) from by rw [List.take_length])
  obtain ⟨⟨⟨R1, R2, R3⟩, R⟩, hR⟩ : ∃ R, tmL A L ((0, 0, 0), 0) = R := ⟨_, rfl⟩
  rw [hR] at HE ⊢
  clear hR hC hL hsl hl hml
  generalize hgm : tmL A = gm at *
  clear hgm
  dsimp only
  go_enter Tryz.func49, Tryz.ntmps49
  go_wp2_with fail
  refine name_world (fun W1 hW1 => ?_)
  have Bc : Box W1 w.heap.size [.int .i64 A, .int .i64 B] := by subst hW1; exact box_two (by first | omega | (simp; done) | (simp; omega)) (by simp [go_sem]) (by simp [go_sem]) (fun o => by simp [go_sem])
  have Br : Box W1 (w.heap.size + 1) [.int .i64 0, .int .i64 0, .int .i64 0] := by subst hW1; exact box_three (by first | omega | (simp; done) | (simp; omega)) (by simp [go_sem]) (by simp [go_sem]) (by simp [go_sem]) (fun o => by simp [go_sem])
  have Bb : Box W1 (w.heap.size + 1 + 1) [.int .i64 0, .int .i64 0, .int .i64 0] := by subst hW1; exact box_three (by first | omega | (simp; done) | (simp; omega)) (by simp [go_sem]) (by simp [go_sem]) (by simp [go_sem]) (fun o => by simp [go_sem])
  have hB : Below w.heap.size w W1 := by subst hW1; exact gr
  clear hW1
  go_loopw [7, 14] (fun v7 v14 wr => ∃ (k : Nat) (m x y z : Int), v14 = .int .i64 k ∧ v7 = .int .i64 m ∧ k ≤ L.length ∧ Hid (gm (L.take k) ((0, 0, 0), 0) = ((x, y, z), m)) ∧ Box wr w.heap.size [.int .i64 A, .int .i64 B] ∧ Box wr (w.heap.size + 1) [.int .i64 0, .int .i64 0, .int .i64 0] ∧ Box wr (w.heap.size + 1 + 1) [.int .i64 x, .int .i64 y, .int .i64 z] ∧ Below w.heap.size w wr) (fun _ v14 _ => (L.length - intOf v14).toNat)
  case atStart => exact ⟨0, 0, 0, 0, 0, rfl, rfl, by omega, H0, Bc, Br, Bb, hB⟩
  case round =>
    clear H0 Bc Br Bb hB
    obtain ⟨k, m, x, y, z, rfl, rfl, hk, HM, Bc, Br, Bb, hB⟩ := hrel
    have c0 := Bc.2.1 0 _ rfl; have c1 := Bc.2.1 1 _ rfl; have cl := Bc.1
    have r0 := Br.2.1 0 _ rfl; have r1 := Br.2.1 1 _ rfl; have r2 := Br.2.1 2 _ rfl; have rf := Br.2.2; have rl := Br.1
    have d0 := Bb.2.1 0 _ rfl; have d1 := Bb.2.1 1 _ rfl; have d2 := Bb.2.1 2 _ rfl; have df := Bb.2.2; have dl := Bb.1
    by_cases hlt : k < L.length
    · obtain ⟨⟨px, py, pe⟩, hp⟩ : ∃ p, L[k]? = some p := ⟨_, List.getElem?_eq_getElem hlt⟩
      obtain ⟨ca2, cc2, hsl, hml, hcells⟩ := HL.out.below hB
      obtain ⟨b, off, ha, hbl, x0, x1, x2⟩ := hcells k _ hp
      have hca : ca = some ⟨b, off, none⟩ := by
        have : ca = ca2 := by simpa using congrArg (fun v => match v with | Value.slice a _ _ => a | _ => none) hsl
        rw [this, ha]
      subst hca
      clear hcells hsl ha
      have HOO := Lib.hid (HO.out px py pe (HPV.out _ (List.mem_of_getElem? hp)))
      have HN := HT.out k _ hp
      rw [HM.out] at HN
      simp only at x0 x1 x2 HN
      have hlt' : (k : Int) < (L.length : Int) := by omega
      clear hp HO HPV HT HM
      generalize (ordV A (px, py, pe)).1 = ov at *
      by_cases hgt : m < ov
      · rw [if_pos hgt] at HN
        have HNN := Lib.hid HN
        clear HN
        go_wp2_with fail
        refine (HOO.out _).mono ?_
        rintro e9 wb ⟨rfl, hbb⟩
        have hzb := hbb.size
        have Bc2 := (Box.alloc Bc (Obj.cells #[.int .i64 px, .int .i64 py, .int .i64 pe] 34)).below hbb
        have Br2 := (Box.alloc Br (Obj.cells #[.int .i64 px, .int .i64 py, .int .i64 pe] 34)).below hbb
        have Bb2 := (Box.alloc Bb (Obj.cells #[.int .i64 px, .int .i64 py, .int .i64 pe] 34)).below hbb
        have Bp2 := Box.below (show Box _ wr.heap.size [.int .i64 px, .int .i64 py, .int .i64 pe] from box_three (by simp) (by simp) (by simp) (by simp) (fun o => by simp)) hbb
        have s0 := Bb2.2.1 0 _ rfl; have s1 := Bb2.2.1 1 _ rfl; have s2 := Bb2.2.1 2 _ rfl; have sf := Bb2.2.2; have sl := Bb2.1
        have p0 := Bp2.2.1 0 _ rfl; have p1 := Bp2.2.1 1 _ rfl; have p2 := Bp2.2.1 2 _ rfl; have pl := Bp2.1
        go_wp2_with fail
        go_roundw
        case rel => exact ⟨k + 1, ov, px, py, pe, rfl, rfl, by omega, HNN, Box.set_ne (Box.set_ne (Box.set_ne Bc2 (by first | (simp; done) | (simp; omega)) _) (by first | (simp; done) | (simp; omega)) _) (by first | (simp; done) | (simp; omega)) _, Box.set_ne (Box.set_ne (Box.set_ne Br2 (by first | (simp; done) | (simp; omega)) _) (by first | (simp; done) | (simp; omega)) _) (by first | (simp; done) | (simp; omega)) _, Box.set (Box.set (Box.set Bb2 0 (by simp) _) 1 (by simp) _) 2 (by simp) _, gr⟩
        case measure => simp [intOf]; omega
      · rw [if_neg hgt] at HN
        have HNN := Lib.hid HN
        clear HN
        go_wp2_with fail
        refine (HOO.out _).mono ?_
        rintro e9 wb ⟨rfl, hbb⟩
        have hzb := hbb.size
        have Bc2 := (Box.alloc Bc (Obj.cells #[.int .i64 px, .int .i64 py, .int .i64 pe] 34)).below hbb
        have Br2 := (Box.alloc Br (Obj.cells #[.int .i64 px, .int .i64 py, .int .i64 pe] 34)).below hbb
        have Bb2 := (Box.alloc Bb (Obj.cells #[.int .i64 px, .int .i64 py, .int .i64 pe] 34)).below hbb
        go_wp2_with fail
        go_roundw
        case rel => exact ⟨k + 1, m, x, y, z, rfl, rfl, by omega, HNN, Bc2, Br2, Bb2, gr⟩
        case measure => simp [intOf]; omega
    · obtain rfl : k = L.length := by omega
      have hv := HM.out
      rw [HE.out] at hv
      simp only [Prod.mk.injEq] at hv
      obtain ⟨⟨rfl, rfl, rfl⟩, rfl⟩ := hv
      clear HO HPV HT HL HM HE
      go_wp2_with fail
      refine bodyPost_ret (v := .tuple #[.agg #[.int .i64 R1, .int .i64 R2, .int .i64 R3], .int .i64 R]) (by simp [results, Tryz.results49, go_sem, r0, r1, r2, rf, rl, d0, d1, d2]) rfl (gives rfl gr)
def tsV (a b : Int) : Value := if isC a b then .tuple #[.int .i64 ((((tps a b).length : Nat) : Int).tdiv (gmV a b)), .int .i64 (gmV a b), .bool true] else .tuple #[.int .i64 0, .int .i64 0, .bool false]
set_option maxHeartbeats 2000000 in
theorem TorsionShape_any (a b : Int) (w : World) : Calls Tryz.prog 11 #[.agg #[.int .i64 a, .int .i64 b]] w (Gives (tsV a b) w) := by
  have HF := Lib.hid (fun w => isCurve_any a b w)
  unfold tsV
  cases g1 : isC a b
  · rw [g1] at HF
    go_enter Tryz.func11, Tryz.ntmps11
    go_wp2_with (first | (go_at_call 42; refine (HF.out _).mono ?_; rintro e wa ⟨rfl, hba⟩; have hza := hba.size; (try simp only [wz1, wz2, wz3, wz4] at hza); try (refine keepc hba (w.heap.size) ?_ ?_; (focus (first | omega | (simp <;> omega))); intro hca_0 hfa_0 hla_0); try (refine keepc hba (w.heap.size + 1) ?_ ?_; (focus (first | omega | (simp <;> omega))); intro hca_1 hfa_1 hla_1); try (refine keepc hba (w.heap.size + 1 + 1) ?_ ?_; (focus (first | omega | (simp <;> omega))); intro hca_2 hfa_2 hla_2)))
    go_ret3
    exact gives rfl gr
  · rw [g1] at HF
    rw [if_pos rfl]
    have HC := Lib.hid (fun w => torsionPoints_any a b g1 w)
    have HG := Lib.hid (fun ca cl cc W h => greatestOrder_any a b g1 (tps a b) (tps_PV g1) (by have := tps_len a b; omega) ca cl cc W h)
    have hG := gmV_b a b
    have hlen := tps_len a b
    rw [show gmL a (tps a b) 1 = gmV a b from rfl] at HG
    generalize gmV a b = G at *
    skip
    generalize tps a b = R at *
    have q0 := tdiv_bd (R.length : Int) G
    have q1 : -9223372036854775808 ≤ (R.length : Int).tdiv G := by omega
    have q2 : (R.length : Int).tdiv G ≤ 9223372036854775807 := by omega
    have k0 : (G == 0) = false := by simp; omega
    have k1 : ¬ G = 0 := by omega
    have KQ := Lib.hid (show wrap64 ((R.length : Int) / G) = (R.length : Int).tdiv G from by rw [← Int.tdiv_eq_ediv_of_nonneg (show (0 : Int) ≤ (R.length : Int) by omega)]; exact win (by omega))
    clear q0
    go_enter Tryz.func11, Tryz.ntmps11
    go_wp2_with fail
    refine (HF.out _).mono ?_
    rintro e9 wa ⟨rfl, hba⟩
    have Bc := Box.below (show Box _ w.heap.size [.int .i64 a, .int .i64 b] from box_made2 _ _ _ _) hba
    have hB := bthen2 hba (show Below w.heap.size w (w.alloc (Obj.cells #[.int .i64 a, .int .i64 b] 25)) by repeat' (first | (with_reducible first | exact bq1 _ _ | assumption | refine bq2 ?_ ?_ _ | refine bq3 ?_ ?_ _ | refine bq4 ?_ | refine bq5 ?_ _) | (apply bthen2; (with_reducible assumption)) | go_size))
    have c0 := Bc.2.1 0 _ rfl; have c1 := Bc.2.1 1 _ rfl; have cl := Bc.1
    go_wp2_with fail
    refine (HC.out _).mono ?_
    rintro e9 wb ⟨ca, cl, cc, rfl, hown, hbb⟩
    obtain ⟨ca', cc', hsl⟩ := hown.slice
    obtain ⟨rfl, rfl, rfl⟩ : ca = ca' ∧ cl = R.length ∧ cc = cc' := by simpa using hsl
    clear hsl
    have Bd := Bc.below hbb
    have PT := hown.pts
    have hB2 := bthen2 hbb hB
    have d0 := Bd.2.1 0 _ rfl; have d1 := Bd.2.1 1 _ rfl; have dl := Bd.1
    go_wp2_with fail
    refine (HG.out _ _ _ _ ?_).mono ?_
    · exact PT
    rintro e9 wd ⟨rfl, hbd⟩
    have hB3 := bthen2 hbd hB2
    clear PT hown
    go_wp2_with fail
    (try (go_quiet (fail); go_wp2_with fail))
    go_ret3
    have hz3 := hB3.size
    exact gives (show Value.tuple #[Value.int IntKind.i64 (wrap64 ((R.length : Int) / G)), Value.int IntKind.i64 G, Value.bool true] = Value.tuple #[Value.int IntKind.i64 ((R.length : Int).tdiv G), Value.int IntKind.i64 G, Value.bool true] from by rw [KQ.out]) gr
set_option maxHeartbeats 2000000 in
theorem sTorsionShape_any (a b : Int) (w : World) : Calls Tryz.prog 12 #[.agg #[.int .i64 a, .int .i64 b]] w (Gives (tsV a b) w) := by
  have HF := Lib.hid (fun w => ecGood_any a b w)
  unfold tsV
  cases g1 : isC a b
  · rw [g1] at HF
    go_enter Tryz.func12, Tryz.ntmps12
    go_wp2_with (first | (go_at_call 44; refine (HF.out _).mono ?_; rintro e wa ⟨rfl, hba⟩; have hza := hba.size; (try simp only [wz1, wz2, wz3, wz4] at hza); try (refine keepc hba (w.heap.size) ?_ ?_; (focus (first | omega | (simp <;> omega))); intro hca_0 hfa_0 hla_0); try (refine keepc hba (w.heap.size + 1) ?_ ?_; (focus (first | omega | (simp <;> omega))); intro hca_1 hfa_1 hla_1); try (refine keepc hba (w.heap.size + 1 + 1) ?_ ?_; (focus (first | omega | (simp <;> omega))); intro hca_2 hfa_2 hla_2)))
    go_ret3
    exact gives rfl gr
  · rw [g1] at HF
    rw [if_pos rfl]
    have HC := Lib.hid (fun w => toPoints_any a b g1 w)
    have HG := Lib.hid (fun ca cl cc W h => toMost_any a b g1 (tps a b) (tps_PV g1) (by have := tps_len a b; omega) ca cl cc W h)
    have hG := gmV_b a b
    have hlen := tps_len a b
    rw [tm_gmV] at HG
    generalize gmV a b = G at *
    generalize tmL a (tps a b) ((0, 0, 0), 0) = TM at *
    generalize tps a b = R at *
    have q0 := tdiv_bd (R.length : Int) G
    have q1 : -9223372036854775808 ≤ (R.length : Int).tdiv G := by omega
    have q2 : (R.length : Int).tdiv G ≤ 9223372036854775807 := by omega
    have k0 : (G == 0) = false := by simp; omega
    have k1 : ¬ G = 0 := by omega
    have KQ := Lib.hid (show wrap64 ((R.length : Int) / G) = (R.length : Int).tdiv G from by rw [← Int.tdiv_eq_ediv_of_nonneg (show (0 : Int) ≤ (R.length : Int) by omega)]; exact win (by omega))
    clear q0
    go_enter Tryz.func12, Tryz.ntmps12
    go_wp2_with fail
    refine (HF.out _).mono ?_
    rintro e9 wa ⟨rfl, hba⟩
    have Bc := Box.below (show Box _ w.heap.size [.int .i64 a, .int .i64 b] from box_made2 _ _ _ _) hba
    have hB := bthen2 hba (show Below w.heap.size w (w.alloc (Obj.cells #[.int .i64 a, .int .i64 b] 25)) by repeat' (first | (with_reducible first | exact bq1 _ _ | assumption | refine bq2 ?_ ?_ _ | refine bq3 ?_ ?_ _ | refine bq4 ?_ | refine bq5 ?_ _) | (apply bthen2; (with_reducible assumption)) | go_size))
    have c0 := Bc.2.1 0 _ rfl; have c1 := Bc.2.1 1 _ rfl; have cl := Bc.1
    go_wp2_with fail
    refine (HC.out _).mono ?_
    rintro e9 wb ⟨ca, cl, cc, rfl, hown, hbb⟩
    obtain ⟨ca', cc', hsl⟩ := hown.slice
    obtain ⟨rfl, rfl, rfl⟩ : ca = ca' ∧ cl = R.length ∧ cc = cc' := by simpa using hsl
    clear hsl
    have Bd := Bc.below hbb
    have PT := hown.pts
    have hB2 := bthen2 hbb hB
    have d0 := Bd.2.1 0 _ rfl; have d1 := Bd.2.1 1 _ rfl; have dl := Bd.1
    go_wp2_with fail
    refine (HG.out _ _ _ _ ?_).mono ?_
    · exact PT
    rintro e9 wd ⟨rfl, hbd⟩
    have hB3 := bthen2 hbd hB2
    clear PT hown
    go_wp2_with fail
    (try (go_quiet (fail); go_wp2_with fail))
    go_ret3
    have hz3 := hB3.size
    exact gives (show Value.tuple #[Value.int IntKind.i64 (wrap64 ((R.length : Int) / G)), Value.int IntKind.i64 G, Value.bool true] = Value.tuple #[Value.int IntKind.i64 ((R.length : Int).tdiv G), Value.int IntKind.i64 G, Value.bool true] from by rw [KQ.out]) gr
/-! ### is a point among points? -/
def GivesIdx (p : P3) (L : List P3) (w : World) (e : Ending) (w' : World) : Prop := ∃ r : Int, e = .returned (.int .i64 r) ∧ -1 ≤ r ∧ r ≤ 1000000 ∧ (0 ≤ r ↔ p ∈ L) ∧ Below w.heap.size w w'
theorem mem_take_succ {L : List P3} {k : Nat} {q : P3} (h : L[k]? = some q) (p : P3) (hn : p ∉ L.take k) (hq : p ≠ q) : p ∉ L.take (k + 1) := by
  have hk : k < L.length := by
    rcases Nat.lt_or_ge k L.length with q | q
    · exact q
    · rw [List.getElem?_eq_none q] at h; cases h
  have e : L[k] = q := by rw [List.getElem?_eq_getElem hk] at h; exact Option.some.inj h
  rw [List.take_succ_eq_append_getElem hk, e]
  intro hm
  rcases List.mem_append.1 hm with h1 | h1
  · exact hn h1
  · exact hq (List.mem_singleton.1 h1)
set_option maxRecDepth 100000 in
set_option maxHeartbeats 4000000 in
theorem IndexP_any (x y e : Int) (L : List P3) (hL2 : L.length ≤ 1000000) (ca : Option Addr) (cl cc : Nat) (w : World) (hl : PtsR w (.slice ca cl cc) L) :
    Calls Tryz.prog 102 #[.slice ca cl cc, .agg #[.int .i64 x, .int .i64 y, .int .i64 e]] w (GivesIdx (x, y, e) L w) := by
  obtain ⟨ca', cc', hsl, hml, -⟩ := id hl
  obtain ⟨rfl, rfl, rfl⟩ : ca = ca' ∧ cl = L.length ∧ cc = cc' := by simpa using hsl
  have HL := Lib.hid hl
  unfold GivesIdx
  clear hsl hl hml
  go_enter Tryz.func102, Tryz.ntmps102
  go_wp2_with fail
  refine name_world (fun W1 hW1 => ?_)
  have Bp : Box W1 w.heap.size [.int .i64 x, .int .i64 y, .int .i64 e] := by subst hW1; exact box_three (by first | omega | (simp; done) | (simp; omega)) (by simp [go_sem]) (by simp [go_sem]) (by simp [go_sem]) (fun o => by simp [go_sem])
  have hB : Below w.heap.size w W1 := by subst hW1; exact gr
  clear hW1
  go_loopw [8] (fun v8 wr => ∃ k : Nat, v8 = .int .i64 k ∧ k ≤ L.length ∧ Hid ((x, y, e) ∉ L.take k) ∧ Below W1.heap.size W1 wr) (fun v8 _ => (L.length - intOf v8).toNat)
  case atStart => exact ⟨0, rfl, by omega, Lib.hid (by simp), Below.refl _ _⟩
  case round =>
    obtain ⟨k, rfl, hk, HM, hbw⟩ := hrel
    have Bw := Bp.below hbw
    have c0 := Bw.2.1 0 _ rfl; have c1 := Bw.2.1 1 _ rfl; have c2 := Bw.2.1 2 _ rfl; have cl := Bw.1
    by_cases hlt : k < L.length
    · obtain ⟨⟨px, py, pe⟩, hp⟩ : ∃ p, L[k]? = some p := ⟨_, List.getElem?_eq_getElem hlt⟩
      obtain ⟨ca2, cc2, hsl, hml, hcells⟩ := (HL.out.below hB).below hbw
      obtain ⟨b, off, ha, hbl, x0, x1, x2⟩ := hcells k _ hp
      have hca : ca = some ⟨b, off, none⟩ := by
        have : ca = ca2 := by simpa using congrArg (fun v => match v with | Value.slice a _ _ => a | _ => none) hsl
        rw [this, ha]
      subst hca
      clear hcells hsl ha
      simp only at x0 x1 x2
      have hlt' : (k : Int) < (L.length : Int) := by omega
      have HS := Lib.hid (fun hne => mem_take_succ hp (x, y, e) HM.out hne)
      have HP := Lib.hid hp
      clear hp HM
      by_cases g1 : x = px
      · by_cases g2 : y = py
        · by_cases g3 : e = pe
          · have HQ := Lib.hid (show (x, y, e) ∈ L from by rw [g1, g2, g3]; exact List.mem_of_getElem? HP.out)
            subst g1; subst g2; subst g3
            clear HS HP
            go_wp2_with fail
            (try (go_quiet (fail); go_wp2_with fail))
            go_ret
            exact ⟨k, rfl, by omega, by omega, ⟨fun _ => HQ.out, fun _ => by omega⟩, gr⟩
          · have q : (e == pe) = false := by simpa using g3
            have HN := Lib.hid (HS.out (by simp [g3]))
            subst g1; subst g2
            clear HS HP
            go_wp2_with fail
            (try (go_quiet (fail); go_wp2_with fail))
            go_roundw
            case rel => exact ⟨k + 1, rfl, by omega, HN, gr⟩
            case measure => simp [intOf]; omega
        · have q : (y == py) = false := by simpa using g2
          have HN := Lib.hid (HS.out (by simp [g2]))
          subst g1
          clear HS HP
          go_wp2_with fail
          (try (go_quiet (fail); go_wp2_with fail))
          go_roundw
          case rel => exact ⟨k + 1, rfl, by omega, HN, gr⟩
          case measure => simp [intOf]; omega
      · have q : (x == px) = false := by simpa using g1
        have HN := Lib.hid (HS.out (by simp [g1]))
        clear HS HP
        go_wp2_with fail
        (try (go_quiet (fail); go_wp2_with fail))
        go_roundw
        case rel => exact ⟨k + 1, rfl, by omega, HN, gr⟩
        case measure => simp [intOf]; omega
    · obtain rfl : k = L.length := by omega
      have HN := Lib.hid (show (x, y, e) ∉ L from by have := HM.out; rwa [List.take_length] at this)
      clear HM
      go_wp2_with fail
      go_ret
      exact ⟨-1, rfl, by omega, by omega, ⟨fun h => by omega, fun h => absurd h HN.out⟩, gr⟩
theorem ContainsP_any (x y e : Int) (L : List P3) (hL2 : L.length ≤ 1000000) (ca : Option Addr) (cl cc : Nat) (w : World) (hl : PtsR w (.slice ca cl cc) L) :
    Calls Tryz.prog 65 #[.slice ca cl cc, .agg #[.int .i64 x, .int .i64 y, .int .i64 e]] w (Gives (.bool (decide ((x, y, e) ∈ L))) w) := by
  have HI := Lib.hid (fun W h => IndexP_any x y e L hL2 ca cl cc W h)
  have HL := Lib.hid hl
  clear hl hL2
  by_cases hm : (x, y, e) ∈ L
  · rw [decide_eq_true hm]
    have HM := Lib.hid hm
    clear hm
    go_enter Tryz.func65, Tryz.ntmps65
    go_wp2_with fail
    refine (HI.out _ ?_).mono ?_
    · refine PtsR.below HL.out ?_; repeat' (first | (with_reducible first | exact bq1 _ _ | assumption | refine bq2 ?_ ?_ _ | refine bq3 ?_ ?_ _ | refine bq4 ?_ | refine bq5 ?_ _) | (apply bthen2; (with_reducible assumption)) | go_size)
    rintro e9 wa ⟨r, rfl, h1, h2, h3, hba⟩
    have h4 : 0 ≤ r := h3.2 HM.out
    clear h3
    go_wp2_with fail
    go_ret
    first | exact gives rfl gr | exact gives (show Value.bool (decide (0 ≤ r)) = Value.bool true from by rw [decide_eq_true (show 0 ≤ r by omega)]) gr
  · rw [decide_eq_false hm]
    have HM := Lib.hid hm
    clear hm
    go_enter Tryz.func65, Tryz.ntmps65
    go_wp2_with fail
    refine (HI.out _ ?_).mono ?_
    · refine PtsR.below HL.out ?_; repeat' (first | (with_reducible first | exact bq1 _ _ | assumption | refine bq2 ?_ ?_ _ | refine bq3 ?_ ?_ _ | refine bq4 ?_ | refine bq5 ?_ _) | (apply bthen2; (with_reducible assumption)) | go_size)
    rintro e9 wa ⟨r, rfl, h1, h2, h3, hba⟩
    have h4 : ¬ 0 ≤ r := fun h => HM.out (h3.1 h)
    clear h3
    go_wp2_with fail
    go_ret
    first | exact gives rfl gr | exact gives (show Value.bool (decide (0 ≤ r)) = Value.bool false from by rw [decide_eq_false (show ¬ 0 ≤ r by omega)]) gr
def itV (a b x y e : Int) : Value := if ptB a b x y e then .tuple #[.bool (ordV a (x, y, e)).2, .bool true] else .tuple #[.bool false, .bool false]
theorem ptB_PV {a b x y e : Int} (h : ptB a b x y e = true) : isC a b = true ∧ EC.PV a b (x, y, e) := by
  unfold ptB at h
  simp only [Bool.and_eq_true, Bool.or_eq_true, decide_eq_true_eq, inB_iff] at h
  refine ⟨h.1, ?_⟩
  rcases h.2 with ⟨rfl, rfl, rfl⟩ | ⟨⟨⟨h1, h2⟩, h3⟩, h4⟩
  · exact .inl rfl
  · exact .inr ⟨h1.1, h1.2, h2.1, h2.2, h3, h4⟩
set_option maxHeartbeats 4000000 in
theorem IsTorsionPoint_any (a b x y e : Int) (w : World) : Calls Tryz.prog 19 #[.agg #[.int .i64 a, .int .i64 b], .agg #[.int .i64 x, .int .i64 y, .int .i64 e]] w (Gives (itV a b x y e) w) := by
  have HF := Lib.hid (fun w => isPoint_any a b x y e w)
  unfold itV
  cases g1 : ptB a b x y e
  · rw [g1] at HF
    go_enter Tryz.func19, Tryz.ntmps19
    go_wp2_with (first | (go_at_call 50; refine (HF.out _).mono ?_; rintro e wa ⟨rfl, hba⟩; have hza := hba.size; (try simp only [wz1, wz2, wz3, wz4] at hza); try (refine keepc hba (w.heap.size) ?_ ?_; (focus (first | omega | (simp <;> omega))); intro hca_0 hfa_0 hla_0); try (refine keepc hba (w.heap.size + 1) ?_ ?_; (focus (first | omega | (simp <;> omega))); intro hca_1 hfa_1 hla_1); try (refine keepc hba (w.heap.size + 1 + 1) ?_ ?_; (focus (first | omega | (simp <;> omega))); intro hca_2 hfa_2 hla_2)))
    go_ret2
    exact gives rfl gr
  · obtain ⟨hC, hp⟩ := ptB_PV g1
    rw [g1] at HF
    rw [if_pos rfl]
    have HT := Lib.hid (fun W => torsionPoints_any a b hC W)
    have HK := Lib.hid (fun ca cl cc W h => ContainsP_any x y e (tps a b) (by have := tps_len a b; omega) ca cl cc W h)
    have hm : decide ((x, y, e) ∈ tps a b) = (ordV a (x, y, e)).2 := by rw [Bool.eq_iff_iff, decide_eq_true_eq]; exact mem_tps hC hp
    rw [hm] at HK
    clear hm
    generalize tps a b = L at *
    generalize (ordV a (x, y, e)).2 = R at *
    clear hC hp g1
    go_enter Tryz.func19, Tryz.ntmps19
    go_wp2_with fail
    refine (HF.out _).mono ?_
    rintro e9 wa ⟨rfl, hba⟩
    have Bc := Box.below (show Box _ w.heap.size [.int .i64 a, .int .i64 b] from Box.alloc (box_made2 _ _ _ _) _) hba
    have Bp := Box.below (show Box _ (w.heap.size + 1) [.int .i64 x, .int .i64 y, .int .i64 e] from box_three (by simp) (by simp [go_sem]) (by simp [go_sem]) (by simp [go_sem]) (fun o => by simp [go_sem])) hba
    have hB : Below w.heap.size w wa := bthen2 hba gr
    have z0 := Bc.2.1 0 _ rfl; have z1 := Bc.2.1 1 _ rfl; have zl := Bc.1
    have y0 := Bp.2.1 0 _ rfl; have y1 := Bp.2.1 1 _ rfl; have y2 := Bp.2.1 2 _ rfl; have yl := Bp.1
    go_upto_region 3 with fail
    go_region_held3 (fun w' => Below wa.heap.size wa w' ∧ w'.cell? ⟨w.heap.size, 0, none⟩ = some (.int .i64 a) ∧ w'.cell? ⟨w.heap.size, 1, none⟩ = some (.int .i64 b) ∧ w'.cell? ⟨w.heap.size + 1, 0, none⟩ = some (.int .i64 x) ∧ w'.cell? ⟨w.heap.size + 1, 1, none⟩ = some (.int .i64 y) ∧ w'.cell? ⟨w.heap.size + 1, 2, none⟩ = some (.int .i64 e)) ((refine (fun hbK => And.intro hbK (by exact ⟨(hbK.cell (p := ⟨w.heap.size, 0, none⟩) (by first | assumption | omega | (simp; omega))).trans z0, (hbK.cell (p := ⟨w.heap.size, 1, none⟩) (by first | assumption | omega | (simp; omega))).trans z1, (hbK.cell (p := ⟨w.heap.size + 1, 0, none⟩) (by first | assumption | omega | (simp; omega))).trans y0, (hbK.cell (p := ⟨w.heap.size + 1, 1, none⟩) (by first | assumption | omega | (simp; omega))).trans y1, (hbK.cell (p := ⟨w.heap.size + 1, 2, none⟩) (by first | assumption | omega | (simp; omega))).trans y2⟩)) ?_; repeat' (first | (with_reducible first | exact bq1 _ _ | assumption | refine bq2 ?_ ?_ _ | refine bq3 ?_ ?_ _ | refine bq4 ?_ | refine bq5 ?_ _) | (apply bthen2; (with_reducible assumption)) | go_size))) ((first | (go_at_call 43; refine (HT.out _).mono ?_; rintro e9 wf ⟨a3, l3, c3, rfl, ho3, hbf⟩; have PT := ho3.pts) | (go_at_call 65; refine (HK.out _ _ _ _ ?_).mono ?_; (focus (refine PtsR.below PT ?_; repeat' (first | (with_reducible first | exact bq1 _ _ | assumption | refine bq2 ?_ ?_ _ | refine bq3 ?_ ?_ _ | refine bq4 ?_ | refine bq5 ?_ _) | (apply bthen2; (with_reducible assumption)) | go_size))); rintro e9 wg ⟨rfl, hbg⟩)))
    go_wp2_with fail
    go_ret2
    exact gives rfl (by apply bthen hB; repeat' (first | (with_reducible first | exact bq1 _ _ | assumption | refine bq2 ?_ ?_ _ | refine bq3 ?_ ?_ _ | refine bq4 ?_ | refine bq5 ?_ _) | (apply bthen2; (with_reducible assumption)) | go_size))
set_option maxRecDepth 100000 in
set_option maxHeartbeats 4000000 in
theorem pSamePoints_same (s t : Value) (ps : List P3) (w : World) (hs : PtsR w s ps) (ht : PtsR w t ps) : Calls Tryz.prog 13 #[s, t] w (Gives (.bool true) w) := by
  obtain ⟨a, cap, rfl, hl, hc⟩ := hs
  obtain ⟨a2, cap2, rfl, hl2, hc2⟩ := ht
  have HC := Lib.hid hc; have HC2 := Lib.hid hc2
  clear hc hc2
  go_enter Tryz.func13, Tryz.ntmps13
  go_wp2_with fail
  go_loopw [13] (fun v13 wr => ∃ k : Nat, v13 = .int .i64 k ∧ k ≤ ps.length ∧ Below w.heap.size w wr) (fun v13 _ => (ps.length - intOf v13).toNat)
  case atStart => exact ⟨0, rfl, by omega, Below.refl _ _⟩
  case round =>
    obtain ⟨k, rfl, hk, hbw⟩ := hrel
    by_cases hlt : k < ps.length
    · obtain ⟨⟨px, py, pe⟩, hp⟩ : ∃ p, ps[k]? = some p := ⟨_, List.getElem?_eq_getElem hlt⟩
      obtain ⟨b, off, ha, hbl, x0, x1, x2⟩ := HC.out k _ hp
      obtain ⟨b2, off2, ha2, hbl2, y0, y1, y2⟩ := HC2.out k _ hp
      subst ha; subst ha2
      simp only at x0 x1 x2 y0 y1 y2
      have e0 := (hbw.cell (p := ⟨b, _, none⟩) hbl).trans x0
      have e1 := (hbw.cell (p := ⟨b, _, none⟩) hbl).trans x1
      have e2 := (hbw.cell (p := ⟨b, _, none⟩) hbl).trans x2
      have f0 := (hbw.cell (p := ⟨b2, _, none⟩) hbl2).trans y0
      have f1 := (hbw.cell (p := ⟨b2, _, none⟩) hbl2).trans y1
      have f2 := (hbw.cell (p := ⟨b2, _, none⟩) hbl2).trans y2
      have hlt' : (k : Int) < (ps.length : Int) := by omega
      clear hp HC HC2 x0 x1 x2 y0 y1 y2
      go_wp2_with fail
      (try (go_quiet (fail); go_wp2_with fail))
      go_roundw
      case rel => exact ⟨k + 1, rfl, by omega, gr⟩
      case measure => simp [intOf]; omega
    · obtain rfl : k = ps.length := by omega
      go_wp2_with fail
      go_ret
      exact gives rfl gr
/-! ### lists of multiples; is a point in a list (the reference's) -/
theorem Box.belowN {w w' : World} {b N : Nat} {vs : List Value} (h : Box w b vs) (hb : Below N w w') (hN : b < N) : Box w' b vs :=
  ⟨Nat.lt_of_lt_of_le h.1 hb.size, fun i v hi => (hb.cell (p := ⟨b, i, none⟩) hN).trans (h.2.1 i v hi), fun o => (hb.frozen (p := ⟨b, o, none⟩) hN).trans (h.2.2 o)⟩
def mlL (A : Int) (p : P3) (n : Nat) : List P3 := (List.range n).filterMap fun k => mulO A p (k + 1)
theorem mlL_succ {A : Int} {p q : P3} {n : Nat} (h : mulO A p (n + 1) = some q) : mlL A p (n + 1) = mlL A p n ++ [q] := by
  unfold mlL
  rw [List.range_succ, List.filterMap_append]
  simp [h]
theorem OwnP.set {w : World} {B : Nat} {s : Value} {ps : List P3} {p : Addr} (h : OwnP w B s ps) (hp : p.block < B) (u : Value) : OwnP (w.setCell p u) B s ps := ownsRow_setCell_below h hp u
/-! ### the multiples of a torsion point (plain) -/
theorem PV.zero {A B : Int} {q : P3} (h : EC.PV A B q) (h0 : q.2.2 = 0) : q = (0, 0, 0) := by
  rcases h with h1 | ⟨-, -, h3, -⟩
  · exact h1
  · omega
theorem toQ_none {p : P3} (h0 : p.2.2 = 0) : EC.toQ p = none := by unfold EC.toQ; rw [if_pos h0]
theorem toQ_none_iff {p : P3} (h : EC.toQ p = none) : p.2.2 = 0 := by
  unfold EC.toQ at h
  split at h
  · assumption
  · cases h
theorem mulO_nmul {A B : Int} {p : P3} (hp : EC.PV A B p) : ∀ (k : Nat) (q : P3), mulO A p k = some q → EC.PV A B q ∧ EC.toQ q = EC.nmul (A : Rat) k (EC.toQ p)
  | 0, q, h => by
    obtain rfl : (0, 0, 0) = q := Option.some.inj h
    exact ⟨.inl rfl, toQ_none rfl⟩
  | k + 1, q, h => by
    rcases hk : mulO A p k with _ | r
    · rw [mulO, hk] at h; cases h
    · obtain ⟨h1, h2⟩ := mulO_nmul hp k r hk
      rw [mulO_succ hk] at h
      obtain ⟨h3, h4⟩ := EC.sumO_PV h1 hp h
      exact ⟨h3, by rw [h4, h2]; rfl⟩
theorem ordGo_run {A B : Int} {p : P3} (hp : EC.PV A B p) : ∀ (f : Nat) (n : Nat) (now : P3), EC.PV A B now → mulO A p n = some now → ∀ r, ordGo A p f ((n : Int) + 1) now = (r, true) →
    ∃ k : Nat, n + 1 ≤ k ∧ k ≤ n + f ∧ r = k ∧ (∀ j, n < j → j < k → ∃ q, mulO A p j = some q ∧ q.2.2 ≠ 0) ∧ mulO A p k = some (0, 0, 0)
  | 0, n, now, hn, h1, r, h => by simp [ordGo] at h
  | f + 1, n, now, hn, h1, r, h => by
    rcases hs : EC.sumO A now p with _ | q
    · rw [ordGo_none hs] at h; simp at h
    · have hq := (EC.sumO_PV hn hp hs).1
      have h2 : mulO A p (n + 1) = some q := by rw [mulO_succ h1, hs]
      by_cases h0 : q.2.2 = 0
      · rw [ordGo_fin hs h0] at h
        simp only [Prod.mk.injEq, and_true] at h
        exact ⟨n + 1, by omega, by omega, by omega, fun j h3 h4 => by omega, by rw [h2, PV.zero hq h0]⟩
      · rw [ordGo_go hs h0] at h
        obtain ⟨k, k1, k2, k3, k4, k5⟩ := ordGo_run hp f (n + 1) q hq h2 r (by rw [← h]; congr 1)
        refine ⟨k, by omega, by omega, k3, fun j j1 j2 => ?_, k5⟩
        by_cases e : j = n + 1
        · subst e; exact ⟨q, h2, h0⟩
        · exact k4 j (by omega) j2
theorem ord_run {A B : Int} {p : P3} (hp : EC.PV A B p) (h : (ordV A p).2 = true) : ∃ n : Nat, 1 ≤ n ∧ n ≤ 12 ∧ (ordV A p).1 = n ∧ (∀ j, 0 < j → j < n → ∃ q, mulO A p j = some q ∧ q.2.2 ≠ 0) ∧ mulO A p n = some (0, 0, 0) := by
  obtain ⟨r, b, hr⟩ : ∃ r b, ordV A p = (r, b) := ⟨_, _, rfl⟩
  rw [hr] at h ⊢
  simp only at h ⊢
  subst h
  obtain ⟨k, k1, k2, k3, k4, k5⟩ := ordGo_run hp 12 0 (0, 0, 0) (.inl rfl) rfl r hr
  exact ⟨k, by omega, by omega, k3, k4, k5⟩
/-- What is known of a told torsion point: its order n and its multiples. -/
structure Tor (A B : Int) (p : P3) (n : Nat) : Prop where
  pv : EC.PV A B p
  lo : 1 ≤ n
  hi : n ≤ 12
  ord : (ordV A p).1 = n
  mid : ∀ j, 0 < j → j < n → ∃ q, mulO A p j = some q ∧ q.2.2 ≠ 0
  fin : mulO A p n = some (0, 0, 0)
theorem tor_of {A B : Int} {p : P3} (hp : EC.PV A B p) (h : (ordV A p).2 = true) : ∃ n, Tor A B p n := by
  obtain ⟨n, h1, h2, h3, h4, h5⟩ := ord_run hp h
  exact ⟨n, hp, h1, h2, h3, h4, h5⟩
theorem Tor.some_ {A B : Int} {p : P3} {n : Nat} (h : Tor A B p n) {j : Nat} (hj : j ≤ n) : ∃ q, mulO A p j = some q ∧ EC.PV A B q ∧ EC.toQ q = EC.nmul (A : Rat) j (EC.toQ p) := by
  have : ∃ q, mulO A p j = some q := by
    rcases Nat.eq_zero_or_pos j with rfl | h0
    · exact ⟨_, rfl⟩
    · by_cases e : j = n
      · subst e; exact ⟨_, h.fin⟩
      · obtain ⟨q, hq, -⟩ := h.mid j h0 (by omega); exact ⟨q, hq⟩
  obtain ⟨q, hq⟩ := this
  exact ⟨q, hq, mulO_nmul h.pv j q hq⟩
theorem Tor.nfin {A B : Int} {p : P3} {n : Nat} (h : Tor A B p n) : EC.nmul (A : Rat) n (EC.toQ p) = none := by
  rw [← (mulO_nmul h.pv n _ h.fin).2]; exact toQ_none rfl
theorem Tor.nmid {A B : Int} {p : P3} {n : Nat} (h : Tor A B p n) {j : Nat} (h0 : 0 < j) (hj : j < n) : EC.nmul (A : Rat) j (EC.toQ p) ≠ none := by
  obtain ⟨q, hq, h1⟩ := h.mid j h0 hj
  rw [← (mulO_nmul h.pv j _ hq).2]
  exact fun e => h1 (toQ_none_iff e)
/-- Two multiples below the order that are alike are one. -/
theorem Tor.inj {A B : Int} {p : P3} {n : Nat} (hC : isC A B = true) (h : Tor A B p n) {i j : Nat} (hij : i < j) (hj : j ≤ n) (hi : 0 < i ∨ j < n) : mulO A p i ≠ mulO A p j := by
  intro e
  obtain ⟨q, hq, hp, h1⟩ := h.some_ (j := i) (by omega)
  obtain ⟨q', hq', -, h2⟩ := h.some_ (j := j) hj
  rw [hq, hq'] at e
  obtain rfl := Option.some.inj e
  have ns := EC.disc_ne (disc_ne0 hC)
  have h3 := EC.nmul_add EC.two_rat ns h.pv.on (j - i) i
  rw [show j - i + i = j by omega, ← h2, ← h1] at h3
  have h4 := EC.add_back EC.two_rat ns (EC.nmul_on EC.two_rat h.pv.on (j - i)) hp.on
  rw [← h3, EC.add_neg_self EC.two_rat hp.on] at h4
  exact h.nmid (show 0 < j - i by omega) (by omega) h4.symm
theorem Tor.mem {A B : Int} {p : P3} {n : Nat} (hC : isC A B = true) (h : Tor A B p n) {j : Nat} {q : P3} (hq : mulO A p j = Option.some q) : q ∈ tps A B := by
  obtain ⟨h1, h2⟩ := mulO_nmul h.pv j q hq
  refine (mem_tps hC h1).2 ((ord_iff hC h1).2 ⟨n, h.lo, h.hi, ?_⟩)
  rw [h2]
  exact nmul_comm hC h.pv.on h.nfin j
theorem Tor.ml {A B : Int} {p : P3} {n : Nat} (h : Tor A B p n) : ∀ k, k ≤ n → mlL A p k = (List.range k).map fun i => (mulO A p (i + 1)).getD (0, 0, 0)
  | 0, _ => rfl
  | k + 1, hk => by
    obtain ⟨q, hq, -⟩ := h.some_ hk
    rw [mlL_succ hq, h.ml k (by omega), List.range_succ, List.map_append]
    simp [hq]
theorem tps_tor {A B : Int} (hC : isC A B = true) {p : P3} (hp : p ∈ tps A B) : ∃ n, Tor A B p n := tor_of (tps_PV hC p hp) ((mem_tps hC (tps_PV hC p hp)).1 hp)
/-- The first point of the greatest order. -/
theorem tmL_find (A : Int) : ∀ (L : List P3) (b : P3 × Int), (b.2 < gmL A L b.2 → L.find? (fun p => (ordV A p).1 == gmL A L b.2) = some (tmL A L b).1) ∧ (¬ b.2 < gmL A L b.2 → tmL A L b = b)
  | [], b => ⟨fun h => absurd h (by show ¬ b.2 < b.2; omega), fun _ => rfl⟩
  | p :: L, b => by
    have hG : gmL A (p :: L) b.2 = gmL A L (max b.2 (ordV A p).1) := rfl
    have hT : tmL A (p :: L) b = tmL A L (if b.2 < (ordV A p).1 then (p, (ordV A p).1) else b) := rfl
    have hle := gmL_le A L (max b.2 (ordV A p).1)
    obtain ⟨i1, i2⟩ := tmL_find A L (if b.2 < (ordV A p).1 then (p, (ordV A p).1) else b)
    have hb : (if b.2 < (ordV A p).1 then (p, (ordV A p).1) else b).2 = max b.2 (ordV A p).1 := by split <;> (try dsimp only) <;> omega
    rw [hb] at i1 i2
    rw [hG, hT]
    constructor
    · intro h
      by_cases g : max b.2 (ordV A p).1 < gmL A L (max b.2 (ordV A p).1)
      · rw [List.find?_cons_of_neg (by simp only [beq_iff_eq]; omega)]
        exact i1 g
      · have e : (ordV A p).1 = gmL A L (max b.2 (ordV A p).1) := by omega
        rw [List.find?_cons_of_pos (by simp only [beq_iff_eq]; exact e), i2 g, if_pos (by omega)]
    · intro h
      rw [i2 (by omega), if_neg (by omega)]
theorem tps_zero (A B : Int) : ∃ L, tps A B = (0, 0, 0) :: L ∧ ∀ p ∈ L, p ∈ cds A B 6001 := ⟨_, rfl, fun p hp => (List.mem_filter.1 hp).1⟩
theorem cds_E {A B : Int} {p : P3} (hp : p ∈ cds A B 6001) : p.2.2 = 1 := by
  unfold cds at hp
  obtain ⟨i, hi, hp⟩ := List.mem_flatMap.1 hp
  unfold cnd at hp
  split at hp
  · unfold ptsX at hp
    split at hp
    · split at hp
      · simp only [List.mem_singleton] at hp; subst hp; rfl
      · simp only [List.mem_cons, List.not_mem_nil, or_false] at hp
        rcases hp with rfl | rfl <;> rfl
    · simp at hp
  · simp at hp
/-- The first torsion point of the greatest order, and that order. -/
def tgF (A B : Int) : P3 := (tmL A (tps A B) ((0, 0, 0), 0)).1
theorem tg_find {A B : Int} : (tps A B).find? (fun p => (ordV A p).1 == gmV A B) = some (tgF A B) := by
  have h := (tmL_find A (tps A B) ((0, 0, 0), 0)).1
  have e : gmL A (tps A B) 0 = gmV A B := (tmL_gmL A (tps A B) ((0, 0, 0), 0)).symm.trans (tm_gmV A B)
  have hb := gmV_b A B
  rw [show ((((0 : Int), (0 : Int), (0 : Int)), (0 : Int)).2 : Int) = 0 from rfl, e] at h
  exact h (by omega)
end Go.Proofs.YtjgdajeoeagggaaGreat
