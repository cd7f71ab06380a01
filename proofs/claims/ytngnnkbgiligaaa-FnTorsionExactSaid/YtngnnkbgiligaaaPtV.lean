import Derived.Test.YtngnnkbgiligaaaPtT
import Derived.Test.YtngnnkbgiligaaaLawT2
import Derived.Deep.AppendLies
set_option linter.unusedSimpArgs false
set_option linter.unusedVariables false
namespace Go.Proofs.Ytngnnkbgiligaaa
open Go.RowKit
/-! ### torsion points -/

theorem wpl_appPG {ops : Array Oper} {rest : List Oper} {o : Oper} {a : Act} {Q : Exit → Act → World → Prop} {w : World} (hgd : o.guard = none) (s x : Operand)
    (ho : o.op = .call { callee := .builtin .append, args := #[s, x], argTypes := #[36, 36] }) (B : Nat) (v : Value) (ps : List P3) (hs : a.eval s = v) (hown : OwnP w B v ps)
    (b c : Nat) (p : P3) (hx : a.eval x = .slice (some ⟨b, 0, none⟩) 1 c) (h0 : w.cell? ⟨b, 0, none⟩ = some (.int .i64 p.1)) (h1 : w.cell? ⟨b, 1, none⟩ = some (.int .i64 p.2.1)) (h2 : w.cell? ⟨b, 2, none⟩ = some (.int .i64 p.2.2))
    (hlen : ps.length ≤ 1000000000000) (hB : B ≤ w.heap.size)
    (h : ∀ g' cap' w', OwnP w' B (.slice (some ⟨g', 0, none⟩) (ps.length + 1) cap') (ps ++ [p]) → Only v.ownBlock w w' → (v.ownBlock = some g' ∨ g' = w.heap.size) → g' < w'.heap.size → wpList Try.prog ops Q rest (a.put o.dst (.slice (some ⟨g', 0, none⟩) (ps.length + 1) cap')) w') : wpList Try.prog ops Q (o :: rest) a w := by
  obtain ⟨i0, hi, hz0, hz1, hz2⟩ := info_parts infoP
  obtain ⟨px, py, pe⟩ := p
  refine wpList_append_lies w hgd s x 36 ho B 30 i0 _ 3 24 Try.underlying36 hi hz0 hz1 hz2 rfl (by decide) v ps.length (flatP ps) hs hown ⟨b, 0, none⟩ 1 c [.int .i64 px, .int .i64 py, .int .i64 pe] hx rfl ?_ ?_ (by decide) (by unfold maxLen; omega) (by omega) hB _ rfl ?_
  · intro j u hj
    match j, hj with
    | 0, hj => simp at hj; subst hj; exact h0
    | 1, hj => simp at hj; subst hj; exact h1
    | 2, hj => simp at hj; subst hj; exact h2
  · intro u hu; simp at hu; rcases hu with rfl | rfl | rfl <;> rfl
  · intro g' cap' w' q1 q2 q3 q4
    refine h g' cap' w' ?_ (Only.of_grown q2) q3 q4
    unfold OwnP
    rw [flatP_app, List.length_append]
    exact q1
theorem PtsR.only {w w' : World} {a : Option Addr} {len cap : Nat} {ps : List P3} {og : Option Nat} (h : PtsR w (.slice a len cap) ps) (ho : Only og w w') (hne : ∀ b off, a = some ⟨b, off, none⟩ → some b ≠ og) : PtsR w' (.slice a len cap) ps := by
  obtain ⟨a', cap', hv, hl, hc⟩ := h
  obtain ⟨rfl, rfl, rfl⟩ := by simpa using hv
  refine ⟨a, cap, rfl, hl, fun i p hp => ?_⟩
  obtain ⟨b, off, ha, hb1, c0, c1, c2⟩ := hc i p hp
  have hb := ho.block b hb1 (hne b off ha)
  exact ⟨b, off, ha, Nat.lt_of_lt_of_le hb1 ho.size, (World.cell?_of_block (w := w) (w' := w') (a := ⟨b, _, none⟩) hb).trans c0, (World.cell?_of_block (w := w) (w' := w') (a := ⟨b, _, none⟩) hb).trans c1, (World.cell?_of_block (w := w) (w' := w') (a := ⟨b, _, none⟩) hb).trans c2⟩
theorem isC_ff {a b : Int} (h : isC a b = true) : -1000 ≤ a ∧ a ≤ 1000 ∧ -10000 ≤ b ∧ b ≤ 10000 ∧ dsc a b ≠ 0 := by
  unfold isC at h
  simp only [Bool.and_eq_true, inB_iff, bne_iff_ne, ne_eq] at h
  exact ⟨h.1.1.1, h.1.1.2, h.1.2.1, h.1.2.2, h.2⟩
def tps (a b : Int) : List P3 := (0, 0, 0) :: (cds a b 6001).filter fun p => (ordV a p).2
theorem cds_PV {a b : Int} (hC : isC a b = true) : ∀ p ∈ cds a b 6001, EC.PV a b p := by
  obtain ⟨hA, hB⟩ := isC_rng hC
  intro p hp
  unfold cds at hp
  obtain ⟨i, hi, hp⟩ := List.mem_flatMap.1 hp
  rw [List.mem_range] at hi
  have hx : -3000 ≤ -3000 + (i : Int) ∧ -3000 + (i : Int) ≤ 3000 := by omega
  generalize -3000 + (i : Int) = x at *
  have hcv := cVal_in (a := a) (b := b) (x := x) (e := 1) hA hB ⟨by omega, by omega⟩ ⟨by omega, by omega⟩
  unfold cnd at hp
  split at hp
  · unfold ptsX at hp
    split at hp
    · rename_i hs
      have hr := sq_rt hs
      have hg : Int.gcd x 1 = 1 := Int.gcd_one
      split at hp
      · rename_i h0
        simp only [List.mem_singleton] at hp
        subst hp
        exact .inr ⟨by simp only; omega, by simp only; omega, by simp, by simp, hg, by simp only; rw [← hcv, h0]; rfl⟩
      · simp only [List.mem_cons, List.not_mem_nil, or_false] at hp
        rcases hp with rfl | rfl
        · exact .inr ⟨by simp only; omega, by simp only; omega, by simp, by simp, hg, by simp only; rw [← hcv, ← hr.1]; grind⟩
        · exact .inr ⟨by simp only; omega, by simp only; omega, by simp, by simp, hg, by simp only; rw [← hcv]; exact hr.1⟩
    · simp at hp
  · simp at hp
theorem tps_len (a b : Int) : (tps a b).length ≤ 12003 := by
  unfold tps
  have h1 := List.length_filter_le (fun p => (ordV a p).2) (cds a b 6001)
  have h2 := cds_len a b 6001
  simp only [List.length_cons]; omega
theorem tps_PV {a b : Int} (hC : isC a b = true) : ∀ p ∈ tps a b, EC.PV a b p := by
  intro p hp
  unfold tps at hp
  rcases List.mem_cons.1 hp with rfl | hp
  · exact .inl rfl
  · exact cds_PV hC p (List.mem_filter.1 hp).1
theorem filt_take {α : Type} (f : α → Bool) (L : List α) (k : Nat) (p : α) (h : L[k]? = some p) : (L.take (k + 1)).filter f = (L.take k).filter f ++ (if f p = true then [p] else []) := by
  have hk : k < L.length := by
    rcases Nat.lt_or_ge k L.length with q | q
    · exact q
    · rw [List.getElem?_eq_none q] at h; cases h
  have e : L[k] = p := by rw [List.getElem?_eq_getElem hk] at h; exact Option.some.inj h
  rw [List.take_succ_eq_append_getElem hk, List.filter_append, e]
  congr 1
  by_cases g : f p = true <;> simp [g]

set_option maxRecDepth 100000 in
set_option maxHeartbeats 4000000 in
theorem torsionPoints_any (A B : Int) (hC : isC A B = true) (w : World) : Calls Try.prog 47 #[.agg #[.int .i64 A, .int .i64 B]] w (GivesP (tps A B) w) := by
  obtain ⟨k1, k2, k3, k4, hD⟩ := isC_ff hC
  have HC := Lib.hid (fun w => candidates_any A B k1 k2 k3 k4 w)
  have HO := Lib.hid (fun x y e (h : EC.PV A B (x, y, e)) W => orderOfPoint_any A B x y e hC h W)
  have HPV := Lib.hid (cds_PV hC)
  have HL := Lib.hid (cds_len A B 6001)
  have HT := Lib.hid (show tps A B = (0, 0, 0) :: (cds A B 6001).filter (fun p => (ordV A p).2) from rfl)
  have HF := Lib.hid (fun k p h => filt_take (fun p => (ordV A p).2) (cds A B 6001) k p h)
  generalize tps A B = R at *
  generalize cds A B 6001 = L at *
  have hL0 : L.length ≤ 12002 := HL.out
  clear k1 k2 k3 k4 hD hC HL
  generalize hff : (fun p => (ordV A p).2) = F at *
  have HFF := Lib.hid (show ∀ p, F p = (ordV A p).2 from fun p => by rw [← hff])
  clear hff
  go_enter Try.func47, Try.ntmps47
  go_wp2_with fail
  refine (HC.out _).mono ?_
  rintro e9 wa ⟨ca, cl, cc, rfl, hown, hba⟩
  obtain ⟨ca', cc', hsl⟩ := hown.slice
  obtain ⟨rfl, rfl, rfl⟩ : ca = ca' ∧ cl = L.length ∧ cc = cc' := by simpa using hsl
  clear hsl
  have hza := hba.size
  have Bc : Box wa w.heap.size [.int .i64 A, .int .i64 B] := Box.below (show Box _ w.heap.size [.int .i64 A, .int .i64 B] from Box.alloc (box_made2 _ _ _ _) _) hba
  have OO : OwnP wa (w.heap.size + 1) (.slice (some ⟨w.heap.size + 1, 0, none⟩) 1 1) [(0, 0, 0)] := by
    refine OwnP.below ?_ hba
    have := ownP_lit1 (w.alloc (Obj.cells #[.int .i64 A, .int .i64 B] 28)) (0, 0, 0)
    simpa using this
  have hB : Below w.heap.size w wa := by repeat' (first | (with_reducible exact Below.refl _ _) | (with_reducible assumption) | (with_reducible refine Below.alloc ?_ ?_ _) | (with_reducible refine Below.setCell ?_ ?_ _) | (with_reducible refine Below.drew ?_) | (with_reducible refine below_drewN ?_ _) | (apply bthen2; (with_reducible assumption)) | go_size)
  have hcb : ∀ b off, ca = some ⟨b, off, none⟩ → w.heap.size + 1 < b := by
    intro b off h
    subst h
    have := (_root_.Go.World.ownsRow.lt hown b rfl).1
    simp only [World.size_alloc] at this
    omega
  have PT := hown.pts
  (try simp only [World.size_alloc] at hza)
  have c0 := Bc.2.1 0 _ rfl; have c1 := Bc.2.1 1 _ rfl; have cl := Bc.1
  go_wp2_with fail
  go_loopw [3, 13] (fun v3 v13 wr => ∃ (k g n c3 : Nat), v13 = .int .i64 k ∧ v3 = .slice (some ⟨g, 0, none⟩) n c3 ∧ k ≤ L.length ∧ OwnP wr (w.heap.size + 1) v3 ((0, 0, 0) :: (L.take k).filter F) ∧ (∀ b off, ca = some ⟨b, off, none⟩ → b ≠ g) ∧ g < wr.heap.size ∧ PtsR wr (.slice ca L.length cc) L ∧ Box wr w.heap.size [.int .i64 A, .int .i64 B] ∧ w.heap.size + 1 ≤ g ∧ Below w.heap.size w wr) (fun _ v13 _ => (L.length - intOf v13).toNat)
  case atStart => exact ⟨0, w.heap.size + 1, 1, 1, rfl, rfl, by omega, OO, fun b off h => by have := hcb b off h; omega, by omega, PT, Bc, by omega, hB⟩
  case round =>
    clear OO PT hcb hown HC c0 c1 cl Bc hB
    obtain ⟨k, g, n, c3, rfl, rfl, hk, OO, hne, hg, PT, Bc, hg1, hB⟩ := hrel
    have c0 := Bc.2.1 0 _ rfl; have c1 := Bc.2.1 1 _ rfl; have cl := Bc.1
    by_cases hlt : k < L.length
    · obtain ⟨⟨px, py, pe⟩, hp⟩ : ∃ p, L[k]? = some p := ⟨_, List.getElem?_eq_getElem hlt⟩
      obtain ⟨ca2, cc2, hsl, hml, hcells⟩ := PT
      obtain ⟨b, off, ha, hbl, x0, x1, x2⟩ := hcells k _ hp
      have hca : ca = some ⟨b, off, none⟩ := by
        have : ca = ca2 := by simpa using congrArg (fun v => match v with | Value.slice a _ _ => a | _ => none) hsl
        rw [this, ha]
      subst hca
      have PT : PtsR wr (.slice (some ⟨b, off, none⟩) L.length cc) L := ⟨ca2, cc2, hsl, hml, hcells⟩
      clear hcells hsl ha
      have hpv := HPV.out (px, py, pe) (List.mem_of_getElem? hp)
      have hfl := HF.out k _ hp
      have hff := HFF.out (px, py, pe)
      have HOO := HO.out px py pe hpv
      have hlen : ((0, 0, 0) :: (L.take k).filter F).length ≤ 100000 := by
        have := List.length_filter_le F (L.take k)
        have := List.length_take_le k L
        simp only [List.length_cons]; omega
      obtain ⟨o1, o2, ho⟩ : ∃ o1 o2, ordV A (px, py, pe) = (o1, o2) := ⟨_, _, rfl⟩
      rw [ho] at HOO hff
      simp only at HOO hff
      simp only at x0 x1 x2
      have HOO := Lib.hid HOO
      have hlt' : (k : Int) < (L.length : Int) := by omega
      have hnb := hne b off rfl
      have hofs1 : off + k * 3 + 1 = off + k * 3 + 1 := rfl
      cases o2
      · have HQ := Lib.hid (show (L.take (k + 1)).filter F = (L.take k).filter F from by rw [hfl, ho]; simp)
        clear hfl hff ho hpv hp HO HPV HF HFF
        go_wp2_with fail
        refine (HOO.out _).mono ?_
        rintro e9 wb ⟨rfl, hbb⟩
        have hzb := hbb.size
        go_wp2_with fail
        go_roundw
        case rel => exact ⟨k + 1, g, n, c3, rfl, rfl, by omega, by rw [HQ.out]; exact (OO.alloc _).below hbb, hne, by (first | omega | (simp at hzb; omega)), (PT.below (show Below wr.heap.size wr _ by repeat' (first | (with_reducible exact Below.refl _ _) | (with_reducible assumption) | (with_reducible refine Below.alloc ?_ ?_ _) | (with_reducible refine Below.setCell ?_ ?_ _) | (with_reducible refine Below.drew ?_) | (with_reducible refine below_drewN ?_ _) | (apply bthen2; (with_reducible assumption)) | go_size))).below hbb, (Box.alloc Bc _).below hbb, hg1, (by repeat' (first | (with_reducible exact Below.refl _ _) | (with_reducible assumption) | (with_reducible refine Below.alloc ?_ ?_ _) | (with_reducible refine Below.setCell ?_ ?_ _) | (with_reducible refine Below.drew ?_) | (with_reducible refine below_drewN ?_ _) | (apply bthen2; (with_reducible assumption)) | go_size))⟩
        case measure => simp [intOf]; omega
      · have HQ := Lib.hid (show (0, 0, 0) :: (L.take (k + 1)).filter F = ((0, 0, 0) :: (L.take k).filter F) ++ [(px, py, pe)] from by rw [hfl, ho]; simp)
        clear hfl hff ho hpv hp HO HPV HF HFF
        generalize ((0, 0, 0) :: (L.take k).filter F) = P at *
        go_wp2_with fail
        refine (HOO.out _).mono ?_
        rintro e9 wb ⟨rfl, hbb⟩
        have hzb := hbb.size
        have Bx := Box.below (show Box _ wr.heap.size [.int .i64 px, .int .i64 py, .int .i64 pe] from box_three (by simp) (by simp) (by simp) (by simp) (fun o => by simp)) hbb
        have b0 := Bx.2.1 0 _ rfl; have b1 := Bx.2.1 1 _ rfl; have b2 := Bx.2.1 2 _ rfl; have bl := Bx.1
        have OO2 := (OO.alloc (Obj.cells #[.int .i64 px, .int .i64 py, .int .i64 pe] 30)).below hbb
        have PT2 := (PT.below (show Below wr.heap.size wr (wr.alloc (Obj.cells #[.int .i64 px, .int .i64 py, .int .i64 pe] 30)) by repeat' (first | (with_reducible exact Below.refl _ _) | (with_reducible assumption) | (with_reducible refine Below.alloc ?_ ?_ _) | (with_reducible refine Below.setCell ?_ ?_ _) | (with_reducible refine Below.drew ?_) | (with_reducible refine below_drewN ?_ _) | (apply bthen2; (with_reducible assumption)) | go_size))).below hbb
        have Bc2 := (Box.alloc Bc (Obj.cells #[.int .i64 px, .int .i64 py, .int .i64 pe] 30)).below hbb
        have hgb : g < wb.heap.size := by (first | omega | (simp at hzb; omega))
        have hBb : Below w.heap.size w wb := by repeat' (first | (with_reducible exact Below.refl _ _) | (with_reducible assumption) | (with_reducible refine Below.alloc ?_ ?_ _) | (with_reducible refine Below.setCell ?_ ?_ _) | (with_reducible refine Below.drew ?_) | (with_reducible refine below_drewN ?_ _) | (apply bthen2; (with_reducible assumption)) | go_size)
        have hbb2 : b < wb.heap.size := by (first | omega | (simp at hzb; omega))
        have hwb : w.heap.size + 1 ≤ wb.heap.size := by (first | omega | (simp at hzb; omega))
        clear hzb OO PT Bc
        go_wp2_with (first | (at_builtin; refine wpl_appPG rfl _ _ rfl (w.heap.size + 1) (.slice (some ⟨g, 0, none⟩) n c3) P rfl (OO2.alloc _) wb.heap.size 1 (px, py, pe) rfl (by simp) (by simp) (by simp) (by omega) (by simp; omega) ?_; intro g' cap' wp hownp hon hgg hgl))
        have hwp := hon.size
        have hBp : Below w.heap.size w wp := by
          have h1 : Below w.heap.size w (wb.alloc (Obj.cells #[.int .i64 px, .int .i64 py, .int .i64 pe] 30)) := Below.alloc hBb (by omega) _
          exact h1.trans (hon.below (by simp; omega) (fun q hq => by have h9 : g = q := (by simpa [Value.ownBlock] using hq); omega))
        have hbg : ∀ b2 off2, some (⟨b, off, none⟩ : Addr) = some ⟨b2, off2, none⟩ → b2 ≠ g' := by
          intro b2 off2 he
          obtain ⟨rfl, rfl⟩ : b = b2 ∧ off = off2 := by simpa using he
          rcases hgg with h | h
          · obtain rfl : g = g' := by simpa [Value.ownBlock] using h
            exact hnb
          · simp at h; omega
        have PT3 := (PT2.below (show Below wb.heap.size wb (wb.alloc (Obj.cells #[.int .i64 px, .int .i64 py, .int .i64 pe] 30)) by repeat' (first | (with_reducible exact Below.refl _ _) | (with_reducible assumption) | (with_reducible refine Below.alloc ?_ ?_ _) | (with_reducible refine Below.setCell ?_ ?_ _) | (with_reducible refine Below.drew ?_) | (with_reducible refine below_drewN ?_ _) | (apply bthen2; (with_reducible assumption)) | go_size))).only hon (fun b2 off2 he => by
          obtain ⟨rfl, rfl⟩ : b = b2 ∧ off = off2 := by simpa using he
          simp [Value.ownBlock]; exact hnb)
        have Bc3 := (Box.alloc Bc2 (Obj.cells #[.int .i64 px, .int .i64 py, .int .i64 pe] 30)).chg (ChgS.of hon) (fun e => absurd (show g = w.heap.size from by simpa [Value.ownBlock] using e) (by omega))
        have hgg1 : w.heap.size + 1 ≤ g' := by
          rcases hgg with h | h
          · obtain rfl : g = g' := by simpa [Value.ownBlock] using h
            exact hg1
          · simp at h; omega
        clear hon hgg OO2 PT2 Bc2
        go_wp2_with fail
        go_roundw
        case rel => exact ⟨k + 1, g', _, cap', rfl, rfl, by omega, by rw [HQ.out]; exact hownp, hbg, hgl, PT3, Bc3, hgg1, hBp⟩
        case measure => simp [intOf]; omega
    · obtain rfl : k = L.length := by omega
      have HE := Lib.hid (show R = (0, 0, 0) :: (L.take L.length).filter F from by rw [HT.out, List.take_length])
      clear HO HPV HF HFF PT
      go_wp2_with fail
      go_ret
      exact ⟨_, _, _, rfl, by rw [HE.out]; exact OO.mono (by omega), hB⟩

set_option maxRecDepth 100000 in
set_option maxHeartbeats 4000000 in
theorem toPoints_any (A B : Int) (hC : isC A B = true) (w : World) : Calls Try.prog 49 #[.agg #[.int .i64 A, .int .i64 B]] w (GivesP (tps A B) w) := by
  obtain ⟨k1, k2, k3, k4, hD⟩ := isC_ff hC
  have HC := Lib.hid (fun w => toCandidates_any A B k1 k2 k3 k4 hD w)
  have HO := Lib.hid (fun x y e (h : EC.PV A B (x, y, e)) W => ptOrder_any A B x y e hC h W)
  have HPV := Lib.hid (cds_PV hC)
  have HL := Lib.hid (cds_len A B 6001)
  have HT := Lib.hid (show tps A B = (0, 0, 0) :: (cds A B 6001).filter (fun p => (ordV A p).2) from rfl)
  have HF := Lib.hid (fun k p h => filt_take (fun p => (ordV A p).2) (cds A B 6001) k p h)
  generalize tps A B = R at *
  generalize cds A B 6001 = L at *
  have hL0 : L.length ≤ 12002 := HL.out
  clear k1 k2 k3 k4 hD hC HL
  generalize hff : (fun p => (ordV A p).2) = F at *
  have HFF := Lib.hid (show ∀ p, F p = (ordV A p).2 from fun p => by rw [← hff])
  clear hff
  go_enter Try.func49, Try.ntmps49
  go_wp2_with fail
  refine (HC.out _).mono ?_
  rintro e9 wa ⟨ca, cl, cc, rfl, hown, hba⟩
  obtain ⟨ca', cc', hsl⟩ := hown.slice
  obtain ⟨rfl, rfl, rfl⟩ : ca = ca' ∧ cl = L.length ∧ cc = cc' := by simpa using hsl
  clear hsl
  have hza := hba.size
  have Bc : Box wa w.heap.size [.int .i64 A, .int .i64 B] := Box.below (show Box _ w.heap.size [.int .i64 A, .int .i64 B] from Box.alloc (box_made2 _ _ _ _) _) hba
  have OO : OwnP wa (w.heap.size + 1) (.slice (some ⟨w.heap.size + 1, 0, none⟩) 1 1) [(0, 0, 0)] := by
    refine OwnP.below ?_ hba
    have := ownP_lit1 (w.alloc (Obj.cells #[.int .i64 A, .int .i64 B] 28)) (0, 0, 0)
    simpa using this
  have hB : Below w.heap.size w wa := by repeat' (first | (with_reducible exact Below.refl _ _) | (with_reducible assumption) | (with_reducible refine Below.alloc ?_ ?_ _) | (with_reducible refine Below.setCell ?_ ?_ _) | (with_reducible refine Below.drew ?_) | (with_reducible refine below_drewN ?_ _) | (apply bthen2; (with_reducible assumption)) | go_size)
  have hcb : ∀ b off, ca = some ⟨b, off, none⟩ → w.heap.size + 1 < b := by
    intro b off h
    subst h
    have := (_root_.Go.World.ownsRow.lt hown b rfl).1
    simp only [World.size_alloc] at this
    omega
  have PT := hown.pts
  (try simp only [World.size_alloc] at hza)
  have c0 := Bc.2.1 0 _ rfl; have c1 := Bc.2.1 1 _ rfl; have cl := Bc.1
  go_wp2_with fail
  go_loopw [3, 13] (fun v3 v13 wr => ∃ (k g n c3 : Nat), v13 = .int .i64 k ∧ v3 = .slice (some ⟨g, 0, none⟩) n c3 ∧ k ≤ L.length ∧ OwnP wr (w.heap.size + 1) v3 ((0, 0, 0) :: (L.take k).filter F) ∧ (∀ b off, ca = some ⟨b, off, none⟩ → b ≠ g) ∧ g < wr.heap.size ∧ PtsR wr (.slice ca L.length cc) L ∧ Box wr w.heap.size [.int .i64 A, .int .i64 B] ∧ w.heap.size + 1 ≤ g ∧ Below w.heap.size w wr) (fun _ v13 _ => (L.length - intOf v13).toNat)
  case atStart => exact ⟨0, w.heap.size + 1, 1, 1, rfl, rfl, by omega, OO, fun b off h => by have := hcb b off h; omega, by omega, PT, Bc, by omega, hB⟩
  case round =>
    clear OO PT hcb hown HC c0 c1 cl Bc hB
    obtain ⟨k, g, n, c3, rfl, rfl, hk, OO, hne, hg, PT, Bc, hg1, hB⟩ := hrel
    have c0 := Bc.2.1 0 _ rfl; have c1 := Bc.2.1 1 _ rfl; have cl := Bc.1
    by_cases hlt : k < L.length
    · obtain ⟨⟨px, py, pe⟩, hp⟩ : ∃ p, L[k]? = some p := ⟨_, List.getElem?_eq_getElem hlt⟩
      obtain ⟨ca2, cc2, hsl, hml, hcells⟩ := PT
      obtain ⟨b, off, ha, hbl, x0, x1, x2⟩ := hcells k _ hp
      have hca : ca = some ⟨b, off, none⟩ := by
        have : ca = ca2 := by simpa using congrArg (fun v => match v with | Value.slice a _ _ => a | _ => none) hsl
        rw [this, ha]
      subst hca
      have PT : PtsR wr (.slice (some ⟨b, off, none⟩) L.length cc) L := ⟨ca2, cc2, hsl, hml, hcells⟩
      clear hcells hsl ha
      have hpv := HPV.out (px, py, pe) (List.mem_of_getElem? hp)
      have hfl := HF.out k _ hp
      have hff := HFF.out (px, py, pe)
      have HOO := HO.out px py pe hpv
      have hlen : ((0, 0, 0) :: (L.take k).filter F).length ≤ 100000 := by
        have := List.length_filter_le F (L.take k)
        have := List.length_take_le k L
        simp only [List.length_cons]; omega
      obtain ⟨o1, o2, ho⟩ : ∃ o1 o2, ordV A (px, py, pe) = (o1, o2) := ⟨_, _, rfl⟩
      rw [ho] at HOO hff
      simp only at HOO hff
      simp only at x0 x1 x2
      have HOO := Lib.hid HOO
      have hlt' : (k : Int) < (L.length : Int) := by omega
      have hnb := hne b off rfl
      have hofs1 : off + k * 3 + 1 = off + k * 3 + 1 := rfl
      cases o2
      · have HQ := Lib.hid (show (L.take (k + 1)).filter F = (L.take k).filter F from by rw [hfl, ho]; simp)
        clear hfl hff ho hpv hp HO HPV HF HFF
        go_wp2_with fail
        refine (HOO.out _).mono ?_
        rintro e9 wb ⟨rfl, hbb⟩
        have hzb := hbb.size
        go_wp2_with fail
        go_roundw
        case rel => exact ⟨k + 1, g, n, c3, rfl, rfl, by omega, by rw [HQ.out]; exact (OO.alloc _).below hbb, hne, by (first | omega | (simp at hzb; omega)), (PT.below (show Below wr.heap.size wr _ by repeat' (first | (with_reducible exact Below.refl _ _) | (with_reducible assumption) | (with_reducible refine Below.alloc ?_ ?_ _) | (with_reducible refine Below.setCell ?_ ?_ _) | (with_reducible refine Below.drew ?_) | (with_reducible refine below_drewN ?_ _) | (apply bthen2; (with_reducible assumption)) | go_size))).below hbb, (Box.alloc Bc _).below hbb, hg1, (by repeat' (first | (with_reducible exact Below.refl _ _) | (with_reducible assumption) | (with_reducible refine Below.alloc ?_ ?_ _) | (with_reducible refine Below.setCell ?_ ?_ _) | (with_reducible refine Below.drew ?_) | (with_reducible refine below_drewN ?_ _) | (apply bthen2; (with_reducible assumption)) | go_size))⟩
        case measure => simp [intOf]; omega
      · have HQ := Lib.hid (show (0, 0, 0) :: (L.take (k + 1)).filter F = ((0, 0, 0) :: (L.take k).filter F) ++ [(px, py, pe)] from by rw [hfl, ho]; simp)
        clear hfl hff ho hpv hp HO HPV HF HFF
        generalize ((0, 0, 0) :: (L.take k).filter F) = P at *
        go_wp2_with fail
        refine (HOO.out _).mono ?_
        rintro e9 wb ⟨rfl, hbb⟩
        have hzb := hbb.size
        have Bx := Box.below (show Box _ wr.heap.size [.int .i64 px, .int .i64 py, .int .i64 pe] from box_three (by simp) (by simp) (by simp) (by simp) (fun o => by simp)) hbb
        have b0 := Bx.2.1 0 _ rfl; have b1 := Bx.2.1 1 _ rfl; have b2 := Bx.2.1 2 _ rfl; have bl := Bx.1
        have OO2 := (OO.alloc (Obj.cells #[.int .i64 px, .int .i64 py, .int .i64 pe] 30)).below hbb
        have PT2 := (PT.below (show Below wr.heap.size wr (wr.alloc (Obj.cells #[.int .i64 px, .int .i64 py, .int .i64 pe] 30)) by repeat' (first | (with_reducible exact Below.refl _ _) | (with_reducible assumption) | (with_reducible refine Below.alloc ?_ ?_ _) | (with_reducible refine Below.setCell ?_ ?_ _) | (with_reducible refine Below.drew ?_) | (with_reducible refine below_drewN ?_ _) | (apply bthen2; (with_reducible assumption)) | go_size))).below hbb
        have Bc2 := (Box.alloc Bc (Obj.cells #[.int .i64 px, .int .i64 py, .int .i64 pe] 30)).below hbb
        have hgb : g < wb.heap.size := by (first | omega | (simp at hzb; omega))
        have hBb : Below w.heap.size w wb := by repeat' (first | (with_reducible exact Below.refl _ _) | (with_reducible assumption) | (with_reducible refine Below.alloc ?_ ?_ _) | (with_reducible refine Below.setCell ?_ ?_ _) | (with_reducible refine Below.drew ?_) | (with_reducible refine below_drewN ?_ _) | (apply bthen2; (with_reducible assumption)) | go_size)
        have hbb2 : b < wb.heap.size := by (first | omega | (simp at hzb; omega))
        have hwb : w.heap.size + 1 ≤ wb.heap.size := by (first | omega | (simp at hzb; omega))
        clear hzb OO PT Bc
        go_wp2_with (first | (at_builtin; refine wpl_appPG rfl _ _ rfl (w.heap.size + 1) (.slice (some ⟨g, 0, none⟩) n c3) P rfl (OO2.alloc _) wb.heap.size 1 (px, py, pe) rfl (by simp) (by simp) (by simp) (by omega) (by simp; omega) ?_; intro g' cap' wp hownp hon hgg hgl))
        have hwp := hon.size
        have hBp : Below w.heap.size w wp := by
          have h1 : Below w.heap.size w (wb.alloc (Obj.cells #[.int .i64 px, .int .i64 py, .int .i64 pe] 30)) := Below.alloc hBb (by omega) _
          exact h1.trans (hon.below (by simp; omega) (fun q hq => by have h9 : g = q := (by simpa [Value.ownBlock] using hq); omega))
        have hbg : ∀ b2 off2, some (⟨b, off, none⟩ : Addr) = some ⟨b2, off2, none⟩ → b2 ≠ g' := by
          intro b2 off2 he
          obtain ⟨rfl, rfl⟩ : b = b2 ∧ off = off2 := by simpa using he
          rcases hgg with h | h
          · obtain rfl : g = g' := by simpa [Value.ownBlock] using h
            exact hnb
          · simp at h; omega
        have PT3 := (PT2.below (show Below wb.heap.size wb (wb.alloc (Obj.cells #[.int .i64 px, .int .i64 py, .int .i64 pe] 30)) by repeat' (first | (with_reducible exact Below.refl _ _) | (with_reducible assumption) | (with_reducible refine Below.alloc ?_ ?_ _) | (with_reducible refine Below.setCell ?_ ?_ _) | (with_reducible refine Below.drew ?_) | (with_reducible refine below_drewN ?_ _) | (apply bthen2; (with_reducible assumption)) | go_size))).only hon (fun b2 off2 he => by
          obtain ⟨rfl, rfl⟩ : b = b2 ∧ off = off2 := by simpa using he
          simp [Value.ownBlock]; exact hnb)
        have Bc3 := (Box.alloc Bc2 (Obj.cells #[.int .i64 px, .int .i64 py, .int .i64 pe] 30)).chg (ChgS.of hon) (fun e => absurd (show g = w.heap.size from by simpa [Value.ownBlock] using e) (by omega))
        have hgg1 : w.heap.size + 1 ≤ g' := by
          rcases hgg with h | h
          · obtain rfl : g = g' := by simpa [Value.ownBlock] using h
            exact hg1
          · simp at h; omega
        clear hon hgg OO2 PT2 Bc2
        go_wp2_with fail
        go_roundw
        case rel => exact ⟨k + 1, g', _, cap', rfl, rfl, by omega, by rw [HQ.out]; exact hownp, hbg, hgl, PT3, Bc3, hgg1, hBp⟩
        case measure => simp [intOf]; omega
    · obtain rfl : k = L.length := by omega
      have HE := Lib.hid (show R = (0, 0, 0) :: (L.take L.length).filter F from by rw [HT.out, List.take_length])
      clear HO HPV HF HFF PT
      go_wp2_with fail
      go_ret
      exact ⟨_, _, _, rfl, by rw [HE.out]; exact OO.mono (by omega), hB⟩

def tpPs (a b : Int) : List P3 := if isC a b then tps a b else []
theorem TorsionPoints_any (a b : Int) (w : World) : Calls Try.prog 17 #[.agg #[.int .i64 a, .int .i64 b]] w (GivesPB (tpPs a b) (isC a b) w) := by
  have HF := Lib.hid (fun w => isCurve_any a b w)
  cases g1 : isC a b
  · have E1 := Lib.hid (show tpPs a b = [] by simp [tpPs, g1])
    rw [E1.out]
    rw [g1] at HF
    go_enter Try.func17, Try.ntmps17
    go_wp2_with (first | (go_at_call 51; refine (HF.out _).mono ?_; rintro e wa ⟨rfl, hba⟩; have hza := hba.size; (try simp only [World.size_alloc, World.size_setCell, World.size_drew, World.heap_drewN] at hza); try (refine keepc hba (w.heap.size) ?_ ?_; (focus (first | omega | (simp <;> omega))); intro hca_0 hfa_0 hla_0); try (refine keepc hba (w.heap.size + 1) ?_ ?_; (focus (first | omega | (simp <;> omega))); intro hca_1 hfa_1 hla_1); try (refine keepc hba (w.heap.size + 1 + 1) ?_ ?_; (focus (first | omega | (simp <;> omega))); intro hca_2 hfa_2 hla_2)))
    go_ret2
    exact ⟨none, 0, 0, rfl, OwnP.nil _ _, (by repeat' (first | (with_reducible exact Below.refl _ _) | (with_reducible assumption) | (with_reducible refine Below.alloc ?_ ?_ _) | (with_reducible refine Below.setCell ?_ ?_ _) | (with_reducible refine Below.drew ?_) | (with_reducible refine below_drewN ?_ _) | (apply bthen2; (with_reducible assumption)) | go_size))⟩
  · rw [g1] at HF
    have E1 := Lib.hid (show tpPs a b = tps a b by simp [tpPs, g1])
    rw [E1.out]
    have HC := Lib.hid (fun w => torsionPoints_any a b g1 w)
    clear E1
    generalize tps a b = R at *
    go_enter Try.func17, Try.ntmps17
    go_wp2_with (first | (go_at_call 51; refine (HF.out _).mono ?_; rintro e wa ⟨rfl, hba⟩; have hza := hba.size; (try simp only [World.size_alloc, World.size_setCell, World.size_drew, World.heap_drewN] at hza); try (refine keepc hba (w.heap.size) ?_ ?_; (focus (first | omega | (simp <;> omega))); intro hca_0 hfa_0 hla_0); try (refine keepc hba (w.heap.size + 1) ?_ ?_; (focus (first | omega | (simp <;> omega))); intro hca_1 hfa_1 hla_1); try (refine keepc hba (w.heap.size + 1 + 1) ?_ ?_; (focus (first | omega | (simp <;> omega))); intro hca_2 hfa_2 hla_2)) | (go_at_call 47; refine (HC.out _).mono ?_; rintro e wb ⟨a1, len1, cap1, rfl, hown, hbb⟩))
    go_ret2
    exact ⟨a1, len1, cap1, rfl, hown.mono (by first | omega | (simp; omega)), (by repeat' (first | (with_reducible exact Below.refl _ _) | (with_reducible assumption) | (with_reducible refine Below.alloc ?_ ?_ _) | (with_reducible refine Below.setCell ?_ ?_ _) | (with_reducible refine Below.drew ?_) | (with_reducible refine below_drewN ?_ _) | (apply bthen2; (with_reducible assumption)) | go_size))⟩
theorem sTorsionPoints_any (a b : Int) (w : World) : Calls Try.prog 18 #[.agg #[.int .i64 a, .int .i64 b]] w (GivesPB (tpPs a b) (isC a b) w) := by
  have HF := Lib.hid (fun w => ecGood_any a b w)
  cases g1 : isC a b
  · have E1 := Lib.hid (show tpPs a b = [] by simp [tpPs, g1])
    rw [E1.out]
    rw [g1] at HF
    go_enter Try.func18, Try.ntmps18
    go_wp2_with (first | (go_at_call 48; refine (HF.out _).mono ?_; rintro e wa ⟨rfl, hba⟩; have hza := hba.size; (try simp only [World.size_alloc, World.size_setCell, World.size_drew, World.heap_drewN] at hza); try (refine keepc hba (w.heap.size) ?_ ?_; (focus (first | omega | (simp <;> omega))); intro hca_0 hfa_0 hla_0); try (refine keepc hba (w.heap.size + 1) ?_ ?_; (focus (first | omega | (simp <;> omega))); intro hca_1 hfa_1 hla_1); try (refine keepc hba (w.heap.size + 1 + 1) ?_ ?_; (focus (first | omega | (simp <;> omega))); intro hca_2 hfa_2 hla_2)))
    go_ret2
    exact ⟨none, 0, 0, rfl, OwnP.nil _ _, (by repeat' (first | (with_reducible exact Below.refl _ _) | (with_reducible assumption) | (with_reducible refine Below.alloc ?_ ?_ _) | (with_reducible refine Below.setCell ?_ ?_ _) | (with_reducible refine Below.drew ?_) | (with_reducible refine below_drewN ?_ _) | (apply bthen2; (with_reducible assumption)) | go_size))⟩
  · rw [g1] at HF
    have E1 := Lib.hid (show tpPs a b = tps a b by simp [tpPs, g1])
    rw [E1.out]
    have HC := Lib.hid (fun w => toPoints_any a b g1 w)
    clear E1
    generalize tps a b = R at *
    go_enter Try.func18, Try.ntmps18
    go_wp2_with (first | (go_at_call 48; refine (HF.out _).mono ?_; rintro e wa ⟨rfl, hba⟩; have hza := hba.size; (try simp only [World.size_alloc, World.size_setCell, World.size_drew, World.heap_drewN] at hza); try (refine keepc hba (w.heap.size) ?_ ?_; (focus (first | omega | (simp <;> omega))); intro hca_0 hfa_0 hla_0); try (refine keepc hba (w.heap.size + 1) ?_ ?_; (focus (first | omega | (simp <;> omega))); intro hca_1 hfa_1 hla_1); try (refine keepc hba (w.heap.size + 1 + 1) ?_ ?_; (focus (first | omega | (simp <;> omega))); intro hca_2 hfa_2 hla_2)) | (go_at_call 49; refine (HC.out _).mono ?_; rintro e wb ⟨a1, len1, cap1, rfl, hown, hbb⟩))
    go_ret2
    exact ⟨a1, len1, cap1, rfl, hown.mono (by first | omega | (simp; omega)), (by repeat' (first | (with_reducible exact Below.refl _ _) | (with_reducible assumption) | (with_reducible refine Below.alloc ?_ ?_ _) | (with_reducible refine Below.setCell ?_ ?_ _) | (with_reducible refine Below.drew ?_) | (with_reducible refine below_drewN ?_ _) | (apply bthen2; (with_reducible assumption)) | go_size))⟩

theorem tpPs_len (a b : Int) : (tpPs a b).length ≤ 12003 := by
  unfold tpPs
  split
  · exact tps_len a b
  · simp
set_option maxRecDepth 100000 in
set_option maxHeartbeats 2000000 in
theorem walk_FnExactTorsionPoints (a b : Int) (w : World) (_w0 : (Lit.int .i64 a).wf = true) (_w1 : (Lit.int .i64 b).wf = true) : Calls Try.prog 6 #[.agg #[.int .i64 a, .int .i64 b]] w (Gives (.bool true) w) := by
  have HS := Lib.hid (fun w => sTorsionPoints_any a b w)
  have HI := Lib.hid (fun w => TorsionPoints_any a b w)
  have hlen : (tpPs a b).length ≤ 12003 := tpPs_len a b
  generalize tpPs a b = R at *
  generalize isC a b = ok at *
  go_enter Try.func6, Try.ntmps6
  go_wp2_with fail
  (refine (toCurve_any _ _ _).mono ?_; rintro e wa ⟨rfl, hba⟩; have hza := hba.size; (try simp only [World.size_alloc, World.size_setCell, World.size_drew, World.heap_drewN] at hza); try (refine keepc hba (w.heap.size) ?_ ?_; (focus (first | omega | (simp <;> omega))); intro hca_0 hfa_0 hla_0); try (refine keepc hba (w.heap.size + 1) ?_ ?_; (focus (first | omega | (simp <;> omega))); intro hca_1 hfa_1 hla_1); try (refine keepc hba (w.heap.size + 1 + 1) ?_ ?_; (focus (first | omega | (simp <;> omega))); intro hca_2 hfa_2 hla_2))
  go_wp2_with fail
  refine (HS.out _).mono ?_; rintro e wb ⟨sa, sl, sc, rfl, ownb, hbb⟩
  have hzb := hbb.size; (try simp only [World.size_alloc, World.size_setCell, World.size_drew, World.heap_drewN] at hzb); try (refine keepc hbb (w.heap.size) ?_ ?_; (focus (first | omega | (simp <;> omega))); intro hcb_0 hfb_0 hlb_0); try (refine keepc hbb (w.heap.size + 1) ?_ ?_; (focus (first | omega | (simp <;> omega))); intro hcb_1 hfb_1 hlb_1); try (refine keepc hbb (w.heap.size + 1 + 1) ?_ ?_; (focus (first | omega | (simp <;> omega))); intro hcb_2 hfb_2 hlb_2)
  go_wp2_with fail
  (refine (toCurve_any _ _ _).mono ?_; rintro e wc ⟨rfl, hbc⟩; have hzc := hbc.size; (try simp only [World.size_alloc, World.size_setCell, World.size_drew, World.heap_drewN] at hzc); try (refine keepc hbc (w.heap.size) ?_ ?_; (focus (first | omega | (simp <;> omega))); intro hcc_0 hfc_0 hlc_0); try (refine keepc hbc (w.heap.size + 1) ?_ ?_; (focus (first | omega | (simp <;> omega))); intro hcc_1 hfc_1 hlc_1); try (refine keepc hbc (w.heap.size + 1 + 1) ?_ ?_; (focus (first | omega | (simp <;> omega))); intro hcc_2 hfc_2 hlc_2))
  go_wp2_with fail
  refine (HI.out _).mono ?_; rintro e wd ⟨ga, gl, gc, rfl, ownd, hbd⟩
  have hzd := hbd.size; (try simp only [World.size_alloc, World.size_setCell, World.size_drew, World.heap_drewN] at hzd); try (refine keepc hbd (w.heap.size) ?_ ?_; (focus (first | omega | (simp <;> omega))); intro hcd_0 hfd_0 hld_0); try (refine keepc hbd (w.heap.size + 1) ?_ ?_; (focus (first | omega | (simp <;> omega))); intro hcd_1 hfd_1 hld_1); try (refine keepc hbd (w.heap.size + 1 + 1) ?_ ?_; (focus (first | omega | (simp <;> omega))); intro hcd_2 hfd_2 hld_2)
  go_wp2_with fail
  refine (eqPointS_same _ _ R _ ?_ ?_).mono ?_
  · refine PtsR.below ownd.pts ?_; repeat' (first | (with_reducible exact Below.refl _ _) | (with_reducible assumption) | (with_reducible refine Below.alloc ?_ ?_ _) | (with_reducible refine Below.setCell ?_ ?_ _) | (with_reducible refine Below.drew ?_) | (with_reducible refine below_drewN ?_ _) | (apply bthen2; (with_reducible assumption)) | go_size)
  · refine PtsR.below ownb.pts ?_; repeat' (first | (with_reducible exact Below.refl _ _) | (with_reducible assumption) | (with_reducible refine Below.alloc ?_ ?_ _) | (with_reducible refine Below.setCell ?_ ?_ _) | (with_reducible refine Below.drew ?_) | (with_reducible refine below_drewN ?_ _) | (apply bthen2; (with_reducible assumption)) | go_size)
  rintro e we ⟨rfl, hbe⟩
  have hze := hbe.size; (try simp only [World.size_alloc, World.size_setCell, World.size_drew, World.heap_drewN] at hze); try (refine keepc hbe (w.heap.size) ?_ ?_; (focus (first | omega | (simp <;> omega))); intro hce_0 hfe_0 hle_0); try (refine keepc hbe (w.heap.size + 1) ?_ ?_; (focus (first | omega | (simp <;> omega))); intro hce_1 hfe_1 hle_1); try (refine keepc hbe (w.heap.size + 1 + 1) ?_ ?_; (focus (first | omega | (simp <;> omega))); intro hce_2 hfe_2 hle_2)
  have owne := ownd.below hbe
  go_wp2_with fail
  refine (markPointS_any wc.heap.size _ R 1 _ ?_ (by omega) (by omega)).mono ?_
  · exact owne
  rintro e wf ⟨rfl, ownf, hon⟩
  have hbf := mark_belowP ownd hbd hbe hon
  have hzf := hbf.size; (try simp only [World.size_alloc, World.size_setCell, World.size_drew, World.heap_drewN] at hzf); try (refine keepc hbf (w.heap.size) ?_ ?_; (focus (first | omega | (simp <;> omega))); intro hcf_0 hff_0 hlf_0); try (refine keepc hbf (w.heap.size + 1) ?_ ?_; (focus (first | omega | (simp <;> omega))); intro hcf_1 hff_1 hlf_1); try (refine keepc hbf (w.heap.size + 1 + 1) ?_ ?_; (focus (first | omega | (simp <;> omega))); intro hcf_2 hff_2 hlf_2)
  go_wp2_with fail
  refine (heldPointS_any _ R.length 1 _ ?_ (by omega) (by omega)).mono ?_
  · exact ownf.pts
  rintro e wf' ⟨rfl, rfl⟩
  go_wp2_with fail
  (refine (toCurve_any _ _ _).mono ?_; rintro e wg ⟨rfl, hbg⟩; have hzg := hbg.size; (try simp only [World.size_alloc, World.size_setCell, World.size_drew, World.heap_drewN] at hzg); try (refine keepc hbg (w.heap.size) ?_ ?_; (focus (first | omega | (simp <;> omega))); intro hcg_0 hfg_0 hlg_0); try (refine keepc hbg (w.heap.size + 1) ?_ ?_; (focus (first | omega | (simp <;> omega))); intro hcg_1 hfg_1 hlg_1); try (refine keepc hbg (w.heap.size + 1 + 1) ?_ ?_; (focus (first | omega | (simp <;> omega))); intro hcg_2 hfg_2 hlg_2))
  go_wp2_with fail
  refine (HI.out _).mono ?_; rintro e wh ⟨ha, hl, hc, rfl, ownh, hbh⟩
  have hzh := hbh.size; (try simp only [World.size_alloc, World.size_setCell, World.size_drew, World.heap_drewN] at hzh); try (refine keepc hbh (w.heap.size) ?_ ?_; (focus (first | omega | (simp <;> omega))); intro hch_0 hfh_0 hlh_0); try (refine keepc hbh (w.heap.size + 1) ?_ ?_; (focus (first | omega | (simp <;> omega))); intro hch_1 hfh_1 hlh_1); try (refine keepc hbh (w.heap.size + 1 + 1) ?_ ?_; (focus (first | omega | (simp <;> omega))); intro hch_2 hfh_2 hlh_2)
  go_wp2_with fail
  refine (eqPointS_same _ _ R _ ?_ ?_).mono ?_
  · refine PtsR.below ownh.pts ?_; repeat' (first | (with_reducible exact Below.refl _ _) | (with_reducible assumption) | (with_reducible refine Below.alloc ?_ ?_ _) | (with_reducible refine Below.setCell ?_ ?_ _) | (with_reducible refine Below.drew ?_) | (with_reducible refine below_drewN ?_ _) | (apply bthen2; (with_reducible assumption)) | go_size)
  · refine PtsR.below ownb.pts ?_; repeat' (first | (with_reducible exact Below.refl _ _) | (with_reducible assumption) | (with_reducible refine Below.alloc ?_ ?_ _) | (with_reducible refine Below.setCell ?_ ?_ _) | (with_reducible refine Below.drew ?_) | (with_reducible refine below_drewN ?_ _) | (apply bthen2; (with_reducible assumption)) | go_size)
  rintro e wi ⟨rfl, hbi⟩
  have hzi := hbi.size; (try simp only [World.size_alloc, World.size_setCell, World.size_drew, World.heap_drewN] at hzi); try (refine keepc hbi (w.heap.size) ?_ ?_; (focus (first | omega | (simp <;> omega))); intro hci_0 hfi_0 hli_0); try (refine keepc hbi (w.heap.size + 1) ?_ ?_; (focus (first | omega | (simp <;> omega))); intro hci_1 hfi_1 hli_1); try (refine keepc hbi (w.heap.size + 1 + 1) ?_ ?_; (focus (first | omega | (simp <;> omega))); intro hci_2 hfi_2 hli_2)
  go_wp2_with fail
  refine (heldPointS_any _ R.length 1 _ ?_ (by omega) (by omega)).mono ?_
  · refine PtsR.below ownf.pts ?_; repeat' (first | (with_reducible exact Below.refl _ _) | (with_reducible assumption) | (with_reducible refine Below.alloc ?_ ?_ _) | (with_reducible refine Below.setCell ?_ ?_ _) | (with_reducible refine Below.drew ?_) | (with_reducible refine below_drewN ?_ _) | (apply bthen2; (with_reducible assumption)) | go_size)
  rintro e wi' ⟨rfl, rfl⟩
  go_wp2
  go_ret
  exact gives rfl (by repeat' (first | (with_reducible exact Below.refl _ _) | (with_reducible assumption) | (with_reducible refine Below.alloc ?_ ?_ _) | (with_reducible refine Below.setCell ?_ ?_ _) | (with_reducible refine Below.drew ?_) | (with_reducible refine below_drewN ?_ _) | (apply bthen2; (with_reducible assumption)) | go_size))

end Go.Proofs.Ytngnnkbgiligaaa
