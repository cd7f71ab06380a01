import Derived.Test.YtldmledjdcphmaaSrt
import Derived.Test.YtldmledjdcphmaaMk
import Derived.Test.YtldmledjdcphmaaBox
import Derived.Deep.AppendLies
set_option linter.unusedSimpArgs false
set_option linter.unusedVariables false
namespace Go.Proofs.Ytldmledjdcphmaa
open Go.RowKit
/-! ### squarefree divisors in the program -/

theorem wpl_appG {ops : Array Oper} {rest : List Oper} {o : Oper} {a : Act} {Q : Exit → Act → World → Prop} {w : World} (hgd : o.guard = none) (s x : Operand)
    (ho : o.op = .call { callee := .builtin .append, args := #[s, x], argTypes := #[24, 24] }) (B : Nat) (v : Value) (xs : List Int) (hs : a.eval s = v) (hown : Own w B v xs)
    (b off m c : Nat) (ys : List Int) (hx : a.eval x = .slice (some ⟨b, off, none⟩) m c) (hy : ys.length = m) (hm : 0 < m) (hc : ∀ i, i < m → w.cell? ⟨b, off + i, none⟩ = some (.int .i64 (ys.getD i 0))) (hlen : xs.length + m ≤ 1000000000000) (hB : B ≤ w.heap.size)
    (h : ∀ g' cap' w', Own w' B (.slice (some ⟨g', 0, none⟩) (xs.length + m) cap') (xs ++ ys) → Only v.ownBlock w w' → (v.ownBlock = some g' ∨ g' = w.heap.size) → g' < w'.heap.size → wpList Try.prog ops Q rest (a.put o.dst (.slice (some ⟨g', 0, none⟩) (xs.length + m) cap')) w') : wpList Try.prog ops Q (o :: rest) a w := by
  obtain ⟨i0, hi, hz0, hz1, hz2⟩ := info_parts infoInt
  refine wpList_append_lies w hgd s x 24 ho B 3 i0 (.int .i64 0) 1 8 Try.underlying24 hi hz0 hz1 hz2 rfl (by decide) v xs.length (xs.map (Value.int .i64)) hs hown ⟨b, off, none⟩ m c (ys.map (Value.int .i64)) hx (by simp [hy]) ?_ ?_ hm (by unfold maxLen; omega) (by omega) hB _ rfl ?_
  · intro j u hj
    rw [List.getElem?_map] at hj
    obtain ⟨y, hy2, rfl⟩ := Option.map_eq_some_iff.mp hj
    obtain ⟨hj2, rfl⟩ := List.getElem?_eq_some_iff.mp hy2
    have := hc j (by omega)
    simp only [List.getD, List.getElem?_eq_getElem hj2, Option.getD_some] at this
    cases j <;> simpa [Addr.add] using this
  · intro u hu
    obtain ⟨y, -, rfl⟩ := List.mem_map.mp hu
    rfl
  · intro g' cap' w' h1 h2 h3 h4
    refine h g' cap' w' ?_ (Only.of_grown h2) h3 h4
    unfold Own
    simpa [hy] using h1
theorem own_made {w : World} {xs : List Int} (hx : xs.length ≤ 1000) : Own (w.alloc (Obj.cells (xs.map (Value.int .i64)).toArray 3)) w.heap.size (.slice (some ⟨w.heap.size, 0, none⟩) xs.length xs.length) xs :=
  ⟨by simp, .inr ⟨w.heap.size, xs.length, (xs.map (Value.int .i64)).toArray, rfl, Nat.le_refl _, Array.getElem?_push_size, Nat.le_refl _, by show xs.length ≤ 9223372036854775807; omega, by simp, by rw [Nat.mul_one, List.toList_toArray]; exact List.take_of_length_le (by simp)⟩⟩
theorem dvs_take (ps : List Int) (i : Nat) (h : i < ps.length) : (ps.take (i + 1)).foldl dvS [-1, 1] = dvS ((ps.take i).foldl dvS [-1, 1]) (ps.getD i 0) := by
  rw [List.take_succ_eq_append_getElem h, List.foldl_append]
  simp [List.getD, List.getElem?_eq_getElem h]
theorem dvp_take (ps : List Int) (i : Nat) (h : i < ps.length) : (ps.take (i + 1)).foldl dvP [-1, 1] = dvP ((ps.take i).foldl dvP [-1, 1]) (ps.getD i 0) := by
  rw [List.take_succ_eq_append_getElem h, List.foldl_append]
  simp [List.getD, List.getElem?_eq_getElem h]
theorem map_take (out : List Int) (p : Int) (j : Nat) (h : j < out.length) : (out.take (j + 1)).map (· * p) = (out.take j).map (· * p) ++ [out.getD j 0 * p] := by
  rw [List.take_succ_eq_append_getElem h, List.map_append]
  simp [List.getD, List.getElem?_eq_getElem h]
/-- What is known of the divisors that are made of the first i primes. -/
theorem dv_at {N : Int} (hN : 1 ≤ N) (i : Nat) (hi : i ≤ (pf N).length) : DI N.natAbs ((pf N).drop i) (((pf N).take i).foldl dvS [-1, 1]) ∧ Same2 (((pf N).take i).foldl dvS [-1, 1]) (((pf N).take i).foldl dvP [-1, 1]) := by
  have hp := pf_ex hN
  induction i with
  | zero => exact ⟨by simpa using DI.start (pf_prod hN), ⟨(by decide : ([-1, 1] : List Int).Pairwise (· < ·)), fun x => Iff.rfl⟩⟩
  | succ i ih =>
    obtain ⟨h1, h2⟩ := ih (by omega)
    have hlt : i < (pf N).length := by omega
    rw [dvs_take _ _ hlt, dvp_take _ _ hlt]
    have hd := List.drop_eq_getElem_cons hlt
    have hg : (pf N).getD i 0 = (pf N)[i] := by simp [List.getD, List.getElem?_eq_getElem hlt]
    rw [hd] at h1
    have hs : ((pf N).drop i).Pairwise (· < ·) := hp.1.sublist (List.drop_sublist _ _)
    rw [hd, List.pairwise_cons] at hs
    rw [hg]
    refine ⟨h1.next ((hp.2 _).1 (List.getElem_mem hlt)).1 (fun q hq => ⟨((hp.2 q).1 (List.mem_of_mem_drop hq)).1, hs.1 q hq⟩), h2.dv _⟩
theorem prodN_len : ∀ (l : List Int), (∀ p ∈ l, Pr p) → l.length ≤ prodN l
  | [], _ => by simp [prodN]
  | p :: l, h => by
    have h1 := prodN_len l (fun x hx => h x (List.mem_cons_of_mem _ hx))
    have h2 := prodN_pos l (fun x hx => h x (List.mem_cons_of_mem _ hx))
    have h3 := (h p List.mem_cons_self).1
    have h4 : 2 * prodN l ≤ p.natAbs * prodN l := Nat.mul_le_mul_right _ (by omega)
    simp only [List.length_cons, prodN]; omega
theorem DI.small {M : Nat} {rest out : List Int} (h : DI M rest out) (hr : ∀ q ∈ rest, Pr q) : out.length ≤ 2 * M := by
  have h1 := h.len
  have h2 := prodN_pos rest hr
  have : out.length * 1 ≤ out.length * prodN rest := Nat.mul_le_mul_left _ h2
  omega

set_option maxRecDepth 100000 in
set_option maxHeartbeats 4000000 in
theorem squarefreeDivisors_any (N : Int) (h0 : N ≠ 0) (h1 : N.natAbs ≤ 400000) (w : World) : Calls Try.prog 71 #[.int .i64 N] w (GivesOwn (dvp (pf (max N (-N)))) w) := by
  have hM : 1 ≤ max N (-N) := by omega
  have HP := Lib.hid (fun w => primesOf_any N h0 (by omega) (by omega) w)
  have HAT := Lib.hid (fun i hi => dv_at hM i hi)
  have hpf := pf_ex hM
  have HPF := Lib.hid hpf
  have hna : (max N (-N)).natAbs = N.natAbs := by omega
  have HNA := Lib.hid hna
  generalize hps : pf (max N (-N)) = ps at *
  have hL : ps.length ≤ 1000000 := by
    have h2 := pf_prod hM
    rw [hps] at h2
    have h3 := prodN_len ps (fun p hp => ((hpf.2 p).1 hp).1)
    omega
  obtain ⟨L, hLL⟩ : ∃ L, ps.length = L := ⟨_, rfl⟩
  have HLL := Lib.hid hLL
  have hLb : L ≤ 1000000 := by omega
  have hmade : Own (w.alloc (Obj.cells #[.int .i64 (-1), .int .i64 1] 3)) w.heap.size (.slice (some ⟨w.heap.size, 0, none⟩) 2 2) [-1, 1] := own_made (xs := [-1, 1]) (by decide)
  have HM := Lib.hid hmade
  clear hps hmade hpf hna hLL hL hM
  go_enter Try.func71, Try.ntmps71
  go_wp2_with fail
  refine (HP.out _).mono ?_
  rintro e W1 ⟨pa, pl, pc, rfl, hop, hb1⟩
  have hM1 := HM.out.below hb1
  have hz1 := hb1.size
  simp only [World.size_alloc] at hz1
  have hpl := hop.ints.len
  have hplL : pl = L := by have := HLL.out; omega
  subst hplL
  have hB1 : Below w.heap.size w W1 := (by repeat' (first | (with_reducible exact Below.refl _ _) | (with_reducible assumption) | (with_reducible refine Below.alloc ?_ ?_ _) | (with_reducible refine Below.setCell ?_ ?_ _) | (with_reducible refine Below.drew ?_) | (with_reducible refine below_drewN ?_ _) | (apply bthen2; (with_reducible assumption)) | go_size))
  have hS1 := Seg.of (hop.mono (by simp : w.heap.size + 1 ≤ _))
  clear hop hb1
  have hbig := h1
  go_wp2_with fail
  go_loopw [3, 12] (fun v3 v12 wr => ∃ (i g cap : Nat) (out : List Int), i ≤ pl ∧ v12 = .int .i64 i ∧ v3 = .slice (some ⟨g, 0, none⟩) out.length cap ∧ out = (ps.take i).foldl dvS [-1, 1] ∧ Own wr w.heap.size (.slice (some ⟨g, 0, none⟩) out.length cap) out ∧ Seg wr (w.heap.size + 1) W1.heap.size (.slice pa pl pc) ps ∧ W1.heap.size ≤ wr.heap.size ∧ (g = w.heap.size ∨ W1.heap.size ≤ g) ∧ Below w.heap.size w wr) (fun _ v12 _ => pl - (intOf v12).toNat)
  case atStart => exact ⟨0, w.heap.size, 2, [-1, 1], by omega, rfl, rfl, rfl, hM1, hS1, Nat.le_refl _, .inl rfl, hB1⟩
  case round =>
    clear hM1 hS1
    obtain ⟨i, g, cap, out, hi, rfl, rfl, hout, hown, hseg, hsz, hg, hbw⟩ := hrel
    obtain ⟨hDI, hS2⟩ := HAT.out i (by have := HLL.out; omega)
    rw [← hout] at hDI hS2
    have hMe := HNA.out
    rw [hMe] at hDI
    have hrest : ∀ q ∈ ps.drop i, Pr q := fun q hq => ((HPF.out.2 q).1 (List.mem_of_mem_drop hq)).1
    have hol : out.length ≤ 800000 := by have := hDI.small hrest; omega
    by_cases hlt : i < pl
    · have hlt2 : i < ps.length := by have := HLL.out; omega
      obtain ⟨pb, poff, hpa, hpb, hpc⟩ := hseg.ints.cell.2.2 i hlt
      subst hpa
      have hPE : ∀ j, j < out.length → wrap64 (out.getD j 0 * ps.getD i 0) = out.getD j 0 * ps.getD i 0 := fun j hj => by
        have hd := List.drop_eq_getElem_cons hlt2
        have hg2 : ps.getD i 0 = ps[i] := by simp [List.getD, List.getElem?_eq_getElem hlt2]
        rw [hd] at hDI hrest
        have h1 := (hDI.el _ (getD_mem hj)).2.1
        have h2 := prodN_pos _ (fun q hq => hrest q (List.mem_cons_of_mem _ hq))
        have h3 : (out.getD j 0).natAbs * (ps[i].natAbs * 1) ≤ (out.getD j 0).natAbs * prodN (ps[i] :: ps.drop (i + 1)) := Nat.mul_le_mul_left _ (Nat.mul_le_mul_left _ h2)
        rw [hg2]
        rw [Nat.mul_one] at h3
        have := Int.natAbs_mul (out.getD j 0) ps[i]
        exact win (by omega)
      have HPE := Lib.hid hPE
      have hnext := dvs_take ps i hlt2
      rw [← hout] at hnext
      have HNX := Lib.hid hnext
      generalize ps.getD i 0 = p at *
      have HO := Lib.hid hown; have HS := Lib.hid hseg
      clear hPE hnext hDI hS2 hrest hMe hown hseg hout
      go_wp2_with fail
      refine (clone_any _ _ _ out _ HO.out.ints (by omega)).mono ?_
      rintro e W2 ⟨ca, cl, cc, rfl, hoc, hb2⟩
      have hO2 := HO.out.below hb2
      have hS2 := HS.out.belowS hb2
      have hgl : g < wr.heap.size := (HO.out.lt (b := g) rfl).1
      have hcl := hoc.ints.len
      have hz2 := hb2.size
      have hB2 : Below w.heap.size w W2 := (by repeat' (first | (with_reducible exact Below.refl _ _) | (with_reducible assumption) | (with_reducible refine Below.alloc ?_ ?_ _) | (with_reducible refine Below.setCell ?_ ?_ _) | (with_reducible refine Below.drew ?_) | (with_reducible refine below_drewN ?_ _) | (apply bthen2; (with_reducible assumption)) | go_size))
      have hC2 := Seg.of hoc
      obtain ⟨hcl1, hcl2⟩ := hcl
      subst hcl1
      clear hoc hb2 HO HS
      obtain ⟨Wo, hWo⟩ : ∃ x, x = wr := ⟨_, rfl⟩
      subst hWo
      go_wp2_with fail
      go_loopw [3, 19] (fun v3 v19 wr => ∃ (j g2 cap2 : Nat), j ≤ out.length ∧ v19 = .int .i64 j ∧ v3 = .slice (some ⟨g2, 0, none⟩) (out.length + j) cap2 ∧ Own wr w.heap.size (.slice (some ⟨g2, 0, none⟩) (out.length + j) cap2) (out ++ (out.take j).map (· * p)) ∧ Seg wr (w.heap.size + 1) W1.heap.size (.slice (some ⟨pb, poff, none⟩) pl pc) ps ∧ Seg wr Wo.heap.size W2.heap.size (.slice ca out.length cc) out ∧ W2.heap.size ≤ wr.heap.size ∧ (g2 = g ∨ W2.heap.size ≤ g2) ∧ Below w.heap.size w wr) (fun _ v19 _ => out.length - (intOf v19).toNat)
      case atStart => exact ⟨0, g, cap, by omega, rfl, rfl, by simpa using hO2, hS2, hC2, Nat.le_refl _, .inl rfl, hB2⟩
      case round =>
        clear hO2 hS2 hC2
        obtain ⟨j, g2, cap2, hj, rfl, rfl, hown, hseg, hcs, hsq, hg2, hbq⟩ := hrel
        have HO := Lib.hid hown; have HS := Lib.hid hseg; have HC := Lib.hid hcs
        by_cases hjl : j < out.length
        · obtain ⟨cb, coff, hca, hcb, hcc⟩ := hcs.ints.cell.2.2 j hjl
          subst hca
          have hpe := HPE.out j hjl
          have hmt := map_take out p j hjl
          have HPEJ := Lib.hid hpe; have HMT := Lib.hid hmt
          clear hpe hmt hown hseg hcs
          generalize out.getD j 0 = X at *
          have hlen2 : (out ++ (out.take j).map (· * p)).length = out.length + j := by simp; omega
          have HL2 := Lib.hid hlen2
          obtain ⟨cur, hcur⟩ : ∃ cur, out ++ (out.take j).map (· * p) = cur := ⟨_, rfl⟩
          rw [hcur] at hlen2
          have HCU := Lib.hid hcur
          have hO := HO.out
          rw [hcur] at hO
          have HO := Lib.hid hO
          have hg2l : g2 < wr.heap.size := (hO.lt (b := g2) rfl).1
          clear hcur hO
          go_wp2_with (first | (at_builtin; refine wpl_appG rfl _ _ rfl w.heap.size (.slice (some ⟨g2, 0, none⟩) (out.length + j) cap2) cur rfl (HO.out.alloc _) wr.heap.size 0 1 1 [wrap64 (X * p)] rfl rfl (by decide) (fun q hq => by obtain rfl : q = 0 := (by omega); simp) (by rw [hlen2]; omega) (by first | (simp; done) | (simp; omega)) ?_; intro g3 cap3 w3 hown3 hon3 hat3 hlt3))
          go_roundw
          case rel =>
            have hb3 : Below w.heap.size w w3 := (Below.alloc hbq (by omega) _).trans (hon3.below (by first | (simp; done) | (simp; omega)) (fun q hq => by have hq2 : g2 = q := (by simpa [Value.ownBlock] using hq); omega))
            have hs3 := (HS.out.alloc _).chgS (ChgS.of hon3) (fun q hq e => by have hq2 : g2 = q := (by simpa [Value.ownBlock] using e); have := HS.out.rng hq; omega)
            have hc3 := (HC.out.alloc _).chgS (ChgS.of hon3) (fun q hq e => by have hq2 : g2 = q := (by simpa [Value.ownBlock] using e); have := HC.out.rng hq; omega)
            have hsz3 := hon3.size
            simp only [World.size_alloc] at hsz3
            refine ⟨j + 1, g3, cap3, by omega, by go_num, by rw [Nat.add_assoc], ?_, hs3, hc3, by omega, ?_, hb3⟩
            · rw [HMT.out, ← List.append_assoc, HCU.out, ← HPEJ.out]
              rw [hlen2] at hown3
              exact hown3
            · rcases hat3 with q | q
              · have hq2 : g2 = g3 := (by simpa [Value.ownBlock] using q)
                omega
              · right; rw [q]; simp; omega
          case measure => simp [intOf]; omega
        · have e : j = out.length := by omega
          subst e
          go_wp2_with fail
          have hO := HO.out
          rw [List.take_of_length_le (Nat.le_refl _)] at hO
          have HO := Lib.hid hO
          clear hown hO hcs hseg
          go_roundw
          case rel =>
            refine ⟨i + 1, g2, cap2, dvS out p, by omega, by go_num, by rw [show (dvS out p).length = out.length + out.length by unfold dvS; simp], HNX.out.symm, ?_, HS.out, by omega, by omega, hbq⟩
            rw [show (dvS out p).length = out.length + out.length by unfold dvS; simp]
            exact HO.out
          case measure => simp [intOf]; omega
    · have e : i = pl := by omega
      have HSR := Lib.hid (srt_perm hS2 hDI.nd (sort_perm out) (sort_le out))
      have hfin : (ps.take i).foldl dvP [-1, 1] = dvp ps := by
        rw [List.take_of_length_le (by have := HLL.out; omega)]; rfl
      have HF := Lib.hid hfin
      subst e
      have HO := Lib.hid hown
      have hgl : w.heap.size ≤ g := (hown.lt (b := g) rfl).2
      clear hDI hS2 hrest hMe hown hseg hout hfin
      go_wp2_with fail
      refine (Sort_own w.heap.size _ _ _ out _ HO.out (by omega)).mono ?_
      rintro e W3 ⟨rfl, ho3, hon3⟩
      have hb3 := hon3.below hbw.size (fun q hq => by have hq2 : g = q := (by simpa [Value.ownBlock] using hq); omega)
      rw [HSR.out, HF.out] at ho3
      go_wp2
      go_ret
      exact ⟨_, _, _, rfl, ho3, hbw.trans hb3⟩

theorem foldl_take (out : List Int) (p : Int) (T : List Int) (j : Nat) (h : j < T.length) : ((T.take (j + 1)).map (· * p)).foldl putL out = putL (((T.take j).map (· * p)).foldl putL out) (T.getD j 0 * p) := by
  rw [map_take T p j h, List.foldl_append]
  rfl
theorem putL_len (xs : List Int) (n : Int) : (putL xs n).length ≤ xs.length + 1 ∧ xs.length ≤ (putL xs n).length ∧ 0 < (putL xs n).length := by
  induction xs with
  | nil => simp [putL]
  | cons x xs ih =>
    unfold putL
    split
    · simp; omega
    · split <;> simp
theorem foldl_len : ∀ (ns out : List Int), (ns.foldl putL out).length ≤ out.length + ns.length ∧ out.length ≤ (ns.foldl putL out).length
  | [], out => by simp
  | n :: ns, out => by
    have h1 := foldl_len ns (putL out n)
    have h2 := putL_len out n
    simp only [List.foldl_cons, List.length_cons]; omega
set_option maxRecDepth 100000 in
set_option maxHeartbeats 4000000 in
theorem tcDivisors_any (N : Int) (h0 : N ≠ 0) (h1 : N.natAbs ≤ 200000) (w : World) : Calls Try.prog 69 #[.int .i64 N] w (GivesOwn (dvp (pf (max N (-N)))) w) := by
  have hM : 1 ≤ max N (-N) := by omega
  have HP := Lib.hid (fun w => mdFactors_any (max N (-N)) hM (by omega) w)
  have HB := Lib.hid (show ∀ w, Calls Try.prog 63 #[.int .i64 N] w (Same (.int .i64 (max N (-N))) w) from fun w => by have := l1Abs_any N w; rwa [win (n := -N) (by omega)] at this)
  have HF := Lib.hid (fun k hk => fcl_at N k hk)
  have HLEN := Lib.hid (show (fcl (max N (-N))).length = (pf (max N (-N))).length by simp [fcl])
  have HAT := Lib.hid (fun i hi => dv_at hM i hi)
  have hpf := pf_ex hM
  have HPF := Lib.hid hpf
  have HNA := Lib.hid (show (max N (-N)).natAbs = N.natAbs by omega)
  generalize fcl (max N (-N)) = rows at *
  generalize pf (max N (-N)) = ps at *
  have hmade : Own (w.alloc (Obj.cells #[.int .i64 (-1), .int .i64 1] 3)) w.heap.size (.slice (some ⟨w.heap.size, 0, none⟩) 2 2) [-1, 1] := own_made (xs := [-1, 1]) (by decide)
  have HM := Lib.hid hmade
  clear hmade hpf hM h0
  go_enter Try.func69, Try.ntmps69
  go_wp2_with (first | (go_at_call 63; refine (HB.out _).mono ?_; rintro e w1 ⟨rfl, rfl⟩) | (go_at_call 62; refine (HP.out _).mono ?_; rintro e W1 ⟨a1, len1, cap1, rfl, hown, hbw⟩))
  obtain ⟨hl, hl2, hc⟩ := hown.cell
  have hM1 := HM.out.below hbw
  have hz1 := hbw.size
  simp only [World.size_alloc] at hz1
  have HC := Lib.hid hc; clear hc HP HB hown
  have hll : ps.length = len1 := by rw [← HLEN.out]; exact hl
  have HLL := Lib.hid hll
  have hB1 : Below w.heap.size w W1 := (by repeat' (first | (with_reducible exact Below.refl _ _) | (with_reducible assumption) | (with_reducible refine Below.alloc ?_ ?_ _) | (with_reducible refine Below.setCell ?_ ?_ _) | (with_reducible refine Below.drew ?_) | (with_reducible refine below_drewN ?_ _) | (apply bthen2; (with_reducible assumption)) | go_size))
  clear hl hll HM
  have hbig := h1
  go_loopw [3, 14] (fun v3 v14 wr => ∃ (i : Nat) (a : Option Addr) (cap : Nat) (out : List Int), i ≤ len1 ∧ v14 = .int .i64 i ∧ v3 = .slice a out.length cap ∧ out = (ps.take i).foldl dvP [-1, 1] ∧ Own wr w.heap.size (.slice a out.length cap) out ∧ Below W1.heap.size W1 wr ∧ Below w.heap.size w wr) (fun _ v14 _ => len1 - (intOf v14).toNat)
  case atStart => exact ⟨0, _, 2, [-1, 1], by omega, rfl, rfl, rfl, hM1, Below.refl _ _, hB1⟩
  case round =>
    clear hM1
    obtain ⟨i, a, cap, out, hi, rfl, rfl, hout, hown, hbW, hbw2⟩ := hrel
    obtain ⟨hDI, hS2⟩ := HAT.out i (by have := HLL.out; omega)
    rw [← hout] at hS2
    rw [HNA.out] at hDI
    have hrest : ∀ q ∈ ps.drop i, Pr q := fun q hq => ((HPF.out.2 q).1 (List.mem_of_mem_drop hq)).1
    have hol : out.length ≤ 400000 := by have := hDI.small hrest; have := hS2.len hDI.nd; omega
    by_cases hlt : i < len1
    · have hlt2 : i < ps.length := by have := HLL.out; omega
      obtain ⟨b, g, ha, hbl, c1, hg, c2⟩ := HC.out i _ (HF.out i hlt2)
      subst ha
      have c3 := c2 0 (by simp)
      simp only [List.getD_cons_zero, List.length_cons, List.length_nil, Nat.zero_add] at c1 c3
      have c1 := (hbW.cell (p := ⟨b, i, none⟩) hbl).trans c1
      have hPE : ∀ j, j < out.length → wrap64 (out.getD j 0 * ps.getD i 0) = out.getD j 0 * ps.getD i 0 := fun j hj => by
        have hd := List.drop_eq_getElem_cons hlt2
        have hg2 : ps.getD i 0 = ps[i] := by simp [List.getD, List.getElem?_eq_getElem hlt2]
        rw [hd] at hDI hrest
        have h1 := (hDI.el _ ((hS2.2 _).1 (getD_mem hj))).2.1
        have h2 := prodN_pos _ (fun q hq => hrest q (List.mem_cons_of_mem _ hq))
        have h3 : (out.getD j 0).natAbs * (ps[i].natAbs * 1) ≤ (out.getD j 0).natAbs * prodN (ps[i] :: ps.drop (i + 1)) := Nat.mul_le_mul_left _ (Nat.mul_le_mul_left _ h2)
        rw [hg2]
        rw [Nat.mul_one] at h3
        have := Int.natAbs_mul (out.getD j 0) ps[i]
        exact win (by omega)
      have HPE := Lib.hid hPE
      have hnext := dvp_take ps i hlt2
      rw [← hout] at hnext
      have HNX := Lib.hid hnext
      have hne : 0 < out.length := by
        have : (1 : Int) ∈ out := by
          rw [hout]
          have : ∀ (l : List Int) (T : List Int), (1 : Int) ∈ T → (1 : Int) ∈ l.foldl dvP T := by
            intro l
            induction l with
            | nil => intro T h; exact h
            | cons p l ih =>
              intro T h
              refine ih _ ?_
              unfold dvP
              have : ∀ (ns out : List Int), (1 : Int) ∈ out → (1 : Int) ∈ ns.foldl putL out := by
                intro ns
                induction ns with
                | nil => intro o h; exact h
                | cons n ns ih2 => intro o h; exact ih2 _ ((mem_putL o n 1).2 (.inr h))
              exact this _ _ h
          exact this _ _ (by simp)
        exact List.length_pos_of_mem this
      generalize ps.getD i 0 = p at *
      have HO := Lib.hid hown
      have hcell := hown.ints.cell.2.2
      have HOC := Lib.hid hcell
      have C3 := Lib.hid c3
      have hgs : g < W1.heap.size := hg
      clear hPE hnext hDI hS2 hrest hown hout hcell c2 c3
      obtain ⟨Wo, hWo⟩ : ∃ x, x = wr := ⟨_, rfl⟩
      subst hWo
      go_wp2_with fail
      go_loopw [6, 21] (fun v6 v21 wr => ∃ (j : Nat) (a2 : Option Addr) (cap2 : Nat) (more : List Int), j ≤ out.length ∧ v21 = .int .i64 j ∧ v6 = .slice a2 more.length cap2 ∧ more = ((out.take j).map (· * p)).foldl putL out ∧ Own wr w.heap.size (.slice a2 more.length cap2) more ∧ Below Wo.heap.size Wo wr) (fun _ v21 _ => out.length - (intOf v21).toNat)
      case atStart => exact ⟨0, a, cap, out, by omega, rfl, rfl, by simp, HO.out, Below.refl _ _⟩
      case round =>
        obtain ⟨j, a2, cap2, more, hj, rfl, rfl, hmore, hown, hbq⟩ := hrel
        have hml := foldl_len ((out.take j).map (· * p)) out
        rw [← hmore] at hml
        simp only [List.length_map, List.length_take] at hml
        have hzq := hbq.size
        have hzo := hbW.size
        by_cases hjl : j < out.length
        · obtain ⟨ob, ooff, hoa, hob, hoc⟩ := HOC.out j hjl
          subst hoa
          have c5 := (hbq.cell (p := ⟨ob, ooff + j, none⟩) hob).trans hoc
          have c6 := (hbq.cell (p := ⟨g, 0, none⟩) (by show g < Wo.heap.size; omega)).trans ((hbW.cell (p := ⟨g, 0, none⟩) hgs).trans C3.out)
          have hpe := HPE.out j hjl
          have hft := foldl_take out p out j hjl
          rw [← hmore] at hft
          have HPEJ := Lib.hid hpe; have HFT := Lib.hid hft
          have HPU := Lib.hid (fun W h => l1Put_any w.heap.size a2 more.length cap2 more (wrap64 (out.getD j 0 * p)) W h (by omega) (by omega))
          have HOW := Lib.hid hown
          have hlw : w.heap.size ≤ wr.heap.size := by have := hbw2.size; omega
          clear hpe hft hmore hml hown
          generalize out.getD j 0 = X at *
          go_wp2_with fail
          refine (HPU.out _ HOW.out hlw).mono ?_
          rintro e W3 ⟨a3, l3, c3, rfl, ho3, hb3⟩
          rw [HPEJ.out, ← HFT.out] at ho3
          have hl3 : l3 = (((out.take (j + 1)).map (· * p)).foldl putL out).length := (ho3.ints.len.1).symm
          subst hl3
          have HO3 := Lib.hid ho3
          have hb4 : Below Wo.heap.size Wo W3 := hbq.trans (hb3.mono hbq.size)
          clear ho3 hb3
          obtain ⟨mo, hmo⟩ : ∃ m, ((out.take (j + 1)).map (· * p)).foldl putL out = m := ⟨_, rfl⟩
          have HMO := Lib.hid hmo
          rw [hmo] at HO3 ⊢
          clear hmo
          go_wp2_with fail
          go_roundw
          case rel => exact ⟨j + 1, a3, c3, mo, by omega, by go_num, rfl, HMO.out.symm, HO3.out, hb4⟩
          case measure => simp [intOf]; omega
        · have e : j = out.length := by omega
          subst e
          rw [List.take_of_length_le (Nat.le_refl _)] at hmore
          have HMO := Lib.hid hmore
          have HOW := Lib.hid hown
          clear hmore hml hown
          go_wp2_with fail
          go_roundw
          case rel => exact ⟨i + 1, a2, cap2, more, by omega, by go_num, rfl, by rw [HNX.out, HMO.out]; rfl, HOW.out, hbW.trans (hbq.mono hzo), hbw2.trans (hbq.mono hbw2.size)⟩
          case measure => simp [intOf]; omega
    · have e : i = len1 := by omega
      have hfin : out = dvp ps := by rw [hout, List.take_of_length_le (by have := HLL.out; omega)]; rfl
      have HF2 := Lib.hid hfin
      have HO := Lib.hid hown
      clear hDI hS2 hrest hown hout hfin
      go_wp2
      go_ret
      exact ⟨_, _, _, rfl, by rw [← HF2.out]; exact HO.out, hbw2⟩

end Go.Proofs.Ytldmledjdcphmaa
