import Derived.Test.YtldmledjdcphmaaDesc2
import Derived.Lib.SlicesCompact
import Derived.Maps.AppendAt
set_option linter.unusedSimpArgs false
set_option linter.unusedVariables false
namespace Go.Proofs.Ytldmledjdcphmaa
open Go.RowKit
open Go.Sort (Holds grow putRow)
/-! ### bad primes of quartics -/

theorem compact_srt (zs : List Int) (h : zs.Pairwise (· ≤ ·)) : (Lib.compact zs).Pairwise (· < ·) ∧ ∀ x, x ∈ Lib.compact zs ↔ x ∈ zs := by
  have hg : ∀ m, m < zs.length → zs.toArray[m]! = zs.getD m 0 := fun m hm => by simp [getElem!_pos, hm, List.getD]
  have hle : ∀ i j, i ≤ j → j < zs.length → zs.getD i 0 ≤ zs.getD j 0 := fun i j hij hj => by
    rcases Nat.lt_or_ge i j with q | q
    · have := List.pairwise_iff_getElem.1 h i j (by omega) hj q
      simpa [List.getD, List.getElem?_eq_getElem hj, List.getElem?_eq_getElem (show i < zs.length by omega)] using this
    · have : i = j := by omega
      subst this; exact Int.le_refl _
  have key : ∀ m, m ≤ zs.length → (Lib.compactUpTo zs.toArray m).Pairwise (· < ·) ∧ (∀ x, x ∈ Lib.compactUpTo zs.toArray m ↔ ∃ j, j < m ∧ zs.getD j 0 = x) := by
    intro m
    induction m with
    | zero => intro _; exact ⟨by simp [Lib.compactUpTo], fun x => by simp [Lib.compactUpTo]⟩
    | succ m ih =>
      intro hm
      obtain ⟨h1, h2⟩ := ih (by omega)
      rw [Lib.compactUpTo_succ]
      cases hk : Lib.keeps zs.toArray m
      · simp only [Bool.false_eq_true, if_false, List.append_nil]
        refine ⟨h1, fun x => ?_⟩
        rw [h2]
        unfold Lib.keeps at hk
        simp only [decide_eq_false_iff_not, not_or, Classical.not_not] at hk
        rw [hg m (by omega), hg (m - 1) (by omega)] at hk
        constructor
        · rintro ⟨j, hj, e⟩; exact ⟨j, by omega, e⟩
        · rintro ⟨j, hj, e⟩
          by_cases q : j = m
          · subst q; exact ⟨j - 1, by omega, by rw [← hk.2]; exact e⟩
          · exact ⟨j, by omega, e⟩
      · simp only [if_true]
        rw [hg m (by omega)]
        unfold Lib.keeps at hk
        simp only [decide_eq_true_eq] at hk
        refine ⟨?_, fun x => ?_⟩
        · rw [List.pairwise_append]
          refine ⟨h1, by simp, fun y hy z hz => ?_⟩
          rw [List.mem_singleton] at hz
          subst hz
          obtain ⟨j, hj, rfl⟩ := (h2 y).1 hy
          rcases hk with hk | hk
          · omega
          · rw [hg m (by omega), hg (m - 1) (by omega)] at hk
            have a1 := hle j (m - 1) (by omega) (by omega)
            have a2 := hle (m - 1) m (by omega) (by omega)
            omega
        · rw [List.mem_append, h2, List.mem_singleton]
          constructor
          · rintro (⟨j, hj, e⟩ | e)
            · exact ⟨j, by omega, e⟩
            · exact ⟨m, by omega, e.symm⟩
          · rintro ⟨j, hj, e⟩
            by_cases q : j = m
            · subst q; exact .inr e.symm
            · exact .inl ⟨j, by omega, e⟩
  obtain ⟨h1, h2⟩ := key zs.length (Nat.le_refl _)
  refine ⟨h1, fun x => ?_⟩
  show x ∈ Lib.compactUpTo zs.toArray zs.length ↔ _
  rw [h2]
  constructor
  · rintro ⟨j, hj, rfl⟩; exact getD_mem hj
  · intro hx
    obtain ⟨j, hj, rfl⟩ := List.mem_iff_getElem.1 hx
    exact ⟨j, hj, by simp [List.getD, List.getElem?_eq_getElem hj]⟩
theorem compact_len (zs : List Int) : (Lib.compact zs).length ≤ zs.length := by
  unfold Lib.compact Lib.compactUpTo
  rw [List.length_map]
  exact Nat.le_trans (List.length_filter_le _ _) (by simp)
theorem Compact_own (B g len cap : Nat) (xs : List Int) (w : World) (h : Own w B (.slice (some ⟨g, 0, none⟩) len cap) xs) (hlen : xs.length ≤ 1000000000000) :
    Calls Try.prog 67 #[.slice (some ⟨g, 0, none⟩) len cap] w (fun e w' => ∃ l, e = .returned (.slice (some ⟨g, 0, none⟩) l cap) ∧ Own w' B (.slice (some ⟨g, 0, none⟩) l cap) (Lib.compact xs) ∧ Only (some g) w w') := by
  have hh := h
  obtain ⟨h1, h2⟩ := hh
  rcases h2 with ⟨hv, hn⟩ | ⟨g', cap', cur, hv, hg, hb, hc, hm, hs, ht⟩
  · cases hv
  · simp only [Value.slice.injEq, Option.some.injEq, Addr.mk.injEq, and_true] at hv
    obtain ⟨rfl, rfl, rfl⟩ := hv
    have hH : Holds (Value.int .i64) w g 0 xs.toArray := fun j hj => by
      have hj' : j < xs.length := by simpa using hj
      have c1 := World.ownsRow.cellAt h j (by omega)
      rw [List.getElem?_map, List.getElem?_eq_getElem hj'] at c1
      refine ⟨by rw [Nat.zero_add]; simpa [getElem!_pos, hj'] using c1, ?_⟩
      have := World.ownsRow.frozenAt h j
      simpa using this
    refine (_root_.Go.Proofs.Try.slices_Compact_int g 0 cap xs w hH (by omega) hc).mono ?_
    rintro e w' ⟨rfl, q, rfl⟩
    have hcl := compact_len xs
    have hO := Lib.ownsRow_putRow (q := q) (ys := Lib.compact xs ++ List.replicate (xs.length - (Lib.compact xs).length) 0) h (by simp; omega) hcl
    rw [List.take_append_of_le_length (Nat.le_refl _), List.take_of_length_le (Nat.le_refl _)] at hO
    refine ⟨_, rfl, hO, ?_⟩
    refine ⟨rfl, rfl, rfl, by simp [putRow, Sort.mapBlock, Sort.ahead], fun k hk hne => ?_⟩
    have hgk : g ≠ k := fun e => hne (by rw [e])
    simp [putRow, Sort.mapBlock, Sort.ahead, Array.getElem?_modify, hgk]
/-- append(out, ys...), whatever ys holds; where the new slice lies. -/
theorem wpl_appA {ops : Array Oper} {rest : List Oper} {o : Oper} {a : Act} {Q : Exit → Act → World → Prop} {w : World} (hgd : o.guard = none) (s x : Operand)
    (ho : o.op = .call { callee := .builtin .append, args := #[s, x], argTypes := #[24, 24] }) (B : Nat) (v : Value) (xs : List Int) (hs : a.eval s = v) (hown : Own w B v xs)
    (y : Value) (C : Nat) (ys : List Int) (hx : a.eval x = y) (hy : Own w C y ys) (hlen : xs.length + ys.length ≤ 1000000000000) (hB : B ≤ w.heap.size)
    (h : ∀ a' cap' w', Own w' B (.slice a' (xs.length + ys.length) cap') (xs ++ ys) → Only v.ownBlock w w' → ((Value.slice a' (xs.length + ys.length) cap').ownBlock = v.ownBlock ∨ (Value.slice a' (xs.length + ys.length) cap').ownBlock = some w.heap.size) → wpList Try.prog ops Q rest (a.put o.dst (.slice a' (xs.length + ys.length) cap')) w') : wpList Try.prog ops Q (o :: rest) a w := by
  obtain ⟨i0, hi, hz0, hz1, hz2⟩ := info_parts infoInt
  rcases hy.2 with ⟨hv, hn⟩ | ⟨g, cap, cur, hv, hg, hb, hc, hm, hs2, ht⟩
  · have hy0 : ys = [] := List.length_eq_zero_iff.1 hn
    subst hy0
    obtain ⟨a', cap', rfl⟩ := hown.slice
    refine wpList_append_own_none hgd s x 24 ho B 3 i0 1 Try.underlying24 hi _ xs.length (xs.map (Value.int .i64)) hs hown (hx.trans hv) ?_
    have := h a' cap' w (by simpa using hown) (Only.refl _ _) (.inl rfl)
    simpa using this
  · subst hv
    refine wpList_append_own_at w hgd s x 24 ho B 3 i0 (.int .i64 0) 1 8 Try.underlying24 hi hz0 hz1 hz2 rfl (by decide) v xs.length (xs.map (Value.int .i64)) hs hown ⟨g, 0, none⟩ ys.length cap (ys.map (Value.int .i64)) hx (by simp) ?_ ?_ (by unfold maxLen; omega) (by omega) hB ?_
    · intro j u hj
      have hj2 : j < ys.length := by
        rcases Nat.lt_or_ge j ys.length with q | q
        · exact q
        · rw [List.getElem?_eq_none (by simpa using q)] at hj; cases hj
      have c1 := World.ownsRow.cellAt hy j (by omega)
      rw [hj] at c1
      cases j <;> simpa [Addr.add] using c1
    · intro u hu
      obtain ⟨y, -, rfl⟩ := List.mem_map.mp hu
      rfl
    · intro v' w' h1 h2 _ h4
      have ho' : Own w' B v' (xs ++ ys) := by
        unfold Own
        simpa using h1
      obtain ⟨a', cap', rfl⟩ := ho'.slice
      simp only [List.length_append] at ho' h4 ⊢
      exact h a' cap' w' ho' (Only.of_grown h2) h4

theorem prodN_pow : ∀ (l : List Int), (∀ p ∈ l, Pr p) → 2 ^ l.length ≤ prodN l
  | [], _ => by simp [prodN]
  | p :: l, h => by
    have h1 := prodN_pow l (fun x hx => h x (List.mem_cons_of_mem _ hx))
    have h3 := (h p List.mem_cons_self).1
    have h4 : 2 * prodN l ≤ p.natAbs * prodN l := Nat.mul_le_mul_right _ (by omega)
    simp only [List.length_cons, prodN, Nat.pow_succ]; omega
theorem pf_len {N : Int} (h : 1 ≤ N) (h2 : N ≤ 1000000000000) : (pf N).length ≤ 40 := by
  have h1 := pf_prod h
  have h3 := prodN_pow (pf N) (fun p hp => (((pf_ex h).2 p).1 hp).1)
  rcases Nat.lt_or_ge 40 (pf N).length with q | q
  · have : 2 ^ 41 ≤ 2 ^ (pf N).length := Nat.pow_le_pow_right (by omega) q
    have e : (2 : Nat) ^ 41 = 2199023255552 := by decide
    omega
  · exact q
noncomputable def cat (ns : List Int) (i : Nat) : List Int := (ns.take i).flatMap (fun n => pf (max n (-n)))
noncomputable def bpT (ns : List Int) : List Int := (cat ns ns.length).foldl putL [2]
theorem cat_succ (ns : List Int) (i : Nat) (h : i < ns.length) : cat ns (i + 1) = cat ns i ++ pf (max (ns.getD i 0) (-(ns.getD i 0))) := by
  unfold cat
  rw [List.take_succ_eq_append_getElem h, List.flatMap_append]
  simp [List.getD, List.getElem?_eq_getElem h]
theorem cat_len {ns : List Int} (h : ∀ n ∈ ns, n ≠ 0 ∧ n.natAbs ≤ 100000000000) (i : Nat) (hi : i ≤ ns.length) : (cat ns i).length ≤ 40 * i := by
  induction i with
  | zero => simp [cat]
  | succ i ih =>
    obtain ⟨h1, h2⟩ := h _ (getD_mem (show i < ns.length by omega))
    have := ih (by omega)
    have := pf_len (N := max (ns.getD i 0) (-(ns.getD i 0))) (by omega) (by omega)
    rw [cat_succ _ _ (by omega), List.length_append]; omega
theorem bp_eq (ns : List Int) : Lib.compact ((([2] : List Int) ++ cat ns ns.length).mergeSort fun x y => decide (x ≤ y)) = bpT ns := by
  obtain ⟨h1, h2⟩ := compact_srt _ (sort_le (([2] : List Int) ++ cat ns ns.length))
  obtain ⟨h3, h4⟩ := foldl_putL (cat ns ns.length) [2] (by simp)
  refine srt_ext _ _ h1 h3 (fun x => ?_)
  unfold bpT
  rw [h2, h4, (sort_perm _).mem_iff, List.mem_append]
def qdisc (D A C : Int) : Int := A * A - 4 * D * C
noncomputable def bpL (D A C : Int) : List Int := if qdisc D A C = 0 then [] else bpT [D, C, qdisc D A C]
def bpOk (D A C : Int) : Bool := decide (qdisc D A C ≠ 0)
theorem isQ_ns {D A C : Int} (h : isQ D A C = true) : D ≠ 0 ∧ C ≠ 0 ∧ D.natAbs ≤ 100000 ∧ A.natAbs ≤ 100000 ∧ C.natAbs ≤ 100000 := by
  unfold isQ at h
  simp only [Bool.and_eq_true, inB_iff, bne_iff_ne, ne_eq] at h
  obtain ⟨⟨⟨⟨h1, h2⟩, h3⟩, h4⟩, h5⟩ := h
  exact ⟨h4, h5, by omega, by omega, by omega⟩
theorem qdisc_rng {D A C : Int} (h : isQ D A C = true) : wrap64 (A * A) = A * A ∧ wrap64 (4 * D) = 4 * D ∧ wrap64 (4 * D * C) = 4 * D * C ∧ wrap64 (A * A - 4 * D * C) = A * A - 4 * D * C ∧ (A * A - 4 * D * C).natAbs ≤ 100000000000 := by
  obtain ⟨-, -, h1, h2, h3⟩ := isQ_ns h
  have a1 := abs_mul h2 h2
  have a2 := abs_mul (show (4 * D).natAbs ≤ 400000 by omega) h3
  refine ⟨win (by omega), win (by omega), win (by omega), win (by omega), by omega⟩

set_option maxRecDepth 100000 in
set_option maxHeartbeats 4000000 in
theorem badPrimes_any (D A C : Int) (h : isQ D A C = true) (w : World) : Calls Try.prog 37 #[.agg #[.int .i64 D, .int .i64 A, .int .i64 C]] w (GivesIB (bpL D A C) (bpOk D A C) w) := by
  obtain ⟨e1, e2, e3, e4, e5⟩ := qdisc_rng h
  obtain ⟨n1, n2, n3, n4, n5⟩ := isQ_ns h
  by_cases hq : A * A - 4 * D * C = 0
  · rw [show bpL D A C = [] by unfold bpL qdisc; rw [if_pos hq], show bpOk D A C = false by unfold bpOk qdisc; simp [hq]]
    clear h n1 n2 n3 n4 n5 e5
    go_enter Try.func37, Try.ntmps37
    go_wp2
    go_ret2
    exact ⟨_, _, _, rfl, Own.nil _ _, (by repeat' (first | (with_reducible exact Below.refl _ _) | (with_reducible assumption) | (with_reducible refine Below.alloc ?_ ?_ _) | (with_reducible refine Below.setCell ?_ ?_ _) | (with_reducible refine Below.drew ?_) | (with_reducible refine below_drewN ?_ _) | (apply bthen2; (with_reducible assumption)) | go_size))⟩
  · obtain ⟨ns, hns⟩ : ∃ ns, [D, C, A * A - 4 * D * C] = ns := ⟨_, rfl⟩
    have hN : ∀ n ∈ ns, n ≠ 0 ∧ n.natAbs ≤ 100000000000 := by
      intro n hn
      rw [← hns] at hn
      simp only [List.mem_cons, List.not_mem_nil, or_false] at hn
      rcases hn with rfl | rfl | rfl
      · exact ⟨n1, by omega⟩
      · exact ⟨n2, by omega⟩
      · exact ⟨hq, e5⟩
    rw [show bpL D A C = bpT ns by unfold bpL qdisc; rw [if_neg hq, hns], show bpOk D A C = true by unfold bpOk qdisc; simp [hq]]
    have hl3 : ns.length = 3 := by rw [← hns]; rfl
    have HN := Lib.hid hN
    have HBP := Lib.hid (bp_eq ns)
    have HNS := Lib.hid hns
    have HL3 := Lib.hid hl3
    have HCL := Lib.hid (fun i hi => cat_len hN i hi)
    have hM := own_made (w := w.alloc (Obj.cells #[.int .i64 D, .int .i64 A, .int .i64 C] 27)) (xs := [2]) (by decide)
    have HM := Lib.hid hM
    have hq2 : (A * A - 4 * D * C == 0) = false := by simp [hq]
    clear h n1 n2 n3 n4 n5 e5 hns hN hl3 hM hq
    go_enter Try.func37, Try.ntmps37
    go_wp2_with fail
    refine name_world (fun W1 hW1 => ?_)
    have hBX : Box W1 (w.heap.size + 1 + 1) (ns.map (Value.int .i64)) := by subst hW1; rw [← HNS.out]; show Box _ _ [.int .i64 D, .int .i64 C, .int .i64 (A * A - 4 * D * C)]; exact box_three (by first | (simp; done) | (simp; omega)) (by simp [go_sem]) (by simp [go_sem]) (by simp [go_sem]) (fun o => by simp [go_sem])
    have hO1 : Own W1 (w.heap.size + 1) (.slice (some ⟨w.heap.size + 1, 0, none⟩) 1 1) ([2] ++ cat ns 0) := by subst hW1; exact (by simpa [cat] using HM.out : Own ((w.alloc (Obj.cells #[.int .i64 D, .int .i64 A, .int .i64 C] 27)).alloc (Obj.cells #[.int .i64 2] 3)) (w.heap.size + 1) (.slice (some ⟨w.heap.size + 1, 0, none⟩) 1 1) ([2] ++ cat ns 0)).alloc _
    have hB1 : Below w.heap.size w W1 := by subst hW1; exact (by repeat' (first | (with_reducible exact Below.refl _ _) | (with_reducible assumption) | (with_reducible refine Below.alloc ?_ ?_ _) | (with_reducible refine Below.setCell ?_ ?_ _) | (with_reducible refine Below.drew ?_) | (with_reducible refine below_drewN ?_ _) | (apply bthen2; (with_reducible assumption)) | go_size))
    clear hW1 HM HNS e1 e2 e3 e4 hq2
    go_loopw [5, 30] (fun v5 v30 wr => ∃ (i : Nat) (a : Option Addr) (len cap : Nat), i ≤ 3 ∧ v30 = .int .i64 i ∧ v5 = .slice a len cap ∧ len = ([2] ++ cat ns i).length ∧ Own wr (w.heap.size + 1) (.slice a len cap) ([2] ++ cat ns i) ∧ (∀ k, (Value.slice a len cap).ownBlock = some k → k = w.heap.size + 1 ∨ w.heap.size + 3 ≤ k) ∧ Box wr (w.heap.size + 1 + 1) (ns.map (Value.int .i64)) ∧ Below w.heap.size w wr) (fun _ v30 _ => 3 - (intOf v30).toNat)
    case atStart => exact ⟨0, _, 1, 1, by omega, rfl, rfl, by simp [cat], hO1, fun k hk => .inl (by have : w.heap.size + 1 = k := (by simpa [Value.ownBlock] using hk); omega), hBX, hB1⟩
    case round =>
      clear hBX hO1
      obtain ⟨i, a, len, cap, hi, rfl, rfl, hlen, hown, hsep, hbx, hbw⟩ := hrel
      have h3 := HL3.out
      have hcl := HCL.out i (by omega)
      have hll : len ≤ 200 := by rw [hlen]; simp; omega
      have hbl := hbx.1
      by_cases hlt : i < 3
      · have hi3 : i < ns.length := by omega
        have c1 : wr.cell? ⟨w.heap.size + 1 + 1, i, none⟩ = some (.int .i64 (ns.getD i 0)) := hbx.2.1 i _ (by rw [List.getElem?_map, List.getElem?_eq_getElem hi3]; simp [List.getD, List.getElem?_eq_getElem hi3])
        obtain ⟨m1, m2⟩ := HN.out _ (getD_mem hi3)
        have HP := Lib.hid (fun w => primesOf_any (ns.getD i 0) m1 (by omega) (by omega) w)
        have hpl := pf_len (N := max (ns.getD i 0) (-(ns.getD i 0))) (by omega) (by omega)
        have hcs := cat_succ ns i hi3
        generalize pf (max (ns.getD i 0) (-(ns.getD i 0))) = ps at *
        generalize ns.getD i 0 = N at *
        have HCS := Lib.hid hcs; have HO := Lib.hid hown; have HSP := Lib.hid hsep; have HX := Lib.hid hbx; have HLEN := Lib.hid hlen
        clear hcs hown hsep hbx hlen hcl m1 m2 h3
        go_wp2_with fail
        refine (HP.out _).mono ?_
        rintro e W2 ⟨pa, pl, pc, rfl, hop, hb2⟩
        have hps : pl = ps.length := hop.ints.len.1.symm
        subst hps
        have hO2 := HO.out.below hb2
        have hX2 := HX.out.below hb2
        have hz2 := hb2.size
        have hbw2 : Below w.heap.size w W2 := (by repeat' (first | (with_reducible exact Below.refl _ _) | (with_reducible assumption) | (with_reducible refine Below.alloc ?_ ?_ _) | (with_reducible refine Below.setCell ?_ ?_ _) | (with_reducible refine Below.drew ?_) | (with_reducible refine below_drewN ?_ _) | (apply bthen2; (with_reducible assumption)) | go_size))
        have HO2 := Lib.hid hO2; have HOP := Lib.hid hop
        clear hO2 hop hb2 HO HX
        obtain ⟨S, hS⟩ : ∃ S, ([2] ++ cat ns i : List Int) = S := ⟨_, rfl⟩
        rw [hS] at HO2 HLEN
        have HSS := Lib.hid hS
        have hSl : S.length = len := HLEN.out.symm
        subst hSl
        clear hS
        go_wp2_with (first | (at_builtin; refine wpl_appA rfl _ _ rfl (w.heap.size + 1) (.slice a S.length cap) S rfl HO2.out (.slice pa ps.length pc) _ ps rfl HOP.out (by omega) (by omega) ?_; intro a3 cap3 w3 hown3 hon3 hat3))
        go_roundw
        case rel =>
          have hX3 := hX2.chg (ChgS.of hon3) (fun e => by have := HSP.out _ e; omega)
          have hb3 : Below w.heap.size w w3 := hbw2.trans (hon3.below hbw2.size (fun k hk => by have := HSP.out k hk; omega))
          refine ⟨i + 1, a3, S.length + ps.length, cap3, by omega, by go_num, rfl, ?_, ?_, fun k hk => ?_, hX3, hb3⟩
          · rw [HCS.out, ← List.append_assoc, HSS.out, List.length_append]
          · rw [HCS.out, ← List.append_assoc, HSS.out]; exact hown3
          · rcases hat3 with q | q
            · rw [q] at hk; exact HSP.out k hk
            · rw [q] at hk
              have : W2.heap.size = k := Option.some.inj hk
              omega
        case measure => simp [intOf]; omega
      · have e : i = 3 := by omega
        subst e
        have hbp := HBP.out
        rw [h3] at hbp
        have HBP := Lib.hid hbp
        clear hbp
        obtain ⟨S, hS⟩ : ∃ S, ([2] ++ cat ns 3 : List Int) = S := ⟨_, rfl⟩
        have hS0 : 0 < S.length := by rw [← hS]; simp
        rw [hS] at hown hlen HBP
        obtain ⟨g, rfl, -, hgl, -, -⟩ := hown.ptr hS0
        have hgw : w.heap.size + 1 ≤ g := (hown.lt (b := g) rfl).2
        have HO := Lib.hid hown
        have hSl : S.length ≤ 200 := by omega
        clear hown hsep hbx hlen hcl hS h3
        go_wp2_with fail
        refine (Sort_own (w.heap.size + 1) _ _ _ S _ HO.out (by omega)).mono ?_
        rintro e W3 ⟨rfl, ho3, hon3⟩
        have hb3 := hbw.trans (hon3.below hbw.size (fun k hk => by have : g = k := (by simpa [Value.ownBlock] using hk); omega))
        have hl3 : (S.mergeSort fun x y => decide (x ≤ y)).length ≤ 1000000000000 := by rw [List.length_mergeSort]; omega
        have HO3 := Lib.hid ho3
        clear ho3 hon3
        go_wp2_with fail
        refine (Compact_own (w.heap.size + 1) g _ _ _ _ HO3.out hl3).mono ?_
        rintro e W4 ⟨l4, rfl, ho4, hon4⟩
        have hb4 := hb3.trans (hon4.below hb3.size (fun k hk => by have : g = k := Option.some.inj hk; omega))
        rw [HBP.out] at ho4
        go_wp2_with fail
        go_ret2
        exact ⟨_, _, _, rfl, ho4.mono (by omega), hb4⟩

theorem foldl_take1 (ps : List Int) (T : List Int) (j : Nat) (h : j < ps.length) : (ps.take (j + 1)).foldl putL T = putL ((ps.take j).foldl putL T) (ps.getD j 0) := by
  rw [List.take_succ_eq_append_getElem h, List.foldl_append]
  simp [List.getD, List.getElem?_eq_getElem h]
theorem cat_foldl (ns : List Int) (i : Nat) (h : i < ns.length) : (cat ns (i + 1)).foldl putL [2] = (pf (max (ns.getD i 0) (-(ns.getD i 0)))).foldl putL ((cat ns i).foldl putL [2]) := by
  rw [cat_succ _ _ h, List.foldl_append]
set_option maxRecDepth 100000 in
set_option maxHeartbeats 4000000 in
theorem loBad_any (D A C : Int) (h : isQ D A C = true) (w : World) : Calls Try.prog 35 #[.agg #[.int .i64 D, .int .i64 A, .int .i64 C]] w (GivesIB (bpL D A C) (bpOk D A C) w) := by
  obtain ⟨e1, e2, e3, e4, e5⟩ := qdisc_rng h
  obtain ⟨n1, n2, n3, n4, n5⟩ := isQ_ns h
  by_cases hq : A * A - 4 * D * C = 0
  · rw [show bpL D A C = [] by unfold bpL qdisc; rw [if_pos hq], show bpOk D A C = false by unfold bpOk qdisc; simp [hq]]
    clear h n1 n2 n3 n4 n5 e5
    go_enter Try.func35, Try.ntmps35
    go_wp2
    go_ret2
    exact ⟨_, _, _, rfl, Own.nil _ _, (by repeat' (first | (with_reducible exact Below.refl _ _) | (with_reducible assumption) | (with_reducible refine Below.alloc ?_ ?_ _) | (with_reducible refine Below.setCell ?_ ?_ _) | (with_reducible refine Below.drew ?_) | (with_reducible refine below_drewN ?_ _) | (apply bthen2; (with_reducible assumption)) | go_size))⟩
  · obtain ⟨ns, hns⟩ : ∃ ns, [D, C, A * A - 4 * D * C] = ns := ⟨_, rfl⟩
    have hN : ∀ n ∈ ns, n ≠ 0 ∧ n.natAbs ≤ 100000000000 := by
      intro n hn
      rw [← hns] at hn
      simp only [List.mem_cons, List.not_mem_nil, or_false] at hn
      rcases hn with rfl | rfl | rfl
      · exact ⟨n1, by omega⟩
      · exact ⟨n2, by omega⟩
      · exact ⟨hq, e5⟩
    rw [show bpL D A C = bpT ns by unfold bpL qdisc; rw [if_neg hq, hns], show bpOk D A C = true by unfold bpOk qdisc; simp [hq]]
    have hl3 : ns.length = 3 := by rw [← hns]; rfl
    have HN := Lib.hid hN
    have HBP := Lib.hid (show (cat ns ns.length).foldl putL [2] = bpT ns from rfl)
    have HNS := Lib.hid hns
    have HL3 := Lib.hid hl3
    have HCL := Lib.hid (fun i hi => cat_len hN i hi)
    have hM := own_made (w := w.alloc (Obj.cells #[.int .i64 D, .int .i64 A, .int .i64 C] 27)) (xs := [2]) (by decide)
    have HM := Lib.hid hM
    have hq2 : (A * A - 4 * D * C == 0) = false := by simp [hq]
    clear h n1 n2 n3 n4 n5 e5 hns hN hl3 hM hq
    go_enter Try.func35, Try.ntmps35
    go_wp2_with fail
    refine name_world (fun W1 hW1 => ?_)
    have hBX : Box W1 (w.heap.size + 1 + 1) (ns.map (Value.int .i64)) := by subst hW1; rw [← HNS.out]; show Box _ _ [.int .i64 D, .int .i64 C, .int .i64 (A * A - 4 * D * C)]; exact box_three (by first | (simp; done) | (simp; omega)) (by simp [go_sem]) (by simp [go_sem]) (by simp [go_sem]) (fun o => by simp [go_sem])
    have hO1 : Own W1 (w.heap.size + 1) (.slice (some ⟨w.heap.size + 1, 0, none⟩) 1 1) ((cat ns 0).foldl putL [2]) := by subst hW1; exact (by simpa [cat] using HM.out : Own ((w.alloc (Obj.cells #[.int .i64 D, .int .i64 A, .int .i64 C] 27)).alloc (Obj.cells #[.int .i64 2] 3)) (w.heap.size + 1) (.slice (some ⟨w.heap.size + 1, 0, none⟩) 1 1) ((cat ns 0).foldl putL [2])).alloc _
    have hB1 : Below w.heap.size w W1 := by subst hW1; exact (by repeat' (first | (with_reducible exact Below.refl _ _) | (with_reducible assumption) | (with_reducible refine Below.alloc ?_ ?_ _) | (with_reducible refine Below.setCell ?_ ?_ _) | (with_reducible refine Below.drew ?_) | (with_reducible refine below_drewN ?_ _) | (apply bthen2; (with_reducible assumption)) | go_size))
    clear hW1 HM HNS e1 e2 e3 e4 hq2
    go_loopw [5, 32] (fun v5 v32 wr => ∃ (i : Nat) (a : Option Addr) (len cap : Nat), i ≤ 3 ∧ v32 = .int .i64 i ∧ v5 = .slice a len cap ∧ Own wr (w.heap.size + 1) (.slice a len cap) ((cat ns i).foldl putL [2]) ∧ Below W1.heap.size W1 wr) (fun _ v32 _ => 3 - (intOf v32).toNat)
    case atStart => exact ⟨0, _, 1, 1, by omega, rfl, rfl, hO1, Below.refl _ _⟩
    case round =>
      clear hO1
      obtain ⟨i, a, len, cap, hi, rfl, rfl, hown, hbW⟩ := hrel
      have h3 := HL3.out
      have hcl := HCL.out i (by omega)
      have hfl := foldl_len (cat ns i) [2]
      have hln : ((cat ns i).foldl putL [2]).length = len := hown.ints.len.1
      simp only [List.length_cons, List.length_nil] at hfl
      have hzW := hbW.size
      have hz1 := hB1.size
      have hbx := hBX.below hbW
      by_cases hlt : i < 3
      · have hi3 : i < ns.length := by omega
        have c1 : wr.cell? ⟨w.heap.size + 1 + 1, i, none⟩ = some (.int .i64 (ns.getD i 0)) := hbx.2.1 i _ (by rw [List.getElem?_map, List.getElem?_eq_getElem hi3]; simp [List.getD, List.getElem?_eq_getElem hi3])
        obtain ⟨m1, m2⟩ := HN.out _ (getD_mem hi3)
        have HP := Lib.hid (fun w => mdFactors_any (max (ns.getD i 0) (-(ns.getD i 0))) (by omega) (by omega) w)
        have HAB := Lib.hid (show ∀ w, Calls Try.prog 63 #[.int .i64 (ns.getD i 0)] w (Same (.int .i64 (max (ns.getD i 0) (-(ns.getD i 0)))) w) from fun w => by have := l1Abs_any (ns.getD i 0) w; rwa [win (n := -(ns.getD i 0)) (by omega)] at this)
        have HF := Lib.hid (fun k hk => fcl_at (ns.getD i 0) k hk)
        have HLEN := Lib.hid (show (fcl (max (ns.getD i 0) (-(ns.getD i 0)))).length = (pf (max (ns.getD i 0) (-(ns.getD i 0)))).length by simp [fcl])
        have hpl := pf_len (N := max (ns.getD i 0) (-(ns.getD i 0))) (by omega) (by omega)
        have hcf := cat_foldl ns i hi3
        generalize fcl (max (ns.getD i 0) (-(ns.getD i 0))) = rows at *
        generalize pf (max (ns.getD i 0) (-(ns.getD i 0))) = ps at *
        generalize max (ns.getD i 0) (-(ns.getD i 0)) = M at *
        generalize hNN : ns.getD i 0 = N at *
        obtain ⟨T, hT⟩ : ∃ T, (cat ns i).foldl putL [2] = T := ⟨_, rfl⟩
        rw [hT] at hcf hown hfl hln
        have HCF := Lib.hid hcf; have HO := Lib.hid hown
        have hTl : T.length ≤ 200 := by omega
        have hT0 : 0 < T.length := by omega
        subst hln
        clear hcf hown hcl hfl hbx m1 m2 h3 hT hNN
        obtain ⟨Wo, hWo⟩ : ∃ x, x = wr := ⟨_, rfl⟩
        subst hWo
        go_wp2_with (first | (go_at_call 63; refine (HAB.out _).mono ?_; rintro e w1 ⟨rfl, rfl⟩) | (go_at_call 62; refine (HP.out _).mono ?_; rintro e W2 ⟨ra, rl, rc, rfl, hrow, hb2⟩))
        obtain ⟨hl, hl2, hc⟩ := hrow.cell
        have hll : ps.length = rl := by rw [← HLEN.out]; exact hl
        have HC := Lib.hid hc; have HLL := Lib.hid hll
        have hO2 := HO.out.below hb2
        have hz2 := hb2.size
        have hbW2 := hbW.trans (hb2.mono hzW)
        have HO2 := Lib.hid hO2
        clear hc hl hll hrow hO2 hb2 HP HAB HO
        go_loopw [5, 40] (fun v5 v40 wr => ∃ (j : Nat) (a2 : Option Addr) (l2 cap2 : Nat), j ≤ rl ∧ v40 = .int .i64 j ∧ v5 = .slice a2 l2 cap2 ∧ Own wr (w.heap.size + 1) (.slice a2 l2 cap2) ((ps.take j).foldl putL T) ∧ Below W2.heap.size W2 wr) (fun _ v40 _ => rl - (intOf v40).toNat)
        case atStart => exact ⟨0, a, T.length, cap, by omega, rfl, rfl, by simpa using HO2.out, Below.refl _ _⟩
        case round =>
          clear HO2
          obtain ⟨j, a2, l2, cap2, hj, rfl, rfl, hown, hbq⟩ := hrel
          have hml := foldl_len (ps.take j) T
          simp only [List.length_take] at hml
          have hl2 : ((ps.take j).foldl putL T).length = l2 := hown.ints.len.1
          have hzq := hbq.size
          have hpsl := HLL.out
          by_cases hjl : j < rl
          · have hj2 : j < ps.length := by omega
            obtain ⟨b, g, hra, hbl, c2, hg, c3⟩ := HC.out j _ (HF.out j hj2)
            subst hra
            have c4 := c3 0 (by simp)
            simp only [List.getD_cons_zero, List.length_cons, List.length_nil, Nat.zero_add] at c2 c4
            have c5 := (hbq.cell (p := ⟨b, j, none⟩) hbl).trans c2
            have c6 := (hbq.cell (p := ⟨g, 0, none⟩) hg).trans c4
            have hft := foldl_take1 ps T j hj2
            have HFT := Lib.hid hft
            obtain ⟨mo, hmo⟩ : ∃ m, (ps.take j).foldl putL T = m := ⟨_, rfl⟩
            rw [hmo] at hown hml hl2 HFT
            have HPU := Lib.hid (fun W h => l1Put_any (w.heap.size + 1) a2 l2 cap2 mo (ps.getD j 0) W h (by omega) (by omega))
            generalize ps.getD j 0 = p at *
            have HOW := Lib.hid hown
            have hlw : w.heap.size + 1 ≤ wr.heap.size := by have := hBX.1; omega
            clear hft hown hml c2 c3 c4 hmo
            go_wp2_with fail
            refine (HPU.out _ HOW.out hlw).mono ?_
            rintro e W3 ⟨a3, l3, c3, rfl, ho3, hb3⟩
            rw [← HFT.out] at ho3
            have hb4 : Below W2.heap.size W2 W3 := hbq.trans (hb3.mono hzq)
            have HO3 := Lib.hid ho3
            clear ho3 hb3
            go_wp2_with fail
            go_roundw
            case rel => exact ⟨j + 1, a3, l3, c3, by omega, by go_num, rfl, HO3.out, hb4⟩
            case measure => simp [intOf]; omega
          · have e : j = rl := by omega
            subst e
            rw [List.take_of_length_le (by omega)] at hown
            have HOW := Lib.hid hown
            clear hown hml
            go_wp2_with fail
            go_roundw
            case rel => exact ⟨i + 1, a2, l2, cap2, by omega, by go_num, rfl, by rw [HCF.out]; exact HOW.out, hbW2.trans (hbq.mono (by omega))⟩
            case measure => simp [intOf]; omega
      · have e : i = 3 := by omega
        subst e
        have hbp := HBP.out
        rw [h3] at hbp
        rw [hbp] at hown
        have HO := Lib.hid hown
        clear hown hcl hfl hln hbx hbp h3
        go_wp2
        go_ret2
        exact ⟨_, _, _, rfl, HO.out.mono (by omega), hB1.trans (hbW.mono hz1)⟩

noncomputable def bqR (D A C : Int) : List Int := if isQ D A C = true then bpL D A C else []
def bqOk (D A C : Int) : Bool := isQ D A C && bpOk D A C
theorem bqR_len (D A C : Int) : (bqR D A C).length ≤ 400000 := by
  unfold bqR
  split
  · rename_i h
    unfold bpL
    split
    · simp
    · rename_i hq
      obtain ⟨n1, n2, n3, n4, n5⟩ := isQ_ns h
      obtain ⟨-, -, -, -, e5⟩ := qdisc_rng h
      have hN : ∀ n ∈ [D, C, qdisc D A C], n ≠ 0 ∧ n.natAbs ≤ 100000000000 := by
        intro n hn
        simp only [List.mem_cons, List.not_mem_nil, or_false] at hn
        rcases hn with rfl | rfl | rfl
        · exact ⟨n1, by omega⟩
        · exact ⟨n2, by omega⟩
        · exact ⟨hq, e5⟩
      have h1 := cat_len hN 3 (by simp)
      have h2 := foldl_len (cat [D, C, qdisc D A C] 3) [2]
      simp only [List.length_cons, List.length_nil] at h2
      show ((cat [D, C, qdisc D A C] 3).foldl putL [2]).length ≤ 400000
      omega
  · simp
set_option maxHeartbeats 1000000 in
theorem BadForQuartic_any (D A C : Int) (w : World) : Calls Try.prog 13 #[.agg #[.int .i64 D, .int .i64 A, .int .i64 C]] w (GivesIB (bqR D A C) (bqOk D A C) w) := by
  have HG := Lib.hid (fun w => isQuartic_any D A C w)
  unfold bqR bqOk
  cases g : isQ D A C
  · rw [g] at HG
    simp only [Bool.false_and, Bool.false_eq_true, if_false]
    go_enter Try.func13, Try.ntmps13
    go_wp2_with fail
    refine (HG.out _).mono ?_
    rintro e wa ⟨rfl, hba⟩; have hza := hba.size; (try simp only [World.size_alloc, World.size_setCell, World.size_drew, World.heap_drewN] at hza); try (refine keepc hba (w.heap.size) ?_ ?_; (focus (first | omega | (simp <;> omega))); intro hca_0 hfa_0 hla_0); try (refine keepc hba (w.heap.size + 1) ?_ ?_; (focus (first | omega | (simp <;> omega))); intro hca_1 hfa_1 hla_1); try (refine keepc hba (w.heap.size + 1 + 1) ?_ ?_; (focus (first | omega | (simp <;> omega))); intro hca_2 hfa_2 hla_2)
    go_wp2
    go_ret2
    exact ⟨_, _, _, rfl, Own.nil _ _, (by repeat' (first | (with_reducible exact Below.refl _ _) | (with_reducible assumption) | (with_reducible refine Below.alloc ?_ ?_ _) | (with_reducible refine Below.setCell ?_ ?_ _) | (with_reducible refine Below.drew ?_) | (with_reducible refine below_drewN ?_ _) | (apply bthen2; (with_reducible assumption)) | go_size))⟩
  · rw [g] at HG
    have HD := Lib.hid (fun w => badPrimes_any D A C g w)
    simp only [Bool.true_and, if_true]
    generalize bpL D A C = L at *
    generalize bpOk D A C = K at *
    clear g
    go_enter Try.func13, Try.ntmps13
    go_wp2_with fail
    refine (HG.out _).mono ?_
    rintro e wa ⟨rfl, hba⟩; have hza := hba.size; (try simp only [World.size_alloc, World.size_setCell, World.size_drew, World.heap_drewN] at hza); try (refine keepc hba (w.heap.size) ?_ ?_; (focus (first | omega | (simp <;> omega))); intro hca_0 hfa_0 hla_0); try (refine keepc hba (w.heap.size + 1) ?_ ?_; (focus (first | omega | (simp <;> omega))); intro hca_1 hfa_1 hla_1); try (refine keepc hba (w.heap.size + 1 + 1) ?_ ?_; (focus (first | omega | (simp <;> omega))); intro hca_2 hfa_2 hla_2)
    go_wp2_with fail
    refine (HD.out _).mono ?_
    rintro e wb ⟨a3, l3, c3, rfl, ho, hbb⟩
    go_wp2_with fail
    go_ret2
    exact ⟨_, _, _, rfl, ho.mono (by omega), (by repeat' (first | (with_reducible exact Below.refl _ _) | (with_reducible assumption) | (with_reducible refine Below.alloc ?_ ?_ _) | (with_reducible refine Below.setCell ?_ ?_ _) | (with_reducible refine Below.drew ?_) | (with_reducible refine below_drewN ?_ _) | (apply bthen2; (with_reducible assumption)) | go_size))⟩
set_option maxHeartbeats 1000000 in
theorem sBadForQuartic_any (D A C : Int) (w : World) : Calls Try.prog 11 #[.agg #[.int .i64 D, .int .i64 A, .int .i64 C]] w (GivesIB (bqR D A C) (bqOk D A C) w) := by
  have HG := Lib.hid (fun w => loGood_any D A C w)
  unfold bqR bqOk
  cases g : isQ D A C
  · rw [g] at HG
    simp only [Bool.false_and, Bool.false_eq_true, if_false]
    go_enter Try.func11, Try.ntmps11
    go_wp2_with fail
    refine (HG.out _).mono ?_
    rintro e wa ⟨rfl, hba⟩; have hza := hba.size; (try simp only [World.size_alloc, World.size_setCell, World.size_drew, World.heap_drewN] at hza); try (refine keepc hba (w.heap.size) ?_ ?_; (focus (first | omega | (simp <;> omega))); intro hca_0 hfa_0 hla_0); try (refine keepc hba (w.heap.size + 1) ?_ ?_; (focus (first | omega | (simp <;> omega))); intro hca_1 hfa_1 hla_1); try (refine keepc hba (w.heap.size + 1 + 1) ?_ ?_; (focus (first | omega | (simp <;> omega))); intro hca_2 hfa_2 hla_2)
    go_wp2
    go_ret2
    exact ⟨_, _, _, rfl, Own.nil _ _, (by repeat' (first | (with_reducible exact Below.refl _ _) | (with_reducible assumption) | (with_reducible refine Below.alloc ?_ ?_ _) | (with_reducible refine Below.setCell ?_ ?_ _) | (with_reducible refine Below.drew ?_) | (with_reducible refine below_drewN ?_ _) | (apply bthen2; (with_reducible assumption)) | go_size))⟩
  · rw [g] at HG
    have HD := Lib.hid (fun w => loBad_any D A C g w)
    simp only [Bool.true_and, if_true]
    generalize bpL D A C = L at *
    generalize bpOk D A C = K at *
    clear g
    go_enter Try.func11, Try.ntmps11
    go_wp2_with fail
    refine (HG.out _).mono ?_
    rintro e wa ⟨rfl, hba⟩; have hza := hba.size; (try simp only [World.size_alloc, World.size_setCell, World.size_drew, World.heap_drewN] at hza); try (refine keepc hba (w.heap.size) ?_ ?_; (focus (first | omega | (simp <;> omega))); intro hca_0 hfa_0 hla_0); try (refine keepc hba (w.heap.size + 1) ?_ ?_; (focus (first | omega | (simp <;> omega))); intro hca_1 hfa_1 hla_1); try (refine keepc hba (w.heap.size + 1 + 1) ?_ ?_; (focus (first | omega | (simp <;> omega))); intro hca_2 hfa_2 hla_2)
    go_wp2_with fail
    refine (HD.out _).mono ?_
    rintro e wb ⟨a3, l3, c3, rfl, ho, hbb⟩
    go_wp2_with fail
    go_ret2
    exact ⟨_, _, _, rfl, ho.mono (by omega), (by repeat' (first | (with_reducible exact Below.refl _ _) | (with_reducible assumption) | (with_reducible refine Below.alloc ?_ ?_ _) | (with_reducible refine Below.setCell ?_ ?_ _) | (with_reducible refine Below.drew ?_) | (with_reducible refine below_drewN ?_ _) | (apply bthen2; (with_reducible assumption)) | go_size))⟩

set_option maxRecDepth 100000 in
set_option maxHeartbeats 2000000 in
theorem walk_FnExactBadForQuartic (D A C : Int) (w : World) (_w0 : (Lit.int .i64 D).wf = true) (_w1 : (Lit.int .i64 A).wf = true) (_w2 : (Lit.int .i64 C).wf = true) : Calls Try.prog 3 #[.agg #[.int .i64 D, .int .i64 A, .int .i64 C]] w (Gives (.bool true) w) := by
  have HS := Lib.hid (fun w => sBadForQuartic_any D A C w)
  have HI := Lib.hid (fun w => BadForQuartic_any D A C w)
  have hlen : (bqR D A C).length ≤ 400000 := bqR_len D A C
  generalize bqR D A C = R at *
  generalize bqOk D A C = ok at *
  go_enter Try.func3, Try.ntmps3
  go_wp2_with fail
  (refine (toQuartic_any' _ _ _ _).mono ?_; rintro e wa ⟨rfl, hba⟩; have hza := hba.size; (try simp only [World.size_alloc, World.size_setCell, World.size_drew, World.heap_drewN] at hza); try (refine keepc hba (w.heap.size) ?_ ?_; (focus (first | omega | (simp <;> omega))); intro hca_0 hfa_0 hla_0); try (refine keepc hba (w.heap.size + 1) ?_ ?_; (focus (first | omega | (simp <;> omega))); intro hca_1 hfa_1 hla_1); try (refine keepc hba (w.heap.size + 1 + 1) ?_ ?_; (focus (first | omega | (simp <;> omega))); intro hca_2 hfa_2 hla_2))
  go_wp2_with fail
  refine (HS.out _).mono ?_; rintro e wb ⟨sa, sl, sc, rfl, ownb, hbb⟩
  have hzb := hbb.size; (try simp only [World.size_alloc, World.size_setCell, World.size_drew, World.heap_drewN] at hzb); try (refine keepc hbb (w.heap.size) ?_ ?_; (focus (first | omega | (simp <;> omega))); intro hcb_0 hfb_0 hlb_0); try (refine keepc hbb (w.heap.size + 1) ?_ ?_; (focus (first | omega | (simp <;> omega))); intro hcb_1 hfb_1 hlb_1); try (refine keepc hbb (w.heap.size + 1 + 1) ?_ ?_; (focus (first | omega | (simp <;> omega))); intro hcb_2 hfb_2 hlb_2)
  go_wp2_with fail
  (refine (toQuartic_any' _ _ _ _).mono ?_; rintro e wc ⟨rfl, hbc⟩; have hzc := hbc.size; (try simp only [World.size_alloc, World.size_setCell, World.size_drew, World.heap_drewN] at hzc); try (refine keepc hbc (w.heap.size) ?_ ?_; (focus (first | omega | (simp <;> omega))); intro hcc_0 hfc_0 hlc_0); try (refine keepc hbc (w.heap.size + 1) ?_ ?_; (focus (first | omega | (simp <;> omega))); intro hcc_1 hfc_1 hlc_1); try (refine keepc hbc (w.heap.size + 1 + 1) ?_ ?_; (focus (first | omega | (simp <;> omega))); intro hcc_2 hfc_2 hlc_2))
  go_wp2_with fail
  refine (HI.out _).mono ?_; rintro e wd ⟨ga, gl, gc, rfl, ownd, hbd⟩
  have hzd := hbd.size; (try simp only [World.size_alloc, World.size_setCell, World.size_drew, World.heap_drewN] at hzd); try (refine keepc hbd (w.heap.size) ?_ ?_; (focus (first | omega | (simp <;> omega))); intro hcd_0 hfd_0 hld_0); try (refine keepc hbd (w.heap.size + 1) ?_ ?_; (focus (first | omega | (simp <;> omega))); intro hcd_1 hfd_1 hld_1); try (refine keepc hbd (w.heap.size + 1 + 1) ?_ ?_; (focus (first | omega | (simp <;> omega))); intro hcd_2 hfd_2 hld_2)
  go_wp2_with fail
  refine (eqIntS_same _ _ R _ ?_ ?_).mono ?_
  · refine Ints.below ownd.ints ?_; repeat' (first | (with_reducible exact Below.refl _ _) | (with_reducible assumption) | (with_reducible refine Below.alloc ?_ ?_ _) | (with_reducible refine Below.setCell ?_ ?_ _) | (with_reducible refine Below.drew ?_) | (with_reducible refine below_drewN ?_ _) | (apply bthen2; (with_reducible assumption)) | go_size)
  · refine Ints.below ownb.ints ?_; repeat' (first | (with_reducible exact Below.refl _ _) | (with_reducible assumption) | (with_reducible refine Below.alloc ?_ ?_ _) | (with_reducible refine Below.setCell ?_ ?_ _) | (with_reducible refine Below.drew ?_) | (with_reducible refine below_drewN ?_ _) | (apply bthen2; (with_reducible assumption)) | go_size)
  rintro e we ⟨rfl, hbe⟩
  have hze := hbe.size; (try simp only [World.size_alloc, World.size_setCell, World.size_drew, World.heap_drewN] at hze); try (refine keepc hbe (w.heap.size) ?_ ?_; (focus (first | omega | (simp <;> omega))); intro hce_0 hfe_0 hle_0); try (refine keepc hbe (w.heap.size + 1) ?_ ?_; (focus (first | omega | (simp <;> omega))); intro hce_1 hfe_1 hle_1); try (refine keepc hbe (w.heap.size + 1 + 1) ?_ ?_; (focus (first | omega | (simp <;> omega))); intro hce_2 hfe_2 hle_2)
  have owne := ownd.below hbe
  go_wp2_with fail
  refine (markIntS_any wc.heap.size _ R 1 _ ?_ (by omega) (by omega)).mono ?_
  · exact owne
  rintro e wf ⟨rfl, ownf, hon⟩
  have hbf := mark_belowI ownd hbd hbe hon
  have hzf := hbf.size; (try simp only [World.size_alloc, World.size_setCell, World.size_drew, World.heap_drewN] at hzf); try (refine keepc hbf (w.heap.size) ?_ ?_; (focus (first | omega | (simp <;> omega))); intro hcf_0 hff_0 hlf_0); try (refine keepc hbf (w.heap.size + 1) ?_ ?_; (focus (first | omega | (simp <;> omega))); intro hcf_1 hff_1 hlf_1); try (refine keepc hbf (w.heap.size + 1 + 1) ?_ ?_; (focus (first | omega | (simp <;> omega))); intro hcf_2 hff_2 hlf_2)
  go_wp2_with fail
  refine (heldIntS_any _ R.length 1 _ ?_ (by omega) (by omega)).mono ?_
  · exact ownf.ints
  rintro e wf' ⟨rfl, rfl⟩
  go_wp2_with fail
  (refine (toQuartic_any' _ _ _ _).mono ?_; rintro e wg ⟨rfl, hbg⟩; have hzg := hbg.size; (try simp only [World.size_alloc, World.size_setCell, World.size_drew, World.heap_drewN] at hzg); try (refine keepc hbg (w.heap.size) ?_ ?_; (focus (first | omega | (simp <;> omega))); intro hcg_0 hfg_0 hlg_0); try (refine keepc hbg (w.heap.size + 1) ?_ ?_; (focus (first | omega | (simp <;> omega))); intro hcg_1 hfg_1 hlg_1); try (refine keepc hbg (w.heap.size + 1 + 1) ?_ ?_; (focus (first | omega | (simp <;> omega))); intro hcg_2 hfg_2 hlg_2))
  go_wp2_with fail
  refine (HI.out _).mono ?_; rintro e wh ⟨ha, hl, hc, rfl, ownh, hbh⟩
  have hzh := hbh.size; (try simp only [World.size_alloc, World.size_setCell, World.size_drew, World.heap_drewN] at hzh); try (refine keepc hbh (w.heap.size) ?_ ?_; (focus (first | omega | (simp <;> omega))); intro hch_0 hfh_0 hlh_0); try (refine keepc hbh (w.heap.size + 1) ?_ ?_; (focus (first | omega | (simp <;> omega))); intro hch_1 hfh_1 hlh_1); try (refine keepc hbh (w.heap.size + 1 + 1) ?_ ?_; (focus (first | omega | (simp <;> omega))); intro hch_2 hfh_2 hlh_2)
  go_wp2_with fail
  refine (eqIntS_same _ _ R _ ?_ ?_).mono ?_
  · refine Ints.below ownh.ints ?_; repeat' (first | (with_reducible exact Below.refl _ _) | (with_reducible assumption) | (with_reducible refine Below.alloc ?_ ?_ _) | (with_reducible refine Below.setCell ?_ ?_ _) | (with_reducible refine Below.drew ?_) | (with_reducible refine below_drewN ?_ _) | (apply bthen2; (with_reducible assumption)) | go_size)
  · refine Ints.below ownb.ints ?_; repeat' (first | (with_reducible exact Below.refl _ _) | (with_reducible assumption) | (with_reducible refine Below.alloc ?_ ?_ _) | (with_reducible refine Below.setCell ?_ ?_ _) | (with_reducible refine Below.drew ?_) | (with_reducible refine below_drewN ?_ _) | (apply bthen2; (with_reducible assumption)) | go_size)
  rintro e wi ⟨rfl, hbi⟩
  have hzi := hbi.size; (try simp only [World.size_alloc, World.size_setCell, World.size_drew, World.heap_drewN] at hzi); try (refine keepc hbi (w.heap.size) ?_ ?_; (focus (first | omega | (simp <;> omega))); intro hci_0 hfi_0 hli_0); try (refine keepc hbi (w.heap.size + 1) ?_ ?_; (focus (first | omega | (simp <;> omega))); intro hci_1 hfi_1 hli_1); try (refine keepc hbi (w.heap.size + 1 + 1) ?_ ?_; (focus (first | omega | (simp <;> omega))); intro hci_2 hfi_2 hli_2)
  go_wp2_with fail
  refine (heldIntS_any _ R.length 1 _ ?_ (by omega) (by omega)).mono ?_
  · refine Ints.below ownf.ints ?_; repeat' (first | (with_reducible exact Below.refl _ _) | (with_reducible assumption) | (with_reducible refine Below.alloc ?_ ?_ _) | (with_reducible refine Below.setCell ?_ ?_ _) | (with_reducible refine Below.drew ?_) | (with_reducible refine below_drewN ?_ _) | (apply bthen2; (with_reducible assumption)) | go_size)
  rintro e wi' ⟨rfl, rfl⟩
  go_wp2
  go_ret
  exact gives rfl (by repeat' (first | (with_reducible exact Below.refl _ _) | (with_reducible assumption) | (with_reducible refine Below.alloc ?_ ?_ _) | (with_reducible refine Below.setCell ?_ ?_ _) | (with_reducible refine Below.drew ?_) | (with_reducible refine below_drewN ?_ _) | (apply bthen2; (with_reducible assumption)) | go_size))

end Go.Proofs.Ytldmledjdcphmaa
