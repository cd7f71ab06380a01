import Derived.Test.YtldmledjdcphmaaDvs
import Derived.Test.YtldmledjdcphmaaOwnX
import Derived.Test.YtldmledjdcphmaaOwnL
import Derived.Test.YtldmledjdcphmaaShelf
import Derived.Lib.OwnBridge
import Derived.Sort.OwnSortedInts
set_option linter.unusedSimpArgs false
set_option linter.unusedVariables false
namespace Go.Proofs.Ytldmledjdcphmaa
open Go.RowKit
open Go.Sort (Holds grow putRow)
/-! ### sorting in place; putting into a sorted list -/

theorem Sort_own (B : Nat) (a : Option Addr) (len cap : Nat) (xs : List Int) (w : World) (h : Own w B (.slice a len cap) xs) (hlen : xs.length ≤ 1000000000000) :
    Calls Try.prog 66 #[.slice a len cap] w (fun e w' => e = .returned (.tuple #[]) ∧ Own w' B (.slice a len cap) (xs.mergeSort fun x y => decide (x ≤ y)) ∧ Only (Value.slice a len cap).ownBlock w w') := by
  have hh := h
  obtain ⟨h1, h2⟩ := hh
  rcases h2 with ⟨hv, hn⟩ | ⟨g, cap', cur, hv, hg, hb, hc, hm, hs, ht⟩
  · obtain ⟨rfl, rfl, rfl⟩ := by simpa using hv
    have hx : xs = [] := List.length_eq_zero_iff.1 hn
    subst hx
    refine (_root_.Go.Proofs.Try.slices_Sort_int_none none 0 w).mono ?_
    rintro e w' ⟨rfl, rfl⟩
    exact ⟨rfl, by simpa using h, Only.refl _ _⟩
  · obtain ⟨rfl, rfl, rfl⟩ := by simpa using hv
    have hgl : g < w.heap.size := by
      rcases Nat.lt_or_ge g w.heap.size with q | q
      · exact q
      · rw [Array.getElem?_eq_none q] at hb; cases hb
    have hH : Holds (Value.int .i64) w g 0 xs.toArray := fun j hj => by
      have hj' : j < xs.length := by simpa using hj
      have c1 := World.ownsRow.cellAt h j (by omega)
      rw [List.getElem?_map, List.getElem?_eq_getElem hj'] at c1
      refine ⟨by rw [Nat.zero_add]; simpa [getElem!_pos, hj'] using c1, ?_⟩
      have := World.ownsRow.frozenAt h j
      simpa using this
    refine (_root_.Go.Proofs.Try.slices_Sort_int g 0 cap xs w hH hgl (by unfold maxLen at hm; omega)).mono ?_
    rintro e w' ⟨rfl, n, os, rfl⟩
    have hl : (xs.mergeSort fun x y => decide (x ≤ y)).length = xs.length := List.length_mergeSort _
    have hO := ownsRow_sortedI (n := n) (os := os) (ts := xs.mergeSort fun x y => decide (x ≤ y)) hl hg hb hc hm hs
    refine ⟨rfl, ?_, ?_⟩
    · unfold Own; rw [hl]; exact hO
    · exact Only.of_grown (grownBy_sortedI _)
theorem sort_perm (xs : List Int) : (xs.mergeSort fun x y => decide (x ≤ y)).Perm xs := List.mergeSort_perm _ _
theorem sort_le (xs : List Int) : (xs.mergeSort fun x y => decide (x ≤ y)).Pairwise (· ≤ ·) := by
  have := List.pairwise_mergeSort (le := fun x y : Int => decide (x ≤ y)) (by intro a b c; simp; omega) (by intro a b; simp; omega) xs
  exact this.imp (by intro a b h; simpa using h)
/-- append(out, ys...) for a slice of the call's own. -/
theorem wpl_appS {ops : Array Oper} {rest : List Oper} {o : Oper} {a : Act} {Q : Exit → Act → World → Prop} {W w : World} (hgd : o.guard = none) (s x : Operand)
    (ho : o.op = .call { callee := .builtin .append, args := #[s, x], argTypes := #[24, 24] }) (B : Nat) (v : Value) (xs : List Int) (hs : a.eval s = v) (hown : Own w B v xs)
    (b off m c : Nat) (ys : List Int) (hx : a.eval x = .slice (some ⟨b, off, none⟩) m c) (hy : ys.length = m) (hc : ∀ i, i < m → w.cell? ⟨b, off + i, none⟩ = some (.int .i64 (ys.getD i 0))) (hlen : xs.length + m ≤ 1000000000000) (hb : Below B W w) (hB : B ≤ w.heap.size)
    (h : ∀ a' cap' w', Own w' B (.slice a' (xs.length + m) cap') (xs ++ ys) → Below B W w' → B ≤ w'.heap.size → wpList Try.prog ops Q rest (a.put o.dst (.slice a' (xs.length + m) cap')) w') : wpList Try.prog ops Q (o :: rest) a w := by
  obtain ⟨i0, hi, hz0, hz1, hz2⟩ := info_parts infoInt
  refine wpList_append_own w hgd s x 24 ho B 3 i0 (.int .i64 0) 1 8 Try.underlying24 hi hz0 hz1 hz2 rfl (by decide) v xs.length (xs.map (Value.int .i64)) hs hown ⟨b, off, none⟩ m c (ys.map (Value.int .i64)) hx (by simp [hy]) ?_ ?_ (by unfold maxLen; omega) (by omega) hB ?_
  · intro j u hj
    rw [List.getElem?_map] at hj
    obtain ⟨y, hy2, rfl⟩ := Option.map_eq_some_iff.mp hj
    obtain ⟨hj2, rfl⟩ := List.getElem?_eq_some_iff.mp hy2
    have := hc j (by omega)
    simp only [List.getD, List.getElem?_eq_getElem hj2, Option.getD_some] at this
    cases j <;> simpa [Addr.add] using this
  · intro u hu
    obtain ⟨y, -, rfl⟩ := List.mem_map.mp hu
    rfl
  · intro v' w' h1 h2 h3
    have ho' : Own w' B v' (xs ++ ys) := by
      unfold Own
      simpa [hy] using h1
    obtain ⟨a', cap', rfl⟩ := ho'.slice
    simp only [List.length_append, hy] at ho' ⊢
    refine h a' cap' w' ho' (hb.grown h2 hB ?_) (Nat.le_trans hB h2.size)
    intro k hk
    exact (_root_.Go.World.ownsRow.lt hown k hk).1

theorem putL_at : ∀ (xs : List Int) (n : Int) (k : Nat), (∀ i, i < k → xs.getD i 0 < n) → k ≤ xs.length → putL xs n = xs.take k ++ putL (xs.drop k) n
  | xs, n, 0, _, _ => by simp
  | [], n, k + 1, _, h => by simp at h
  | x :: xs, n, k + 1, h, hk => by
    have h0 := h 0 (by omega)
    simp only [List.getD_cons_zero] at h0
    have ih := putL_at xs n k (fun i hi => by have := h (i + 1) (by omega); simpa using this) (by simpa using hk)
    rw [putL, if_pos h0, ih]; simp
theorem putL_end {xs : List Int} {n : Int} (h : ∀ i, i < xs.length → xs.getD i 0 < n) : putL xs n = xs ++ [n] := by
  rw [putL_at xs n xs.length h (Nat.le_refl _)]; simp [putL]
theorem putL_is {xs : List Int} {n : Int} {k : Nat} (h : ∀ i, i < k → xs.getD i 0 < n) (hk : k < xs.length) (he : xs.getD k 0 = n) : putL xs n = xs := by
  rw [putL_at xs n k h (by omega), List.drop_eq_getElem_cons hk]
  have e : xs[k] = n := by simpa [List.getD, List.getElem?_eq_getElem hk] using he
  rw [putL, if_neg (by omega), if_pos e, ← List.drop_eq_getElem_cons hk, List.take_append_drop]
theorem putL_in {xs : List Int} {n : Int} {k : Nat} (h : ∀ i, i < k → xs.getD i 0 < n) (hk : k < xs.length) (he : n < xs.getD k 0) : putL xs n = (xs.take k ++ [n]) ++ xs.drop k := by
  rw [putL_at xs n k h (by omega), List.drop_eq_getElem_cons hk]
  have e : n < xs[k] := by simpa [List.getD, List.getElem?_eq_getElem hk] using he
  rw [putL, if_neg (by omega), if_neg (by omega)]; simp

def GivesB (B : Nat) (xs : List Int) (w : World) (e : Ending) (w' : World) : Prop := ∃ a l c, e = .returned (.slice a l c) ∧ Own w' B (.slice a l c) xs ∧ Below w.heap.size w w'
theorem Own.ptr {w : World} {B : Nat} {a : Option Addr} {len cap : Nat} {xs : List Int} (h : Own w B (.slice a len cap) xs) (h0 : 0 < xs.length) : ∃ g, a = some ⟨g, 0, none⟩ ∧ len = xs.length ∧ g < w.heap.size ∧ len ≤ cap ∧ ∀ i, i < xs.length → w.cell? ⟨g, i, none⟩ = some (.int .i64 (xs.getD i 0)) := by
  have hcap := h.ints
  rcases h.2 with ⟨hv, hn⟩ | ⟨g, cap', cur, hv, hg, hb, hc, hm, hs, ht⟩
  · omega
  · obtain ⟨rfl, rfl, rfl⟩ := by simpa using hv
    obtain ⟨h1, h2, h3⟩ := hcap.cell
    refine ⟨g, rfl, rfl, ?_, hc, fun i hi => ?_⟩
    · rcases Nat.lt_or_ge g w.heap.size with q | q
      · exact q
      · rw [Array.getElem?_eq_none q] at hb; cases hb
    · obtain ⟨b, off, q1, q2, q3⟩ := h3 i hi
      cases q1
      simpa using q3
set_option maxHeartbeats 2000000 in
theorem l1Put_any (B : Nat) (a : Option Addr) (len cap : Nat) (xs : List Int) (n : Int) (w : World) (h : Own w B (.slice a len cap) xs) (h0 : 0 < xs.length) (hl : xs.length ≤ 1000000) (hB : B ≤ w.heap.size) :
    Calls Try.prog 64 #[.slice a len cap, .int .i64 n] w (GivesB B (putL xs n) w) := by
  obtain ⟨g, rfl, rfl, hg, hcap, hcell⟩ := h.ptr h0
  have HC := Lib.hid hcell
  have HO := Lib.hid h
  have hmade : Own (w.alloc (Obj.cells #[] 3)) w.heap.size (.slice (some ⟨w.heap.size, 0, none⟩) 0 0) [] := World.ownsRow_made w #[] 0 (Nat.le_refl _) (by decide) rfl
  have HM := Lib.hid hmade
  have HE := Lib.hid (@putL_end xs n)
  have HI := Lib.hid (fun k => @putL_is xs n k)
  have HN := Lib.hid (fun k => @putL_in xs n k)
  obtain ⟨R, hR⟩ : ∃ R, putL xs n = R := ⟨_, rfl⟩
  rw [hR] at HE HI HN ⊢
  have hT := Lib.hid (fun k => List.length_take (i := k) (l := xs))
  have hD := Lib.hid (fun k => List.length_drop (i := k) (l := xs))
  have hTg := Lib.hid (fun (k i : Nat) (hi : i < k) => show (xs.take k).getD i 0 = xs.getD i 0 by simp [List.getD, List.getElem?_take, hi])
  have hDg := Lib.hid (fun (k i : Nat) => show (xs.drop k).getD i 0 = xs.getD (k + i) 0 by simp [List.getD, List.getElem?_drop])
  obtain ⟨L, hL⟩ : ∃ L, xs.length = L := ⟨_, rfl⟩
  have hXL := Lib.hid hL
  rw [hL] at h0 hl hcap HC HE HI HN hT hD HO ⊢
  clear h hcell hmade hR hL
  go_enter Try.func64, Try.ntmps64
  go_wp2_with fail
  go_loop [5] (fun v5 => ∃ k : Nat, k ≤ L ∧ v5 = .int .i64 k ∧ ∀ i, i < k → xs.getD i 0 < n) (fun v5 => L - (intOf v5).toNat)
  case atStart => exact ⟨0, by omega, rfl, fun i hi => by omega⟩
  case round =>
    obtain ⟨k, hk, rfl, hlo⟩ := hrel
    have HLO := Lib.hid hlo
    clear hlo
    by_cases hlt : k < L
    · have c0 := HC.out k hlt
      by_cases hx : xs.getD k 0 < n
      · have hn : ∀ i, i < k + 1 → xs.getD i 0 < n := fun i hi => by
          by_cases q : i = k
          · subst q; exact hx
          · exact HLO.out i (by omega)
        have HNN := Lib.hid hn; clear hn
        generalize xs.getD k 0 = X at *
        go_wp2
        go_round
        case rel => exact ⟨k + 1, by omega, by go_num, HNN.out⟩
        case measure => first | (simp [intOf]; done) | (simp [intOf]; omega)
      · by_cases he : xs.getD k 0 = n
        · have e2 := HI.out k HLO.out hlt he
          have E2 := Lib.hid e2
          have hx2 : (n == n) = true := by simp
          rw [he] at c0
          clear hx he e2
          go_wp2
          go_ret
          exact ⟨_, _, _, rfl, by rw [E2.out]; exact HO.out, (by repeat' (first | (with_reducible exact Below.refl _ _) | (with_reducible assumption) | (with_reducible refine Below.alloc ?_ ?_ _) | (with_reducible refine Below.setCell ?_ ?_ _) | (with_reducible refine Below.drew ?_) | (with_reducible refine below_drewN ?_ _) | (apply bthen2; (with_reducible assumption)) | go_size))⟩
        · have hgt : n < xs.getD k 0 := by omega
          have e2 := HN.out k HLO.out hlt hgt
          have E2 := Lib.hid e2
          have hne : (xs.getD k 0 == n) = false := beq_eq_false_iff_ne.2 he
          have hT1 := hT.out k
          have hD1 := hD.out k
          have HTG := Lib.hid (fun i hi => hTg.out k i hi)
          have HDG := Lib.hid (fun i => hDg.out k i)
          have HCC := Lib.hid HC.out
          generalize xs.getD k 0 = X at *
          clear hx he e2 HE HI HN hT hD hTg hDg
          generalize xs.take k = P at *
          generalize xs.drop k = S at *
          have hmin : min k L = k := by omega
          rw [hmin] at hT1
          clear hmin
          go_wp2_with (first | (at_builtin; refine wpl_appS (W := w) rfl _ _ rfl w.heap.size _ [] rfl HM.out g 0 k cap P rfl hT1 (fun i hi => ?_) (by simp; omega) (Below.alloc (Below.refl _ _) (Nat.le_refl _) _) (by simp) ?_; (focus (rw [Nat.zero_add, HTG.out i hi]; exact ((Below.alloc (Below.refl w.heap.size w) (Nat.le_refl _) _).cell (p := ⟨g, i, none⟩) hg).trans (HCC.out i (by omega)))); intro a1 cc1 w1 hown1 hbw1 hsz1; have hownA : Own w1 w.heap.size (.slice a1 k cc1) P := by simpa using hown1) | (at_builtin; refine wpl_app (W := w) rfl _ _ rfl w.heap.size _ P rfl (Own.alloc hownA _) ⟨w1.heap.size, 0, none⟩ 1 n rfl (by simp) (by omega) (Below.alloc hbw1 hsz1 _) (by simp; omega) ?_; intro a2 cc2 w2 hown2 hbw2 hsz2; have hownB : Own w2 w.heap.size (.slice a2 (k + 1) cc2) (P ++ [n]) := by simpa [hT1] using hown2) | (at_builtin; refine wpl_appS (W := w) rfl _ _ rfl w.heap.size _ (P ++ [n]) rfl hownB g k (L - k) (cap - k) S rfl hD1 (fun i hi => ?_) (by simp; omega) hbw2 hsz2 ?_; (focus (rw [HDG.out i]; exact (hbw2.cell (p := ⟨g, k + i, none⟩) hg).trans (HCC.out (k + i) (by omega)))); intro a3 cc3 w3 hown3 hbw3 hsz3))
          go_ret
          exact ⟨_, _, _, rfl, by rw [E2.out]; simpa [hT1] using hown3.mono hB, hbw3⟩
    · have ek : k = L := by omega
      subst ek
      have e2 := HE.out HLO.out
      have E2 := Lib.hid e2
      have hxl := hXL.out
      clear hlt e2 HE HI HN hT hD hTg hDg
      by_cases hck : k = cap
      · subst hck
        go_wp2_with (first | (at_builtin; refine wpl_appS (W := w) rfl _ _ rfl w.heap.size _ [] rfl HM.out g 0 k k xs rfl hxl (fun i hi => ?_) (by simp; omega) (Below.alloc (Below.refl _ _) (Nat.le_refl _) _) (by simp) ?_; (focus (rw [Nat.zero_add]; exact ((Below.alloc (Below.refl w.heap.size w) (Nat.le_refl _) _).cell (p := ⟨g, i, none⟩) hg).trans (HC.out i (by omega)))); intro a1 cc1 w1 hown1 hbw1 hsz1; have hownA : Own w1 w.heap.size (.slice a1 k cc1) xs := by simpa using hown1) | (at_builtin; refine wpl_app (W := w) rfl _ _ rfl w.heap.size _ xs rfl (Own.alloc hownA _) ⟨w1.heap.size, 0, none⟩ 1 n rfl (by simp) (by omega) (Below.alloc hbw1 hsz1 _) (by simp; omega) ?_; intro a2 cc2 w2 hown2 hbw2 hsz2; have hownB : Own w2 w.heap.size (.slice a2 (k + 1) cc2) (xs ++ [n]) := by simpa [hxl] using hown2) | (at_builtin; refine wpl_appS (W := w) rfl _ _ rfl w.heap.size _ (xs ++ [n]) rfl hownB _ _ 0 _ [] rfl rfl (fun i hi => absurd hi (by omega)) (by simp; omega) hbw2 hsz2 ?_; intro a3 cc3 w3 hown3 hbw3 hsz3))
        go_ret
        exact ⟨_, _, _, rfl, by rw [E2.out]; simpa [hxl] using hown3.mono hB, hbw3⟩
      · have hck2 : ¬ cap = k := fun e => hck e.symm
        go_wp2_with (first | (at_builtin; refine wpl_appS (W := w) rfl _ _ rfl w.heap.size _ [] rfl HM.out g 0 k cap xs rfl hxl (fun i hi => ?_) (by simp; omega) (Below.alloc (Below.refl _ _) (Nat.le_refl _) _) (by simp) ?_; (focus (rw [Nat.zero_add]; exact ((Below.alloc (Below.refl w.heap.size w) (Nat.le_refl _) _).cell (p := ⟨g, i, none⟩) hg).trans (HC.out i (by omega)))); intro a1 cc1 w1 hown1 hbw1 hsz1; have hownA : Own w1 w.heap.size (.slice a1 k cc1) xs := by simpa using hown1) | (at_builtin; refine wpl_app (W := w) rfl _ _ rfl w.heap.size _ xs rfl (Own.alloc hownA _) ⟨w1.heap.size, 0, none⟩ 1 n rfl (by simp) (by omega) (Below.alloc hbw1 hsz1 _) (by simp; omega) ?_; intro a2 cc2 w2 hown2 hbw2 hsz2; have hownB : Own w2 w.heap.size (.slice a2 (k + 1) cc2) (xs ++ [n]) := by simpa [hxl] using hown2) | (at_builtin; refine wpl_appS (W := w) rfl _ _ rfl w.heap.size _ (xs ++ [n]) rfl hownB _ _ 0 _ [] rfl rfl (fun i hi => absurd hi (by omega)) (by simp; omega) hbw2 hsz2 ?_; intro a3 cc3 w3 hown3 hbw3 hsz3))
        go_ret
        exact ⟨_, _, _, rfl, by rw [E2.out]; simpa [hxl] using hown3.mono hB, hbw3⟩

end Go.Proofs.Ytldmledjdcphmaa
