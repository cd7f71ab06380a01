import Derived.Test.YtjgdajeoeagggaaGreatYK1
import Derived.Test.YtjgdajeoeagggaaGreatYShelf
import Derived.Laws.AppendOwnNone
import Derived.Lib.BitFns
set_option linter.unusedSimpArgs false
set_option linter.unusedVariables false
namespace Go.Proofs.YtjgdajeoeagggaaGreat
open Go.RowKit
/-! ### making wholes -/
/-- The count of digits without those last ones that are 0. -/
def tz (xs : List Int) : Nat → Nat
  | 0 => 0
  | n + 1 => if xs.getD n 0 = 0 then tz xs n else n + 1
theorem tz_le (xs : List Int) : ∀ n, tz xs n ≤ n
  | 0 => Nat.le_refl _
  | n + 1 => by unfold tz; split; · exact Nat.le_succ_of_le (tz_le xs n)
                · exact Nat.le_refl _
def trim (xs : List Int) : List Int := xs.take (tz xs xs.length)
theorem tz_zero {xs : List Int} {n : Nat} (h : xs.getD n 0 = 0) : tz xs (n + 1) = tz xs n := by
  show (if xs.getD n 0 = 0 then tz xs n else n + 1) = _
  rw [if_pos h]
theorem tz_stop {xs : List Int} {n : Nat} (h : xs.getD n 0 ≠ 0) : tz xs (n + 1) = n + 1 := by
  show (if xs.getD n 0 = 0 then tz xs n else n + 1) = _
  rw [if_neg h]
theorem GivesW.of {neg : Bool} {xs : List Int} {w : World} {e : Ending} {w' : World} (a : Option Addr) (len cap : Nat) (h1 : e = .returned (.agg #[.bool neg, .slice a len cap])) (h2 : Own w' w.heap.size (.slice a len cap) xs) (h3 : Below w.heap.size w w') : GivesW neg xs w e w' := ⟨a, len, cap, h1, h2, h3⟩
theorem GivesW.cast {b b' : Bool} {xs xs' : List Int} {w : World} {e : Ending} {w' : World} (h1 : b = b') (h2 : xs = xs') (h : GivesW b xs w e w') : GivesW b' xs' w e w' := by subst h1; subst h2; exact h
theorem Ints.cap {w : World} {a : Option Addr} {len cap : Nat} {xs : List Int} (h : Ints w (.slice a len cap) xs) : len ≤ cap := by
  rcases h with ⟨a', cap', hs, rfl⟩ | ⟨b, off, len', cap', hs, hl, h0, hc, hm, hbl, hcell⟩
  · obtain ⟨rfl, rfl, rfl⟩ := by simpa using hs
    omega
  · obtain ⟨rfl, rfl, rfl⟩ := by simpa using hs
    exact hc
theorem Ints.take {w : World} {a : Option Addr} {len cap : Nat} {xs : List Int} (h : Ints w (.slice a len cap) xs) (n : Nat) (hn : n ≤ len) : Ints w (.slice a n cap) (xs.take n) := by
  rcases h with ⟨a', cap', hs, rfl⟩ | ⟨b, off, len', cap', hs, hl, h0, hc, hm, hbl, hcell⟩
  · obtain ⟨rfl, rfl, rfl⟩ := by simpa using hs
    have : n = 0 := by omega
    subst this
    exact .inl ⟨_, _, rfl, by simp⟩
  · obtain ⟨rfl, rfl, rfl⟩ := by simpa using hs
    by_cases h : n = 0
    · subst h; exact .inl ⟨_, _, rfl, by simp⟩
    · refine .inr ⟨b, off, n, cap, rfl, by simp; omega, by omega, by omega, hm, hbl, fun i hi => ?_⟩
      rw [hcell i (by omega)]
      simp [List.getD, List.getElem?_take, hi]
theorem clone_any (a : Option Addr) (len cap : Nat) (xs : List Int) (w : World) (hx : Ints w (.slice a len cap) xs) (hn : xs.length ≤ 1048576) : Calls Tryz.prog 124 #[.slice a len cap] w (GivesOwn xs w) := by
  rcases hx with ⟨a', cap', hs, rfl⟩ | ⟨b, off, len', cap', hs, hl, h0, hc, hm, hbl, hcell⟩
  · obtain ⟨rfl, rfl, rfl⟩ := by simpa using hs
    cases a with
    | none =>
      refine (_root_.Go.Proofs.Tryz.slices_Clone_int_nil 0 cap w).mono ?_
      rintro e w' ⟨rfl, rfl⟩
      exact ⟨_, _, _, rfl, Own.nil _ _, Below.refl _ _⟩
    | some ad =>
      refine (_root_.Go.Proofs.Tryz.slices_Clone_int_zero ad cap w).mono ?_
      rintro e w' ⟨v, rfl, h, -, hb⟩
      have ho : Own w' w.heap.size v [] := h
      obtain ⟨a1, c1, rfl⟩ := ho.slice
      exact ⟨_, _, _, rfl, ho, hb⟩
  · obtain ⟨rfl, rfl, rfl⟩ := by simpa using hs
    refine (_root_.Go.Proofs.Tryz.slices_Clone_int b off len cap xs w (by omega) (by omega) (fun j hj => hcell j (by omega))).mono ?_
    rintro e w' ⟨v, rfl, h, -, hb⟩
    rw [List.take_of_length_le (by omega), ← hl] at h
    have ho : Own w' w.heap.size v xs := h
    obtain ⟨a1, c1, rfl⟩ := ho.slice
    exact ⟨_, _, _, rfl, ho, hb⟩
theorem trimmed_any (neg : Bool) (a : Option Addr) (len cap : Nat) (xs : List Int) (w : World) (hx : Ints w (.slice a len cap) xs) (hn : xs.length ≤ 1048576) : Calls Tryz.prog 135 #[.bool neg, .slice a len cap] w (GivesW (neg && decide (0 < tz xs xs.length)) (trim xs) w) := by
  obtain ⟨h1, h2, h3⟩ := hx.cell
  have hcp := hx.cap
  have HX := Lib.hid hx
  have hT := tz_le xs xs.length
  have e0 : trim xs = xs.take (tz xs xs.length) := rfl
  rw [e0]
  have HC := Lib.hid h3
  have HT := Lib.hid (fun (n : Nat) h => @tz_zero xs n h)
  have HS := Lib.hid (fun (n : Nat) h => @tz_stop xs n h)
  generalize hR : tz xs xs.length = R at *
  rw [h1] at hR hT hn
  have HR := Lib.hid hR
  clear e0 hx h3 h1 hR
  go_enter Tryz.func135, Tryz.ntmps135
  go_wp2_with fail
  go_loop [1] (fun v1 => ∃ k : Nat, k ≤ len ∧ v1 = .slice a k cap ∧ tz xs k = R) (fun v1 => match v1 with | .slice _ k _ => k | _ => 0)
  case atStart => exact ⟨_, Nat.le_refl _, rfl, HR.out⟩
  case round =>
    obtain ⟨k, hk, rfl, hr⟩ := hrel
    cases k with
    | zero =>
      have : R = 0 := hr.symm
      subst this
      have HZ := Lib.hid (Ints.take HX.out 0 (by omega))
      rw [List.take_zero] at HZ
      clear HX HC HT HS HR
      cases neg
      all_goals
        go_wp2_with fail
        refine (clone_any _ _ _ [] _ ?_ (by simp)).mono ?_
        · refine Ints.below HZ.out ?_; repeat' (first | (with_reducible first | exact bq1 _ _ | assumption | refine bq2 ?_ ?_ _ | refine bq3 ?_ ?_ _ | refine bq4 ?_ | refine bq5 ?_ _) | (apply bthen2; (with_reducible assumption)) | go_size)
        rintro e w2 ⟨a2, len2, cap2, rfl, ho, hb2⟩
        have hz2 := hb2.size; (try simp only [wz1, wz2, wz3, wz4] at hz2); try (refine keepc hb2 (w.heap.size) ?_ ?_; (focus (first | omega | (simp <;> omega))); intro hc2_0 hf2_0 hl2_0); try (refine keepc hb2 (w.heap.size + 1) ?_ ?_; (focus (first | omega | (simp <;> omega))); intro hc2_1 hf2_1 hl2_1); try (refine keepc hb2 (w.heap.size + 1 + 1) ?_ ?_; (focus (first | omega | (simp <;> omega))); intro hc2_2 hf2_2 hl2_2)
        go_wp2_with fail
        refine bodyPost_ret (v := .agg #[.bool false, .slice a2 len2 cap2]) (by simp [results, Tryz.results135, go_sem, hc2_0, hl2_0]) rfl (GivesW.cast (b := false) (by simp) (by simp) ⟨_, _, _, rfl, ((ho.set (p := ⟨w.heap.size, 0, none⟩) (by simp) _).set (p := ⟨w.heap.size, 1, none⟩) (by simp) _).mono (by simp), gr⟩)
    | succ k =>
      obtain ⟨b, off, ha, hbl, c0⟩ := HC.out k (by omega)
      subst ha
      have c1 := (show Below w.heap.size w (w.alloc (Obj.cells #[.bool false, .slice none 0 0] 106)) from gr).cell (p := ⟨b, off + k, none⟩) hbl
      rw [c0] at c1
      have hcap : k + 1 ≤ cap := by omega
      by_cases h : xs.getD k 0 = 0
      · rw [HT.out k h] at hr
        generalize xs.getD k 0 = X at *
        subst h
        go_wp2_with fail
        go_round
        case rel => exact ⟨k, by omega, by go_num, hr⟩
        case measure => first | (simp; done) | (simp; omega)
      · rw [HS.out k h] at hr
        generalize xs.getD k 0 = X at *
        subst hr
        have HZ := Lib.hid (Ints.take HX.out (k + 1) (by omega))
        have hlz : (xs.take (k + 1)).length ≤ 1048576 := by rw [List.length_take]; omega
        generalize xs.take (k + 1) = zs at *
        clear HX HC HT HS HR
        cases neg
        case false =>
          go_wp2_with fail
          refine (clone_any _ _ _ zs _ ?_ hlz).mono ?_
          · refine Ints.below HZ.out ?_; repeat' (first | (with_reducible first | exact bq1 _ _ | assumption | refine bq2 ?_ ?_ _ | refine bq3 ?_ ?_ _ | refine bq4 ?_ | refine bq5 ?_ _) | (apply bthen2; (with_reducible assumption)) | go_size)
          rintro e w2 ⟨a2, len2, cap2, rfl, ho, hb2⟩
          have hz2 := hb2.size; (try simp only [wz1, wz2, wz3, wz4] at hz2); try (refine keepc hb2 (w.heap.size) ?_ ?_; (focus (first | omega | (simp <;> omega))); intro hc2_0 hf2_0 hl2_0); try (refine keepc hb2 (w.heap.size + 1) ?_ ?_; (focus (first | omega | (simp <;> omega))); intro hc2_1 hf2_1 hl2_1); try (refine keepc hb2 (w.heap.size + 1 + 1) ?_ ?_; (focus (first | omega | (simp <;> omega))); intro hc2_2 hf2_2 hl2_2)
          go_wp2_with fail
          refine bodyPost_ret (v := .agg #[.bool false, .slice a2 len2 cap2]) (by simp [results, Tryz.results135, go_sem, hc2_0, hl2_0]) rfl (GivesW.cast (b := false) (by simp) (by simp) ⟨_, _, _, rfl, ((ho.set (p := ⟨w.heap.size, 0, none⟩) (by simp) _).set (p := ⟨w.heap.size, 1, none⟩) (by simp) _).mono (by simp), gr⟩)
        case true =>
          go_wp2_with fail
          refine (clone_any _ _ _ zs _ ?_ hlz).mono ?_
          · refine Ints.below HZ.out ?_; repeat' (first | (with_reducible first | exact bq1 _ _ | assumption | refine bq2 ?_ ?_ _ | refine bq3 ?_ ?_ _ | refine bq4 ?_ | refine bq5 ?_ _) | (apply bthen2; (with_reducible assumption)) | go_size)
          rintro e w2 ⟨a2, len2, cap2, rfl, ho, hb2⟩
          have hz2 := hb2.size; (try simp only [wz1, wz2, wz3, wz4] at hz2); try (refine keepc hb2 (w.heap.size) ?_ ?_; (focus (first | omega | (simp <;> omega))); intro hc2_0 hf2_0 hl2_0); try (refine keepc hb2 (w.heap.size + 1) ?_ ?_; (focus (first | omega | (simp <;> omega))); intro hc2_1 hf2_1 hl2_1); try (refine keepc hb2 (w.heap.size + 1 + 1) ?_ ?_; (focus (first | omega | (simp <;> omega))); intro hc2_2 hf2_2 hl2_2)
          go_wp2_with fail
          refine bodyPost_ret (v := .agg #[.bool true, .slice a2 len2 cap2]) (by simp [results, Tryz.results135, go_sem, hc2_0, hl2_0]) rfl (GivesW.cast (b := true) (by simp) (by simp) ⟨_, _, _, rfl, ((ho.set (p := ⟨w.heap.size, 0, none⟩) (by simp) _).set (p := ⟨w.heap.size, 1, none⟩) (by simp) _).mono (by simp), gr⟩)
/-! ### the whole of a number -/
theorem tz_can {xs : List Int} (h : Can xs) : tz xs xs.length = xs.length := by
  cases hn : xs.length with
  | zero => rfl
  | succ k =>
    refine tz_stop ?_
    intro h0
    have h1 := h.2
    rw [List.getLast?_eq_getElem?] at h1
    rw [hn] at h1
    have hk : k < xs.length := by omega
    simp only [List.getD, Nat.add_sub_cancel, List.getElem?_eq_getElem hk, Option.getD_some] at h0 h1
    rw [h0] at h1
    exact h1 rfl
theorem trim_can {xs : List Int} (h : Can xs) : trim xs = xs := by
  unfold trim
  rw [tz_can h, List.take_length]
theorem dg_len (M : Nat) (h : M ≤ 9223372036854775807) : (dg M).length ≤ 5 := dg_len_le (by omega)
theorem sgn_dg (N : Int) : (decide (N < 0) && decide (0 < tz (dg N.natAbs) (dg N.natAbs).length)) = decide (N < 0) := by
  rw [tz_can (can_dg _)]
  by_cases h : N < 0
  · have h0 : N.natAbs ≠ 0 := by omega
    have : 0 < (dg N.natAbs).length := by rw [dg_pos h0]; simp
    simp [h, this]
  · simp [h]
theorem dg_app {acc l : List Int} {m : Nat} (h : m ≠ 0) (he : acc ++ dg m = l) : (acc ++ [(m : Int) % 10000]) ++ dg (m / 10000) = l := by
  rw [← he, dg_pos h, List.append_assoc]
  rfl
theorem wholeOf_any (N : Int) (g1 : -9223372036854775807 ≤ N) (g2 : N ≤ 9223372036854775807) (w : World) : Calls Tryz.prog 116 #[.int .i64 N] w (GivesW (decide (N < 0)) (dg N.natAbs) w) := by
  have hs := sgn_dg N
  have ht := trim_can (can_dg N.natAbs)
  have hl := dg_len N.natAbs (by omega)
  have HT := Lib.hid (fun a len cap w hx => trimmed_any (decide (N < 0)) a len cap (dg N.natAbs) w hx (by omega))
  rw [hs, ht] at HT
  have HM := Lib.hid (show max N (-N) = (N.natAbs : Int) by omega)
  have hM : N.natAbs ≤ 9223372036854775807 := by omega
  generalize hD : dg N.natAbs = D at *
  have hD0 := Lib.hid (show [] ++ dg N.natAbs = D by rw [hD]; rfl)
  clear hs ht hD
  generalize N.natAbs = M at *
  go_enter Tryz.func116, Tryz.ntmps116
  go_wp2_with fail
  refine name_world (fun W1 hW1 => ?_)
  have hB1 : Below w.heap.size w W1 := by subst hW1; exact gr
  have hS1 : W1.heap.size = w.heap.size + 1 := by subst hW1; simp
  have hc1 : W1.cell? ⟨w.heap.size, 0, none⟩ = some (.bool false) := by subst hW1; simp
  have hc2 : W1.cell? ⟨w.heap.size, 1, none⟩ = some (.slice none 0 0) := by subst hW1; simp
  have hf1 : ∀ o, W1.frozen? ⟨w.heap.size, o, none⟩ = false := by subst hW1; intro o; simp
  clear hW1
  go_loopw [0, 4] (fun v0 v4 wr => ∃ (m : Nat) (acc : List Int), m ≤ M ∧ v0 = .int .i64 m ∧ acc ++ dg m = D ∧ Own wr W1.heap.size v4 acc ∧ Below W1.heap.size W1 wr) (fun v0 _ _ => (intOf v0).toNat)
  case atStart => exact ⟨M, [], Nat.le_refl _, by rw [HM.out], hD0.out, Own.nil _ _, Below.refl _ _⟩
  case round =>
    obtain ⟨m, acc, hm, rfl, hacc, hown, hbw⟩ := hrel
    obtain ⟨sa, sc, rfl⟩ := hown.slice
    have hal : acc.length ≤ 5 := by have := congrArg List.length hacc; rw [List.length_append] at this; omega
    by_cases h0 : m = 0
    · subst h0
      have e : acc = D := by rw [← hacc, dg_zero, List.append_nil]
      subst e
      go_wp2_with fail
      refine (HT.out _ _ _ _ hown.ints).mono ?_
      rintro e w2 ⟨a2, len2, cap2, rfl, ho, hb2⟩
      have hz1 := hbw.size
      have hz2 := hb2.size
      have d1 := (hb2.cell (p := ⟨w.heap.size, 0, none⟩) (by show w.heap.size < wr.heap.size; omega)).trans ((hbw.cell (p := ⟨w.heap.size, 0, none⟩) (by show w.heap.size < W1.heap.size; omega)).trans hc1)
      have d2 := (hb2.cell (p := ⟨w.heap.size, 1, none⟩) (by show w.heap.size < wr.heap.size; omega)).trans ((hbw.cell (p := ⟨w.heap.size, 1, none⟩) (by show w.heap.size < W1.heap.size; omega)).trans hc2)
      have d3 := fun o => (hb2.frozen (p := ⟨w.heap.size, o, none⟩) (by show w.heap.size < wr.heap.size; omega)).trans ((hbw.frozen (p := ⟨w.heap.size, o, none⟩) (by show w.heap.size < W1.heap.size; omega)).trans (hf1 o))
      have hlt : w.heap.size < w2.heap.size := by omega
      go_wp2_with fail
      refine bodyPost_ret (v := .agg #[.bool (decide (N < 0)), .slice a2 len2 cap2]) (by simp [results, Tryz.results116, go_sem, d1, d2, hlt]) rfl ⟨_, _, _, rfl, ((ho.set (p := ⟨w.heap.size, 0, none⟩) (by show w.heap.size < wr.heap.size; omega) _).set (p := ⟨w.heap.size, 1, none⟩) (by show w.heap.size < wr.heap.size; omega) _).mono (by omega), gr⟩
    · have hn := Lib.hid (dg_app h0 hacc)
      have hpos : 0 < (m : Int) := by omega
      clear hacc
      go_wp2_with (first | (at_builtin; refine wpl_app (W := W1) rfl _ _ rfl W1.heap.size _ acc rfl (hown.alloc _) ⟨wr.heap.size, 0, none⟩ 1 ((m : Int) % 10000) rfl (by simp) (by omega) (Below.alloc hbw hbw.size _) (by have := hbw.size; simp; omega) ?_; intro a1 cc1 w1 hown1 hbw1 hsz1))
      go_roundw
      case rel => exact ⟨m / 10000, _, by omega, by go_num, hn.out, hown1, hbw1⟩
      case measure => simp [intOf]; omega
/-! ### bits of a number; long division: no program in sight -/
def bl (n : Nat) : Nat := Lib.bitLenAux n n
theorem val_trim (xs : List Int) : ∀ n, n ≤ xs.length → val (xs.take (tz xs n)) = val (xs.take n)
  | 0, _ => rfl
  | n + 1, h => by
    by_cases h0 : xs.getD n 0 = 0
    · rw [tz_zero h0, val_trim xs n (by omega)]
      have hk : n < xs.length := by omega
      rw [List.take_succ_eq_append_getElem hk]
      have : xs[n] = 0 := by simpa [List.getD, List.getElem?_eq_getElem hk] using h0
      rw [this, val_zero_end]
    · rw [tz_stop h0]
theorem tz_last (xs : List Int) : ∀ n m, tz xs n = m + 1 → xs.getD m 0 ≠ 0
  | 0, m, h => by simp [tz] at h
  | n + 1, m, h => by
    by_cases h0 : xs.getD n 0 = 0
    · rw [tz_zero h0] at h; exact tz_last xs n m h
    · rw [tz_stop h0] at h
      obtain rfl : n = m := by omega
      exact h0
theorem trim_dg {xs : List Int} (h : InR xs) : trim xs = dg (val xs).toNat := by
  have hv : val (trim xs) = val xs := by
    unfold trim
    rw [val_trim xs _ (Nat.le_refl _), List.take_length]
  have hc : Can (trim xs) := by
    refine ⟨fun x hx => h x (List.mem_of_mem_take hx), ?_⟩
    unfold trim
    cases hm : tz xs xs.length with
    | zero => simp
    | succ m =>
      have hl := tz_last xs _ m hm
      have hle := tz_le xs xs.length
      rw [List.getLast?_eq_getElem?, List.length_take, Nat.min_eq_left (by omega), List.getElem?_take]
      have hk : m < xs.length := by omega
      simp only [Nat.add_sub_cancel, Nat.lt_succ_self, if_true]
      simp only [List.getD, List.getElem?_eq_getElem hk, Option.getD_some] at hl
      rw [List.getElem?_eq_getElem hk]
      simp
      exact hl
  rw [← hv, dg_val hc]
end Go.Proofs.YtjgdajeoeagggaaGreat
