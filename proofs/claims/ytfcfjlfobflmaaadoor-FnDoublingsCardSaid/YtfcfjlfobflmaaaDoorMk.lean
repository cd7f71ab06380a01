import Derived.Test.YtfcfjlfobflmaaaDoorWhole
import Derived.Test.YtfcfjlfobflmaaaDoorOwnX
import Derived.Test.YtfcfjlfobflmaaaDoorCmp
import Derived.Test.YtfcfjlfobflmaaaDoorShelf
import Derived.Laws.AppendOwnNone
set_option linter.unusedSimpArgs false
set_option linter.unusedVariables false
namespace Go.Proofs.YtfcfjlfobflmaaaDoor
open Go.RowKit
/-! ### making wholes -/
/-- The count of digits without those last ones that are 0. -/
def tz (xs : List Int) : Nat → Nat
  | 0 => 0
  | n + 1 => if xs.getD n 0 = 0 then tz xs n else n + 1
theorem tz_le (xs : List Int) : ∀ n, tz xs n ≤ n
  | 0 => Nat.le_refl _
  | n + 1 => by unfold tz; split; · exact Nat.le_succ_of_le (tz_le xs n)
                · exact Nat.le_refl _
def trim (xs : List Int) : List Int := xs.take (tz xs xs.length)
theorem tz_zero {xs : List Int} {n : Nat} (h : xs.getD n 0 = 0) : tz xs (n + 1) = tz xs n := by
  show (if xs.getD n 0 = 0 then tz xs n else n + 1) = _
  rw [if_pos h]
theorem tz_stop {xs : List Int} {n : Nat} (h : xs.getD n 0 ≠ 0) : tz xs (n + 1) = n + 1 := by
  show (if xs.getD n 0 = 0 then tz xs n else n + 1) = _
  rw [if_neg h]

theorem l1Own_any (a : Option Addr) (len cap : Nat) (xs : List Int) (w : World) (hx : Ints w (.slice a len cap) xs) (hn : xs.length ≤ 1048576) : Calls Tryd.prog 61 #[.slice a len cap] w (GivesOwn xs w) := by
  have hmade : Own (w.alloc (Obj.cells #[] 3)) w.heap.size (.slice (some ⟨w.heap.size, 0, none⟩) 0 0) [] := World.ownsRow_made w #[] 0 (Nat.le_refl _) (by decide) rfl
  rcases hx with ⟨a', cap', hs, rfl⟩ | ⟨b, off, len', cap', hs, hl, h0, hc, hm, hbl, hcell⟩
  · obtain ⟨rfl, rfl, rfl⟩ := by simpa using hs
    cases a with
    | none =>
      go_enter Tryd.func61, Tryd.ntmps61
      go_wp2_with fail
      refine bodyPost_ret (v := .slice (some ⟨w.heap.size, 0, none⟩) 0 0) (by simp [results, Tryd.results61, go_sem]) rfl ⟨_, _, _, rfl, hmade, (by repeat' (first | (with_reducible exact Below.refl _ _) | (with_reducible assumption) | (with_reducible refine Below.alloc ?_ ?_ _) | (with_reducible refine Below.setCell ?_ ?_ _) | (with_reducible refine Below.drew ?_) | (with_reducible refine below_drewN ?_ _) | (apply bthen2; (with_reducible assumption)) | go_size))⟩
    | some ad =>
      go_enter Tryd.func61, Tryd.ntmps61
      go_wp2_with fail
      refine bodyPost_ret (v := .slice (some ⟨w.heap.size, 0, none⟩) 0 0) (by simp [results, Tryd.results61, go_sem]) rfl ⟨_, _, _, rfl, hmade, (by repeat' (first | (with_reducible exact Below.refl _ _) | (with_reducible assumption) | (with_reducible refine Below.alloc ?_ ?_ _) | (with_reducible refine Below.setCell ?_ ?_ _) | (with_reducible refine Below.drew ?_) | (with_reducible refine below_drewN ?_ _) | (apply bthen2; (with_reducible assumption)) | go_size))⟩
  · obtain ⟨rfl, rfl, rfl⟩ := by simpa using hs
    obtain ⟨i0, hi, hz0, hz1, hz2⟩ := info_parts infoInt
    have hnews : ∀ j u, (xs.map (Value.int .i64))[j]? = some u → (w.alloc (Obj.cells #[] 3)).cell? ((⟨b, off, none⟩ : Addr).add j) = some u := by
      intro j u hj
      obtain ⟨hj2, rfl⟩ : ∃ h : j < xs.length, u = .int .i64 (xs[j]) := by
        rw [List.getElem?_map] at hj
        obtain ⟨y, hy, rfl⟩ := Option.map_eq_some_iff.mp hj
        obtain ⟨h, rfl⟩ := List.getElem?_eq_some_iff.mp hy
        exact ⟨h, rfl⟩
      have := hcell j (by omega)
      simp only [List.getD, List.getElem?_eq_getElem hj2, Option.getD_some] at this
      have hb : Below w.heap.size w (w.alloc (Obj.cells #[] 3)) := (by repeat' (first | (with_reducible exact Below.refl _ _) | (with_reducible assumption) | (with_reducible refine Below.alloc ?_ ?_ _) | (with_reducible refine Below.setCell ?_ ?_ _) | (with_reducible refine Below.drew ?_) | (with_reducible refine below_drewN ?_ _) | (apply bthen2; (with_reducible assumption)) | go_size))
      have := (hb.cell (p := ⟨b, off + j, none⟩) hbl).trans this
      cases j <;> simpa [Addr.add] using this
    have hone : ∀ u ∈ xs.map (Value.int .i64), u.oneCell' = true := by
      intro u hu
      obtain ⟨y, -, rfl⟩ := List.mem_map.mp hu
      rfl
    have HN := Lib.hid hnews
    have hlv : (xs.map (Value.int .i64)).length = len * 1 := by simp [hl]
    have hfin : ∀ (v : Value) (w' : World), w'.ownsRow w.heap.size 3 1 v (0 + len) ([] ++ xs.map (Value.int .i64)) → Own w' w.heap.size v xs := by
      intro v w' h
      unfold Own
      simpa [hl] using h
    have HF := Lib.hid hfin
    have hn2 : len ≤ 1048576 := by omega
    generalize xs.map (Value.int .i64) = vs at *
    clear hnews hcell hs hfin hn hl
    go_enter Tryd.func61, Tryd.ntmps61
    go_wp2_with (first | (refine wpList_append_own _ rfl (.tmp 3) (.tmp 4) 38 rfl w.heap.size 3 i0 (.int .i64 0) 1 8 Tryd.underlying38 hi hz0 hz1 hz2 rfl (by decide) _ 0 _ rfl hmade ⟨b, off, none⟩ len cap vs rfl hlv HN.out hone (by unfold maxLen; omega) (by omega) (by simp) ?_; intro v1 w1 hown1 hgrow1 _))
    have ho := HF.out _ _ hown1
    obtain ⟨a1, c1, rfl⟩ := ho.slice
    refine bodyPost_ret (v := .slice a1 xs.length c1) (by simp [results, Tryd.results61, go_sem]) rfl ⟨_, _, _, rfl, ho, ?_⟩
    have hb0 : Below w.heap.size w (w.alloc (Obj.cells #[] 3)) := (by repeat' (first | (with_reducible exact Below.refl _ _) | (with_reducible assumption) | (with_reducible refine Below.alloc ?_ ?_ _) | (with_reducible refine Below.setCell ?_ ?_ _) | (with_reducible refine Below.drew ?_) | (with_reducible refine below_drewN ?_ _) | (apply bthen2; (with_reducible assumption)) | go_size))
    refine hb0.grown hgrow1 (by simp) ?_
    intro k hk
    have hk2 : some w.heap.size = some k := hk
    have := Option.some.inj hk2
    omega

theorem GivesW.of {neg : Bool} {xs : List Int} {w : World} {e : Ending} {w' : World} (a : Option Addr) (len cap : Nat) (h1 : e = .returned (.agg #[.bool neg, .slice a len cap])) (h2 : Own w' w.heap.size (.slice a len cap) xs) (h3 : Below w.heap.size w w') : GivesW neg xs w e w' := ⟨a, len, cap, h1, h2, h3⟩
theorem GivesW.cast {b b' : Bool} {xs xs' : List Int} {w : World} {e : Ending} {w' : World} (h1 : b = b') (h2 : xs = xs') (h : GivesW b xs w e w') : GivesW b' xs' w e w' := by subst h1; subst h2; exact h
theorem Ints.cap {w : World} {a : Option Addr} {len cap : Nat} {xs : List Int} (h : Ints w (.slice a len cap) xs) : len ≤ cap := by
  rcases h with ⟨a', cap', hs, rfl⟩ | ⟨b, off, len', cap', hs, hl, h0, hc, hm, hbl, hcell⟩
  · obtain ⟨rfl, rfl, rfl⟩ := by simpa using hs
    omega
  · obtain ⟨rfl, rfl, rfl⟩ := by simpa using hs
    exact hc
theorem Ints.take {w : World} {a : Option Addr} {len cap : Nat} {xs : List Int} (h : Ints w (.slice a len cap) xs) (n : Nat) (hn : n ≤ len) : Ints w (.slice a n cap) (xs.take n) := by
  rcases h with ⟨a', cap', hs, rfl⟩ | ⟨b, off, len', cap', hs, hl, h0, hc, hm, hbl, hcell⟩
  · obtain ⟨rfl, rfl, rfl⟩ := by simpa using hs
    have : n = 0 := by omega
    subst this
    exact .inl ⟨_, _, rfl, by simp⟩
  · obtain ⟨rfl, rfl, rfl⟩ := by simpa using hs
    by_cases h : n = 0
    · subst h; exact .inl ⟨_, _, rfl, by simp⟩
    · refine .inr ⟨b, off, n, cap, rfl, by simp; omega, by omega, by omega, hm, hbl, fun i hi => ?_⟩
      rw [hcell i (by omega)]
      simp [List.getD, List.getElem?_take, hi]

theorem bgMake_any (neg : Bool) (a : Option Addr) (len cap : Nat) (xs : List Int) (w : World) (hx : Ints w (.slice a len cap) xs) (hn : xs.length ≤ 1048576) : Calls Tryd.prog 42 #[.bool neg, .slice a len cap] w (GivesW (neg && decide (0 < tz xs xs.length)) (trim xs) w) := by
  obtain ⟨h1, h2, h3⟩ := hx.cell
  have hcp := hx.cap
  have HX := Lib.hid hx
  have hT := tz_le xs xs.length
  have e0 : trim xs = xs.take (tz xs xs.length) := rfl
  rw [e0]
  have HC := Lib.hid h3
  have HT := Lib.hid (fun (n : Nat) h => @tz_zero xs n h)
  have HS := Lib.hid (fun (n : Nat) h => @tz_stop xs n h)
  generalize hR : tz xs xs.length = R at *
  rw [h1] at hR hT hn
  have HR := Lib.hid hR
  clear e0 hx h3 h1 hR
  go_enter Tryd.func42, Tryd.ntmps42
  go_wp2_with fail
  go_loop [5] (fun v5 => ∃ k : Nat, k ≤ len ∧ v5 = .int .i64 k ∧ tz xs k = R) (fun v5 => (intOf v5).toNat)
  case atStart => exact ⟨_, Nat.le_refl _, rfl, HR.out⟩
  case round =>
    obtain ⟨k, hk, rfl, hr⟩ := hrel
    cases k with
    | zero =>
      have : R = 0 := hr.symm
      subst this
      have HZ := Lib.hid (Ints.take HX.out 0 (by omega))
      rw [List.take_zero] at HZ
      clear HX HC HT HS HR
      cases neg
      all_goals
        go_wp2_with fail
        refine (l1Own_any _ _ _ [] _ ?_ (by simp)).mono ?_
        · refine Ints.below HZ.out ?_; repeat' (first | (with_reducible exact Below.refl _ _) | (with_reducible assumption) | (with_reducible refine Below.alloc ?_ ?_ _) | (with_reducible refine Below.setCell ?_ ?_ _) | (with_reducible refine Below.drew ?_) | (with_reducible refine below_drewN ?_ _) | (apply bthen2; (with_reducible assumption)) | go_size)
        rintro e w2 ⟨a2, len2, cap2, rfl, ho, hb2⟩
        have hz2 := hb2.size; (try simp only [World.size_alloc, World.size_setCell, World.size_drew, World.heap_drewN] at hz2); try (refine keepc hb2 (w.heap.size) ?_ ?_; (focus (first | omega | (simp <;> omega))); intro hc2_0 hf2_0 hl2_0); try (refine keepc hb2 (w.heap.size + 1) ?_ ?_; (focus (first | omega | (simp <;> omega))); intro hc2_1 hf2_1 hl2_1); try (refine keepc hb2 (w.heap.size + 1 + 1) ?_ ?_; (focus (first | omega | (simp <;> omega))); intro hc2_2 hf2_2 hl2_2)
        go_wp2_with fail
        refine bodyPost_ret (v := .agg #[.bool false, .slice a2 len2 cap2]) (by simp [results, Tryd.results42, go_sem, hc2_0, hl2_0]) rfl (GivesW.cast (b := false) (by simp) (by simp) ⟨_, _, _, rfl, ((ho.set (p := ⟨w.heap.size, 0, none⟩) (by simp) _).set (p := ⟨w.heap.size, 1, none⟩) (by simp) _).mono (by simp), (by repeat' (first | (with_reducible exact Below.refl _ _) | (with_reducible assumption) | (with_reducible refine Below.alloc ?_ ?_ _) | (with_reducible refine Below.setCell ?_ ?_ _) | (with_reducible refine Below.drew ?_) | (with_reducible refine below_drewN ?_ _) | (apply bthen2; (with_reducible assumption)) | go_size))⟩)
    | succ k =>
      obtain ⟨b, off, ha, hbl, c0⟩ := HC.out k (by omega)
      subst ha
      have c1 := (show Below w.heap.size w (w.alloc (Obj.cells #[.bool false, .slice none 0 0] 40)) from (by repeat' (first | (with_reducible exact Below.refl _ _) | (with_reducible assumption) | (with_reducible refine Below.alloc ?_ ?_ _) | (with_reducible refine Below.setCell ?_ ?_ _) | (with_reducible refine Below.drew ?_) | (with_reducible refine below_drewN ?_ _) | (apply bthen2; (with_reducible assumption)) | go_size))).cell (p := ⟨b, off + k, none⟩) hbl
      rw [c0] at c1
      by_cases h : xs.getD k 0 = 0
      · rw [HT.out k h] at hr
        generalize xs.getD k 0 = X at *
        subst h
        go_wp2_with fail
        go_round
        case rel => exact ⟨k, by omega, rfl, hr⟩
        case measure => first | (simp [intOf]; done) | (simp [intOf]; omega)
      · rw [HS.out k h] at hr
        generalize xs.getD k 0 = X at *
        subst hr
        have HZ := Lib.hid (Ints.take HX.out (k + 1) (by omega))
        have hlz : (xs.take (k + 1)).length ≤ 1048576 := by rw [List.length_take]; omega
        generalize xs.take (k + 1) = zs at *
        clear HX HC HT HS HR
        have hcap : k + 1 ≤ cap := by omega
        cases neg
        case false =>
          go_wp2_with fail
          refine (l1Own_any _ _ _ zs _ ?_ hlz).mono ?_
          · refine Ints.below HZ.out ?_; repeat' (first | (with_reducible exact Below.refl _ _) | (with_reducible assumption) | (with_reducible refine Below.alloc ?_ ?_ _) | (with_reducible refine Below.setCell ?_ ?_ _) | (with_reducible refine Below.drew ?_) | (with_reducible refine below_drewN ?_ _) | (apply bthen2; (with_reducible assumption)) | go_size)
          rintro e w2 ⟨a2, len2, cap2, rfl, ho, hb2⟩
          have hz2 := hb2.size; (try simp only [World.size_alloc, World.size_setCell, World.size_drew, World.heap_drewN] at hz2); try (refine keepc hb2 (w.heap.size) ?_ ?_; (focus (first | omega | (simp <;> omega))); intro hc2_0 hf2_0 hl2_0); try (refine keepc hb2 (w.heap.size + 1) ?_ ?_; (focus (first | omega | (simp <;> omega))); intro hc2_1 hf2_1 hl2_1); try (refine keepc hb2 (w.heap.size + 1 + 1) ?_ ?_; (focus (first | omega | (simp <;> omega))); intro hc2_2 hf2_2 hl2_2)
          go_wp2_with fail
          refine bodyPost_ret (v := .agg #[.bool false, .slice a2 len2 cap2]) (by simp [results, Tryd.results42, go_sem, hc2_0, hl2_0]) rfl (GivesW.cast (b := false) (by simp) (by simp) ⟨_, _, _, rfl, ((ho.set (p := ⟨w.heap.size, 0, none⟩) (by simp) _).set (p := ⟨w.heap.size, 1, none⟩) (by simp) _).mono (by simp), (by repeat' (first | (with_reducible exact Below.refl _ _) | (with_reducible assumption) | (with_reducible refine Below.alloc ?_ ?_ _) | (with_reducible refine Below.setCell ?_ ?_ _) | (with_reducible refine Below.drew ?_) | (with_reducible refine below_drewN ?_ _) | (apply bthen2; (with_reducible assumption)) | go_size))⟩)
        case true =>
          go_wp2_with fail
          refine (l1Own_any _ _ _ zs _ ?_ hlz).mono ?_
          · refine Ints.below HZ.out ?_; repeat' (first | (with_reducible exact Below.refl _ _) | (with_reducible assumption) | (with_reducible refine Below.alloc ?_ ?_ _) | (with_reducible refine Below.setCell ?_ ?_ _) | (with_reducible refine Below.drew ?_) | (with_reducible refine below_drewN ?_ _) | (apply bthen2; (with_reducible assumption)) | go_size)
          rintro e w2 ⟨a2, len2, cap2, rfl, ho, hb2⟩
          have hz2 := hb2.size; (try simp only [World.size_alloc, World.size_setCell, World.size_drew, World.heap_drewN] at hz2); try (refine keepc hb2 (w.heap.size) ?_ ?_; (focus (first | omega | (simp <;> omega))); intro hc2_0 hf2_0 hl2_0); try (refine keepc hb2 (w.heap.size + 1) ?_ ?_; (focus (first | omega | (simp <;> omega))); intro hc2_1 hf2_1 hl2_1); try (refine keepc hb2 (w.heap.size + 1 + 1) ?_ ?_; (focus (first | omega | (simp <;> omega))); intro hc2_2 hf2_2 hl2_2)
          go_wp2_with fail
          refine bodyPost_ret (v := .agg #[.bool true, .slice a2 len2 cap2]) (by simp [results, Tryd.results42, go_sem, hc2_0, hl2_0]) rfl (GivesW.cast (b := true) (by simp) (by simp) ⟨_, _, _, rfl, ((ho.set (p := ⟨w.heap.size, 0, none⟩) (by simp) _).set (p := ⟨w.heap.size, 1, none⟩) (by simp) _).mono (by simp), (by repeat' (first | (with_reducible exact Below.refl _ _) | (with_reducible assumption) | (with_reducible refine Below.alloc ?_ ?_ _) | (with_reducible refine Below.setCell ?_ ?_ _) | (with_reducible refine Below.drew ?_) | (with_reducible refine below_drewN ?_ _) | (apply bthen2; (with_reducible assumption)) | go_size))⟩)

theorem clone_any (a : Option Addr) (len cap : Nat) (xs : List Int) (w : World) (hx : Ints w (.slice a len cap) xs) (hn : xs.length ≤ 1048576) : Calls Tryd.prog 73 #[.slice a len cap] w (GivesOwn xs w) := by
  rcases hx with ⟨a', cap', hs, rfl⟩ | ⟨b, off, len', cap', hs, hl, h0, hc, hm, hbl, hcell⟩
  · obtain ⟨rfl, rfl, rfl⟩ := by simpa using hs
    cases a with
    | none =>
      refine (_root_.Go.Proofs.Tryd.slices_Clone_int_nil 0 cap w).mono ?_
      rintro e w' ⟨rfl, rfl⟩
      exact ⟨_, _, _, rfl, Own.nil _ _, Below.refl _ _⟩
    | some ad =>
      refine (_root_.Go.Proofs.Tryd.slices_Clone_int_zero ad cap w).mono ?_
      rintro e w' ⟨v, rfl, h, -, hb⟩
      have ho : Own w' w.heap.size v [] := h
      obtain ⟨a1, c1, rfl⟩ := ho.slice
      exact ⟨_, _, _, rfl, ho, hb⟩
  · obtain ⟨rfl, rfl, rfl⟩ := by simpa using hs
    refine (_root_.Go.Proofs.Tryd.slices_Clone_int b off len cap xs w (by omega) (by omega) (fun j hj => hcell j (by omega))).mono ?_
    rintro e w' ⟨v, rfl, h, -, hb⟩
    rw [List.take_of_length_le (by omega), ← hl] at h
    have ho : Own w' w.heap.size v xs := h
    obtain ⟨a1, c1, rfl⟩ := ho.slice
    exact ⟨_, _, _, rfl, ho, hb⟩

theorem trimmed_any (neg : Bool) (a : Option Addr) (len cap : Nat) (xs : List Int) (w : World) (hx : Ints w (.slice a len cap) xs) (hn : xs.length ≤ 1048576) : Calls Tryd.prog 58 #[.bool neg, .slice a len cap] w (GivesW (neg && decide (0 < tz xs xs.length)) (trim xs) w) := by
  obtain ⟨h1, h2, h3⟩ := hx.cell
  have hcp := hx.cap
  have HX := Lib.hid hx
  have hT := tz_le xs xs.length
  have e0 : trim xs = xs.take (tz xs xs.length) := rfl
  rw [e0]
  have HC := Lib.hid h3
  have HT := Lib.hid (fun (n : Nat) h => @tz_zero xs n h)
  have HS := Lib.hid (fun (n : Nat) h => @tz_stop xs n h)
  generalize hR : tz xs xs.length = R at *
  rw [h1] at hR hT hn
  have HR := Lib.hid hR
  clear e0 hx h3 h1 hR
  go_enter Tryd.func58, Tryd.ntmps58
  go_wp2_with fail
  go_loop [1] (fun v1 => ∃ k : Nat, k ≤ len ∧ v1 = .slice a k cap ∧ tz xs k = R) (fun v1 => match v1 with | .slice _ k _ => k | _ => 0)
  case atStart => exact ⟨_, Nat.le_refl _, rfl, HR.out⟩
  case round =>
    obtain ⟨k, hk, rfl, hr⟩ := hrel
    cases k with
    | zero =>
      have : R = 0 := hr.symm
      subst this
      have HZ := Lib.hid (Ints.take HX.out 0 (by omega))
      rw [List.take_zero] at HZ
      clear HX HC HT HS HR
      cases neg
      all_goals
        go_wp2_with fail
        refine (clone_any _ _ _ [] _ ?_ (by simp)).mono ?_
        · refine Ints.below HZ.out ?_; repeat' (first | (with_reducible exact Below.refl _ _) | (with_reducible assumption) | (with_reducible refine Below.alloc ?_ ?_ _) | (with_reducible refine Below.setCell ?_ ?_ _) | (with_reducible refine Below.drew ?_) | (with_reducible refine below_drewN ?_ _) | (apply bthen2; (with_reducible assumption)) | go_size)
        rintro e w2 ⟨a2, len2, cap2, rfl, ho, hb2⟩
        have hz2 := hb2.size; (try simp only [World.size_alloc, World.size_setCell, World.size_drew, World.heap_drewN] at hz2); try (refine keepc hb2 (w.heap.size) ?_ ?_; (focus (first | omega | (simp <;> omega))); intro hc2_0 hf2_0 hl2_0); try (refine keepc hb2 (w.heap.size + 1) ?_ ?_; (focus (first | omega | (simp <;> omega))); intro hc2_1 hf2_1 hl2_1); try (refine keepc hb2 (w.heap.size + 1 + 1) ?_ ?_; (focus (first | omega | (simp <;> omega))); intro hc2_2 hf2_2 hl2_2)
        go_wp2_with fail
        refine bodyPost_ret (v := .agg #[.bool false, .slice a2 len2 cap2]) (by simp [results, Tryd.results58, go_sem, hc2_0, hl2_0]) rfl (GivesW.cast (b := false) (by simp) (by simp) ⟨_, _, _, rfl, ((ho.set (p := ⟨w.heap.size, 0, none⟩) (by simp) _).set (p := ⟨w.heap.size, 1, none⟩) (by simp) _).mono (by simp), (by repeat' (first | (with_reducible exact Below.refl _ _) | (with_reducible assumption) | (with_reducible refine Below.alloc ?_ ?_ _) | (with_reducible refine Below.setCell ?_ ?_ _) | (with_reducible refine Below.drew ?_) | (with_reducible refine below_drewN ?_ _) | (apply bthen2; (with_reducible assumption)) | go_size))⟩)
    | succ k =>
      obtain ⟨b, off, ha, hbl, c0⟩ := HC.out k (by omega)
      subst ha
      have c1 := (show Below w.heap.size w (w.alloc (Obj.cells #[.bool false, .slice none 0 0] 40)) from (by repeat' (first | (with_reducible exact Below.refl _ _) | (with_reducible assumption) | (with_reducible refine Below.alloc ?_ ?_ _) | (with_reducible refine Below.setCell ?_ ?_ _) | (with_reducible refine Below.drew ?_) | (with_reducible refine below_drewN ?_ _) | (apply bthen2; (with_reducible assumption)) | go_size))).cell (p := ⟨b, off + k, none⟩) hbl
      rw [c0] at c1
      have hcap : k + 1 ≤ cap := by omega
      by_cases h : xs.getD k 0 = 0
      · rw [HT.out k h] at hr
        generalize xs.getD k 0 = X at *
        subst h
        go_wp2_with fail
        go_round
        case rel => exact ⟨k, by omega, by go_num, hr⟩
        case measure => first | (simp; done) | (simp; omega)
      · rw [HS.out k h] at hr
        generalize xs.getD k 0 = X at *
        subst hr
        have HZ := Lib.hid (Ints.take HX.out (k + 1) (by omega))
        have hlz : (xs.take (k + 1)).length ≤ 1048576 := by rw [List.length_take]; omega
        generalize xs.take (k + 1) = zs at *
        clear HX HC HT HS HR
        cases neg
        case false =>
          go_wp2_with fail
          refine (clone_any _ _ _ zs _ ?_ hlz).mono ?_
          · refine Ints.below HZ.out ?_; repeat' (first | (with_reducible exact Below.refl _ _) | (with_reducible assumption) | (with_reducible refine Below.alloc ?_ ?_ _) | (with_reducible refine Below.setCell ?_ ?_ _) | (with_reducible refine Below.drew ?_) | (with_reducible refine below_drewN ?_ _) | (apply bthen2; (with_reducible assumption)) | go_size)
          rintro e w2 ⟨a2, len2, cap2, rfl, ho, hb2⟩
          have hz2 := hb2.size; (try simp only [World.size_alloc, World.size_setCell, World.size_drew, World.heap_drewN] at hz2); try (refine keepc hb2 (w.heap.size) ?_ ?_; (focus (first | omega | (simp <;> omega))); intro hc2_0 hf2_0 hl2_0); try (refine keepc hb2 (w.heap.size + 1) ?_ ?_; (focus (first | omega | (simp <;> omega))); intro hc2_1 hf2_1 hl2_1); try (refine keepc hb2 (w.heap.size + 1 + 1) ?_ ?_; (focus (first | omega | (simp <;> omega))); intro hc2_2 hf2_2 hl2_2)
          go_wp2_with fail
          refine bodyPost_ret (v := .agg #[.bool false, .slice a2 len2 cap2]) (by simp [results, Tryd.results58, go_sem, hc2_0, hl2_0]) rfl (GivesW.cast (b := false) (by simp) (by simp) ⟨_, _, _, rfl, ((ho.set (p := ⟨w.heap.size, 0, none⟩) (by simp) _).set (p := ⟨w.heap.size, 1, none⟩) (by simp) _).mono (by simp), (by repeat' (first | (with_reducible exact Below.refl _ _) | (with_reducible assumption) | (with_reducible refine Below.alloc ?_ ?_ _) | (with_reducible refine Below.setCell ?_ ?_ _) | (with_reducible refine Below.drew ?_) | (with_reducible refine below_drewN ?_ _) | (apply bthen2; (with_reducible assumption)) | go_size))⟩)
        case true =>
          go_wp2_with fail
          refine (clone_any _ _ _ zs _ ?_ hlz).mono ?_
          · refine Ints.below HZ.out ?_; repeat' (first | (with_reducible exact Below.refl _ _) | (with_reducible assumption) | (with_reducible refine Below.alloc ?_ ?_ _) | (with_reducible refine Below.setCell ?_ ?_ _) | (with_reducible refine Below.drew ?_) | (with_reducible refine below_drewN ?_ _) | (apply bthen2; (with_reducible assumption)) | go_size)
          rintro e w2 ⟨a2, len2, cap2, rfl, ho, hb2⟩
          have hz2 := hb2.size; (try simp only [World.size_alloc, World.size_setCell, World.size_drew, World.heap_drewN] at hz2); try (refine keepc hb2 (w.heap.size) ?_ ?_; (focus (first | omega | (simp <;> omega))); intro hc2_0 hf2_0 hl2_0); try (refine keepc hb2 (w.heap.size + 1) ?_ ?_; (focus (first | omega | (simp <;> omega))); intro hc2_1 hf2_1 hl2_1); try (refine keepc hb2 (w.heap.size + 1 + 1) ?_ ?_; (focus (first | omega | (simp <;> omega))); intro hc2_2 hf2_2 hl2_2)
          go_wp2_with fail
          refine bodyPost_ret (v := .agg #[.bool true, .slice a2 len2 cap2]) (by simp [results, Tryd.results58, go_sem, hc2_0, hl2_0]) rfl (GivesW.cast (b := true) (by simp) (by simp) ⟨_, _, _, rfl, ((ho.set (p := ⟨w.heap.size, 0, none⟩) (by simp) _).set (p := ⟨w.heap.size, 1, none⟩) (by simp) _).mono (by simp), (by repeat' (first | (with_reducible exact Below.refl _ _) | (with_reducible assumption) | (with_reducible refine Below.alloc ?_ ?_ _) | (with_reducible refine Below.setCell ?_ ?_ _) | (with_reducible refine Below.drew ?_) | (with_reducible refine below_drewN ?_ _) | (apply bthen2; (with_reducible assumption)) | go_size))⟩)

end Go.Proofs.YtfcfjlfobflmaaaDoor
