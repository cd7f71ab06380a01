import Derived.Test.YtldmledjdcphmaaWhole
import Derived.Test.YtldmledjdcphmaaOwnX
import Derived.Test.YtldmledjdcphmaaCmp
import Derived.Test.YtldmledjdcphmaaShelf
import Derived.Laws.AppendOwnNone
set_option linter.unusedSimpArgs false
set_option linter.unusedVariables false
namespace Go.Proofs.Ytldmledjdcphmaa
open Go.RowKit
/-! ### making wholes -/
/-- The count of digits without those last ones that are 0. -/
def tz (xs : List Int) : Nat → Nat
  | 0 => 0
  | n + 1 => if xs.getD n 0 = 0 then tz xs n else n + 1
theorem tz_le (xs : List Int) : ∀ n, tz xs n ≤ n
  | 0 => Nat.le_refl _
  | n + 1 => by unfold tz; split; · exact Nat.le_succ_of_le (tz_le xs n)
                · exact Nat.le_refl _
def trim (xs : List Int) : List Int := xs.take (tz xs xs.length)
theorem tz_zero {xs : List Int} {n : Nat} (h : xs.getD n 0 = 0) : tz xs (n + 1) = tz xs n := by
  show (if xs.getD n 0 = 0 then tz xs n else n + 1) = _
  rw [if_pos h]
theorem tz_stop {xs : List Int} {n : Nat} (h : xs.getD n 0 ≠ 0) : tz xs (n + 1) = n + 1 := by
  show (if xs.getD n 0 = 0 then tz xs n else n + 1) = _
  rw [if_neg h]

theorem l1Own_any (a : Option Addr) (len cap : Nat) (xs : List Int) (w : World) (hx : Ints w (.slice a len cap) xs) (hn : xs.length ≤ 1048576) : Calls Try.prog 75 #[.slice a len cap] w (GivesOwn xs w) := by
  have hmade : Own (w.alloc (Obj.cells #[] 3)) w.heap.size (.slice (some ⟨w.heap.size, 0, none⟩) 0 0) [] := World.ownsRow_made w #[] 0 (Nat.le_refl _) (by decide) rfl
  rcases hx with ⟨a', cap', hs, rfl⟩ | ⟨b, off, len', cap', hs, hl, h0, hc, hm, hbl, hcell⟩
  · obtain ⟨rfl, rfl, rfl⟩ := by simpa using hs
    cases a with
    | none =>
      go_enter Try.func75, Try.ntmps75
      go_wp2_with fail
      refine bodyPost_ret (v := .slice (some ⟨w.heap.size, 0, none⟩) 0 0) (by simp [results, Try.results75, go_sem]) rfl ⟨_, _, _, rfl, hmade, (by repeat' (first | (with_reducible exact Below.refl _ _) | (with_reducible assumption) | (with_reducible refine Below.alloc ?_ ?_ _) | (with_reducible refine Below.setCell ?_ ?_ _) | (with_reducible refine Below.drew ?_) | (with_reducible refine below_drewN ?_ _) | (apply bthen2; (with_reducible assumption)) | go_size))⟩
    | some ad =>
      go_enter Try.func75, Try.ntmps75
      go_wp2_with fail
      refine bodyPost_ret (v := .slice (some ⟨w.heap.size, 0, none⟩) 0 0) (by simp [results, Try.results75, go_sem]) rfl ⟨_, _, _, rfl, hmade, (by repeat' (first | (with_reducible exact Below.refl _ _) | (with_reducible assumption) | (with_reducible refine Below.alloc ?_ ?_ _) | (with_reducible refine Below.setCell ?_ ?_ _) | (with_reducible refine Below.drew ?_) | (with_reducible refine below_drewN ?_ _) | (apply bthen2; (with_reducible assumption)) | go_size))⟩
  · obtain ⟨rfl, rfl, rfl⟩ := by simpa using hs
    obtain ⟨i0, hi, hz0, hz1, hz2⟩ := info_parts infoInt
    have hnews : ∀ j u, (xs.map (Value.int .i64))[j]? = some u → (w.alloc (Obj.cells #[] 3)).cell? ((⟨b, off, none⟩ : Addr).add j) = some u := by
      intro j u hj
      obtain ⟨hj2, rfl⟩ : ∃ h : j < xs.length, u = .int .i64 (xs[j]) := by
        rw [List.getElem?_map] at hj
        obtain ⟨y, hy, rfl⟩ := Option.map_eq_some_iff.mp hj
        obtain ⟨h, rfl⟩ := List.getElem?_eq_some_iff.mp hy
        exact ⟨h, rfl⟩
      have := hcell j (by omega)
      simp only [List.getD, List.getElem?_eq_getElem hj2, Option.getD_some] at this
      have hb : Below w.heap.size w (w.alloc (Obj.cells #[] 3)) := (by repeat' (first | (with_reducible exact Below.refl _ _) | (with_reducible assumption) | (with_reducible refine Below.alloc ?_ ?_ _) | (with_reducible refine Below.setCell ?_ ?_ _) | (with_reducible refine Below.drew ?_) | (with_reducible refine below_drewN ?_ _) | (apply bthen2; (with_reducible assumption)) | go_size))
      have := (hb.cell (p := ⟨b, off + j, none⟩) hbl).trans this
      cases j <;> simpa [Addr.add] using this
    have hone : ∀ u ∈ xs.map (Value.int .i64), u.oneCell' = true := by
      intro u hu
      obtain ⟨y, -, rfl⟩ := List.mem_map.mp hu
      rfl
    have HN := Lib.hid hnews
    have hlv : (xs.map (Value.int .i64)).length = len * 1 := by simp [hl]
    have hfin : ∀ (v : Value) (w' : World), w'.ownsRow w.heap.size 3 1 v (0 + len) ([] ++ xs.map (Value.int .i64)) → Own w' w.heap.size v xs := by
      intro v w' h
      unfold Own
      simpa [hl] using h
    have HF := Lib.hid hfin
    have hn2 : len ≤ 1048576 := by omega
    generalize xs.map (Value.int .i64) = vs at *
    clear hnews hcell hs hfin hn hl
    go_enter Try.func75, Try.ntmps75
    go_wp2_with (first | (refine wpList_append_own _ rfl (.tmp 3) (.tmp 4) 24 rfl w.heap.size 3 i0 (.int .i64 0) 1 8 Try.underlying24 hi hz0 hz1 hz2 rfl (by decide) _ 0 _ rfl hmade ⟨b, off, none⟩ len cap vs rfl hlv HN.out hone (by unfold maxLen; omega) (by omega) (by simp) ?_; intro v1 w1 hown1 hgrow1 _))
    have ho := HF.out _ _ hown1
    obtain ⟨a1, c1, rfl⟩ := ho.slice
    refine bodyPost_ret (v := .slice a1 xs.length c1) (by simp [results, Try.results75, go_sem]) rfl ⟨_, _, _, rfl, ho, ?_⟩
    have hb0 : Below w.heap.size w (w.alloc (Obj.cells #[] 3)) := (by repeat' (first | (with_reducible exact Below.refl _ _) | (with_reducible assumption) | (with_reducible refine Below.alloc ?_ ?_ _) | (with_reducible refine Below.setCell ?_ ?_ _) | (with_reducible refine Below.drew ?_) | (with_reducible refine below_drewN ?_ _) | (apply bthen2; (with_reducible assumption)) | go_size))
    refine hb0.grown hgrow1 (by simp) ?_
    intro k hk
    have hk2 : some w.heap.size = some k := hk
    have := Option.some.inj hk2
    omega

theorem clone_any (a : Option Addr) (len cap : Nat) (xs : List Int) (w : World) (hx : Ints w (.slice a len cap) xs) (hn : xs.length ≤ 1048576) : Calls Try.prog 78 #[.slice a len cap] w (GivesOwn xs w) := by
  rcases hx with ⟨a', cap', hs, rfl⟩ | ⟨b, off, len', cap', hs, hl, h0, hc, hm, hbl, hcell⟩
  · obtain ⟨rfl, rfl, rfl⟩ := by simpa using hs
    cases a with
    | none =>
      refine (_root_.Go.Proofs.Try.slices_Clone_int_nil 0 cap w).mono ?_
      rintro e w' ⟨rfl, rfl⟩
      exact ⟨_, _, _, rfl, Own.nil _ _, Below.refl _ _⟩
    | some ad =>
      refine (_root_.Go.Proofs.Try.slices_Clone_int_zero ad cap w).mono ?_
      rintro e w' ⟨v, rfl, h, -, hb⟩
      have ho : Own w' w.heap.size v [] := h
      obtain ⟨a1, c1, rfl⟩ := ho.slice
      exact ⟨_, _, _, rfl, ho, hb⟩
  · obtain ⟨rfl, rfl, rfl⟩ := by simpa using hs
    refine (_root_.Go.Proofs.Try.slices_Clone_int b off len cap xs w (by omega) (by omega) (fun j hj => hcell j (by omega))).mono ?_
    rintro e w' ⟨v, rfl, h, -, hb⟩
    rw [List.take_of_length_le (by omega), ← hl] at h
    have ho : Own w' w.heap.size v xs := h
    obtain ⟨a1, c1, rfl⟩ := ho.slice
    exact ⟨_, _, _, rfl, ho, hb⟩

end Go.Proofs.Ytldmledjdcphmaa
