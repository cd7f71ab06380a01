import Derived.Test.YtopdeoicglkbkaaOwnX
import Derived.Laws.AppendOwnNone
set_option linter.unusedSimpArgs false
set_option linter.unusedVariables false
namespace Go.Proofs.Ytopdeoicglkbkaa
open Go.RowKit
/-! ### marks in slices of ints -/

theorem own_only {w w' : World} {B : Nat} {v : Value} {xs : List Int} {g : Option Nat} (h : Own w B v xs) (ho : Only g w w') (hne : v.ownBlock = none ∨ v.ownBlock ≠ g) : Own w' B v xs := ownsRow_only h ho hne
def mkI (k0 : Int) (n : Nat) : List Int := (List.range n).map fun (i : Nat) => k0 + (i : Int)
theorem mkI_len (k0 : Int) (n : Nat) : (mkI k0 n).length = n := by simp [mkI]
theorem mkI_at (k0 : Int) (n i : Nat) (h : i < n) : (mkI k0 n).getD i 0 = k0 + (i : Int) := by simp [mkI, List.getD, h]
def mixI (k0 : Int) (xs : List Int) (i : Nat) : List Int := mkI k0 i ++ xs.drop i
theorem mixI_len (k0 : Int) (xs : List Int) (i : Nat) (h : i ≤ xs.length) : (mixI k0 xs i).length = xs.length := by simp [mixI, mkI_len]; omega
theorem mixI_0 (k0 : Int) (xs : List Int) : mixI k0 xs 0 = xs := by simp [mixI, mkI]
theorem mixI_end (k0 : Int) (xs : List Int) : mixI k0 xs xs.length = mkI k0 xs.length := by simp [mixI]
theorem mixI_set (k0 : Int) (xs : List Int) (i : Nat) (h : i < xs.length) : ((mixI k0 xs i).map (Value.int .i64)).set i (.int .i64 (k0 + (i : Int))) = (mixI k0 xs (i + 1)).map (Value.int .i64) := by
  rw [← List.map_set]
  congr 1
  unfold mixI
  rw [List.set_append_right _ _ (by rw [mkI_len]; exact Nat.le_refl _), mkI_len, Nat.sub_self, List.drop_eq_getElem_cons h, List.set_cons_zero]
  unfold mkI
  rw [List.range_succ, List.map_append]
  simp
theorem mark_belowI {W we wd wf : World} {v : Value} {xs : List Int} (own : Own wd W.heap.size v xs) (hbd : Below W.heap.size W wd) (hbe : Below wd.heap.size wd we) (hon : Only v.ownBlock we wf) : Below W.heap.size W wf :=
  (hbd.trans (hbe.mono hbd.size)).trans (hon.below (Nat.le_trans hbd.size hbe.size) fun k hk => (_root_.Go.World.ownsRow.lt own k hk).1)

set_option maxHeartbeats 1000000 in
theorem markIntS_any (B : Nat) (v : Value) (xs : List Int) (k0 : Int) (w : World) (h : Own w B v xs) (hk0 : 0 ≤ k0) (hk1 : k0 + (xs.length : Int) ≤ 1000000000000) :
    Calls Try.prog 60 #[v, .int .i64 k0] w (fun e w' => e = .returned (.int .i64 (k0 + (xs.length : Int))) ∧ Own w' B v (mkI k0 xs.length) ∧ Only v.ownBlock w w') := by
  obtain ⟨a, cap, rfl⟩ := h.slice
  have hinit : Own w B (.slice a xs.length cap) (mixI k0 xs 0) := by rw [mixI_0]; exact h
  have hend : mixI k0 xs xs.length = mkI k0 xs.length := mixI_end k0 xs
  have hset := fun i hi => mixI_set k0 xs i hi
  have hlen := fun i hi => mixI_len k0 xs i hi
  have HI := Lib.hid hinit; have HE := Lib.hid hend; have HS := Lib.hid hset; have HL := Lib.hid hlen
  have hpos : 0 < xs.length → ∃ g, a = some ⟨g, 0, none⟩ := by
    intro hp
    rcases h.2 with ⟨hv, hn⟩ | ⟨g, cap', cur, hv, _⟩
    · omega
    · simp only [Value.slice.injEq] at hv; exact ⟨g, hv.1⟩
  have HP := Lib.hid hpos
  clear hinit hend hset hlen hpos h
  generalize xs.length = n at *
  go_enter Try.func60, Try.ntmps60
  go_wp2
  go_loopw [1, 5] (fun v1 v5 wr => ∃ k : Nat, k ≤ n ∧ v5 = .int .i64 k ∧ v1 = .int .i64 (k0 + (k : Int)) ∧ Own wr B (.slice a n cap) (mixI k0 xs k) ∧ Only (Value.slice a n cap).ownBlock w wr) (fun _ v5 _ => n - (intOf v5).toNat)
  case atStart => exact ⟨0, by omega, rfl, by simp, HI.out, Only.refl _ _⟩
  case round =>
    clear HI
    obtain ⟨k, hk, rfl, rfl, hown, hon⟩ := hrel
    by_cases hlt : k < n
    · obtain ⟨g, rfl⟩ := HP.out (by omega)
      have hl := HL.out k (by omega)
      unfold Own at hown
      rw [hl] at hown
      have st := _root_.Go.World.ownsRow.stored hown k (.int .i64 (k0 + (k : Int)))
      have c0 := _root_.Go.World.ownsRow.cellAt hown k (by omega)
      have f0 := _root_.Go.World.ownsRow.frozenAt hown k
      have g0 : ∃ u, ((mixI k0 xs k).map (Value.int .i64))[k]? = some u := ⟨_, List.getElem?_eq_getElem (by simp; omega)⟩
      obtain ⟨u, g0⟩ := g0
      rw [g0] at c0
      have hnew := st.1
      rw [HS.out k (by omega)] at hnew
      have hO := hon.trans (Only.of_grown st.2)
      have HN := Lib.hid hnew; have HO := Lib.hid hO
      have hl2 := HL.out (k + 1) (by omega)
      have HL2 := Lib.hid hl2
      clear st hown hnew hO g0 hl hl2 hon HP
      go_wp2
      go_roundw
      case rel => exact ⟨k + 1, by omega, by go_num, by go_num, by unfold Own; rw [HL2.out]; exact HN.out, HO.out⟩
      case measure => simp [intOf]; omega
    · have e : k = n := by omega
      subst e
      go_wp2
      go_ret
      exact ⟨rfl, by rw [← HE.out]; exact hown, hon⟩

set_option maxHeartbeats 1000000 in
theorem heldIntS_any (v : Value) (n : Nat) (k0 : Int) (w : World) (h : Ints w v (mkI k0 n)) (hk0 : 0 ≤ k0) (hk1 : k0 + (n : Int) ≤ 1000000000000) :
    Calls Try.prog 61 #[v, .int .i64 k0] w (Same (.int .i64 (k0 + (n : Int))) w) := by
  obtain ⟨a, len, cap, rfl⟩ : ∃ a len cap, v = .slice a len cap := by
    rcases h with ⟨a, cap, rfl, _⟩ | ⟨b, off, len, cap, rfl, _⟩ <;> exact ⟨_, _, _, rfl⟩
  obtain ⟨h1, h2, h3⟩ := h.cell
  rw [mkI_len] at h1
  subst h1
  have HC := Lib.hid (show ∀ i, i < n → ∃ b off, a = some ⟨b, off, none⟩ ∧ b < w.heap.size ∧ w.cell? ⟨b, off + i, none⟩ = some (.int .i64 (k0 + (i : Int))) from fun i hi => by
    obtain ⟨b, off, q1, q2, q3⟩ := h3 i hi
    rw [mkI_at k0 n i hi] at q3
    exact ⟨b, off, q1, q2, q3⟩)
  clear h3 h
  go_enter Try.func61, Try.ntmps61
  go_wp2
  go_loop [1, 5] (fun v1 v5 => ∃ k : Nat, k ≤ n ∧ v5 = .int .i64 k ∧ v1 = .int .i64 (k0 + (k : Int))) (fun _ v5 => n - (intOf v5).toNat)
  case atStart => exact ⟨0, by omega, rfl, by simp⟩
  case round =>
    obtain ⟨k, hk, rfl, rfl⟩ := hrel
    by_cases hlt : k < n
    · obtain ⟨b, off, ha, hbl, c0⟩ := HC.out k hlt
      subst ha
      go_wp2
      go_round
      case rel => exact ⟨k + 1, by omega, by go_num, by go_num⟩
      case measure => simp [intOf]; omega
    · have e : k = n := by omega
      subst e
      go_wp2
      go_ret
      exact same rfl

end Go.Proofs.Ytopdeoicglkbkaa
