import Derived.Test.YtelkmldmebdcgaaLgf
import Derived.Test.YtelkmldmebdcgaaDrW
import Derived.Test.YtelkmldmebdcgaaPart
set_option linter.unusedSimpArgs false
set_option linter.unusedVariables false
namespace Go.Proofs.Ytelkmldmebdcgaa
open Go.RowKit
/-! ### logarithms agree with one another -/

theorem name_worldM {P : Program} {f : FuncId} {args : Array Value} {W : World} {Q : Ending → World → Prop} (h : ∀ V, V = W → Calls P f args V Q) : Calls P f args W Q := h W rfl
def blV (n : Bool) (xs : List Int) : Int × Bool := if whB n xs = true then ((bl (val xs).toNat : Int), true) else (0, false)
theorem blV_1 {n : Bool} {xs : List Int} (h : whB n xs = true) : blV n xs = ((bl (val xs).toNat : Int), true) := if_pos h
theorem blV_0 {n : Bool} {xs : List Int} (h : whB n xs = false) : blV n xs = (0, false) := if_neg (by rw [h]; decide)
theorem cmp_no {n1 n2 : Bool} {xs ys : List Int} (h : (whB n1 xs && whB n2 ys) = false) : cszV n1 xs n2 ys = .tuple #[.int .i64 0, .bool false] ∧ gw n1 xs n2 ys = (false, false, []) ∧ hbV n1 xs n2 ys = .tuple #[.int .i64 0, .bool false] := by
  refine ⟨?_, ?_, ?_⟩
  · unfold cszV; rw [h]; rfl
  · unfold gw; rw [h]; rfl
  · unfold hbV; rw [h]; rfl
theorem hb_rng {n : Bool} {xs : List Int} (h : whB n xs = true) : bl (val xs).toNat ≤ 5600 := by
  obtain ⟨z, rfl, rfl, hl⟩ := whB_z h
  rw [val_dg]
  have := bl_dg z.natAbs
  simp only [Int.toNat_natCast]; omega
theorem cmp_yes {n1 n2 : Bool} {xs ys : List Int} (h : (whB n1 xs && whB n2 ys) = true) : ∃ (c : Int) (g : Bool) (gs : List Int), cszV n1 xs n2 ys = .tuple #[.int .i64 c, .bool true] ∧ gw n1 xs n2 ys = (true, g, gs) ∧ gs.length ≤ 1000 ∧ (hbV n1 xs n2 ys = .tuple #[.int .i64 0, .bool false] ∨ ∃ b p q : Int, hbV n1 xs n2 ys = .tuple #[.int .i64 b, .bool true] ∧ blV n1 xs = (p, true) ∧ blV n2 ys = (q, true) ∧ blV g gs = (b, true) ∧ p ≤ b ∧ q ≤ b ∧ (b = p ∨ b = q)) := by
  have h12 := h
  rw [Bool.and_eq_true] at h12
  obtain ⟨h1, h2⟩ := h12
  have v1 := val_nn h1; have v2 := val_nn h2
  obtain ⟨c, g, gs, hc, hg, hgl⟩ : ∃ (c : Int) (g : Bool) (gs : List Int), cszV n1 xs n2 ys = .tuple #[.int .i64 c, .bool true] ∧ gw n1 xs n2 ys = (true, g, gs) ∧ (whB g gs = true ∧ val gs = max (val xs) (val ys)) := by
    by_cases hlt : val xs < val ys
    · refine ⟨cmpI (val xs) (val ys), n2, ys, by unfold cszV; rw [h]; rfl, gw_2 h1 h2 hlt, h2, by omega⟩
    · refine ⟨cmpI (val xs) (val ys), n1, xs, by unfold cszV; rw [h]; rfl, gw_3 h1 h2 hlt, h1, by omega⟩
  refine ⟨c, g, gs, hc, hg, ?_, ?_⟩
  · obtain ⟨z, rfl, rfl, hl⟩ := whB_z hgl.1; omega
  · by_cases h0 : xs.length + ys.length = 0
    · exact .inl (hb_2 h0)
    · refine .inr ⟨_, _, _, hb_3 h1 h2 h0, blV_1 h1, blV_1 h2, ?_, ?_⟩
      · rw [blV_1 hgl.1, hgl.2]
      · have hm : (max (val xs) (val ys)).toNat = max (val xs).toNat (val ys).toNat := by omega
        rw [hm, bl_max]
        omega

theorem BitLength_any (n : Bool) (a : Option Addr) (len cap : Nat) (xs : List Int) (w : World) (hx : Ints w (.slice a len cap) xs) :
    Calls Try.prog 47 #[.agg #[.bool n, .slice a len cap]] w (Gives (.tuple #[.int .i64 (blV n xs).1, .bool (blV n xs).2]) w) := by
  have H1 := Lib.hid (fun W h => isWhole_any n a len cap xs W h)
  have HX := Lib.hid hx
  cases g1 : whB n xs
  · rw [blV_0 g1]
    rw [g1] at H1
    clear hx
    go_enter Try.func47, Try.ntmps47
    go_wp2_with fail
    refine (H1.out _ ?_).mono ?_
    · refine Ints.below HX.out ?_; repeat' (first | (with_reducible exact Below.refl _ _) | (with_reducible assumption) | (with_reducible refine Below.alloc ?_ ?_ _) | (with_reducible refine Below.setCell ?_ ?_ _) | (with_reducible refine Below.drew ?_) | (with_reducible refine below_drewN ?_ _) | (apply bthen2; (with_reducible assumption)) | go_size)
    rintro e wa ⟨rfl, hba⟩; have hza := hba.size; (try simp only [World.size_alloc, World.size_setCell, World.size_drew, World.heap_drewN] at hza); try (refine keepc hba (w.heap.size) ?_ ?_; (focus (first | omega | (simp <;> omega))); intro hca_0 hfa_0 hla_0); try (refine keepc hba (w.heap.size + 1) ?_ ?_; (focus (first | omega | (simp <;> omega))); intro hca_1 hfa_1 hla_1); try (refine keepc hba (w.heap.size + 1 + 1) ?_ ?_; (focus (first | omega | (simp <;> omega))); intro hca_2 hfa_2 hla_2)
    go_wp2
    go_ret2
    exact gives rfl (by repeat' (first | (with_reducible exact Below.refl _ _) | (with_reducible assumption) | (with_reducible refine Below.alloc ?_ ?_ _) | (with_reducible refine Below.setCell ?_ ?_ _) | (with_reducible refine Below.drew ?_) | (with_reducible refine below_drewN ?_ _) | (apply bthen2; (with_reducible assumption)) | go_size))
  · rw [blV_1 g1]
    obtain ⟨z, rfl, rfl, hl⟩ := whB_z g1
    have HB := Lib.hid (fun W h => bitLength_any (decide (z < 0)) a len cap (dg z.natAbs) W h (can_dg _).1 (by omega))
    rw [g1] at H1
    generalize (bl (val (dg z.natAbs)).toNat) = B at *
    generalize decide (z < 0) = n at *
    generalize dg z.natAbs = xs at *
    clear hx
    go_enter Try.func47, Try.ntmps47
    go_wp2_with fail
    refine (H1.out _ ?_).mono ?_
    · refine Ints.below HX.out ?_; repeat' (first | (with_reducible exact Below.refl _ _) | (with_reducible assumption) | (with_reducible refine Below.alloc ?_ ?_ _) | (with_reducible refine Below.setCell ?_ ?_ _) | (with_reducible refine Below.drew ?_) | (with_reducible refine below_drewN ?_ _) | (apply bthen2; (with_reducible assumption)) | go_size)
    rintro e wa ⟨rfl, hba⟩; have hza := hba.size; (try simp only [World.size_alloc, World.size_setCell, World.size_drew, World.heap_drewN] at hza); try (refine keepc hba (w.heap.size) ?_ ?_; (focus (first | omega | (simp <;> omega))); intro hca_0 hfa_0 hla_0); try (refine keepc hba (w.heap.size + 1) ?_ ?_; (focus (first | omega | (simp <;> omega))); intro hca_1 hfa_1 hla_1); try (refine keepc hba (w.heap.size + 1 + 1) ?_ ?_; (focus (first | omega | (simp <;> omega))); intro hca_2 hfa_2 hla_2)
    go_wp2_with fail
    refine (HB.out _ ?_).mono ?_
    · refine Ints.below HX.out ?_; repeat' (first | (with_reducible exact Below.refl _ _) | (with_reducible assumption) | (with_reducible refine Below.alloc ?_ ?_ _) | (with_reducible refine Below.setCell ?_ ?_ _) | (with_reducible refine Below.drew ?_) | (with_reducible refine below_drewN ?_ _) | (apply bthen2; (with_reducible assumption)) | go_size)
    rintro e wb ⟨rfl, hbb⟩; have hzb := hbb.size; (try simp only [World.size_alloc, World.size_setCell, World.size_drew, World.heap_drewN] at hzb); try (refine keepc hbb (w.heap.size) ?_ ?_; (focus (first | omega | (simp <;> omega))); intro hcb_0 hfb_0 hlb_0); try (refine keepc hbb (w.heap.size + 1) ?_ ?_; (focus (first | omega | (simp <;> omega))); intro hcb_1 hfb_1 hlb_1); try (refine keepc hbb (w.heap.size + 1 + 1) ?_ ?_; (focus (first | omega | (simp <;> omega))); intro hcb_2 hfb_2 hlb_2)
    go_wp2
    go_ret2
    exact gives rfl (by repeat' (first | (with_reducible exact Below.refl _ _) | (with_reducible assumption) | (with_reducible refine Below.alloc ?_ ?_ _) | (with_reducible refine Below.setCell ?_ ?_ _) | (with_reducible refine Below.drew ?_) | (with_reducible refine below_drewN ?_ _) | (apply bthen2; (with_reducible assumption)) | go_size))

theorem sameIntsW_same (s t : Value) (xs : List Int) (w : World) (hx : Ints w s xs) (hy : Ints w t xs) : Calls Try.prog 56 #[s, t] w (Gives (.bool true) w) := by
  rcases hx with ⟨a, cap, rfl, hx0⟩ | ⟨b, off, len, cap, rfl, hl, h0, hc, hm, hbl, hcell⟩
  · rcases hy with ⟨a', cap', rfl, _⟩ | ⟨b', off', len', cap', rfl, hl', h0', _⟩
    · clear hx0
      go_enter Try.func56, Try.ntmps56
      go_wp2
      refine wp_loop_rounds 1 ?_; rw [rounds_succ]
      go_wp2
      go_ret
      exact gives rfl (by repeat' (first | (with_reducible exact Below.refl _ _) | (with_reducible assumption) | (with_reducible refine Below.alloc ?_ ?_ _) | (with_reducible refine Below.setCell ?_ ?_ _) | (with_reducible refine Below.drew ?_) | (with_reducible refine below_drewN ?_ _) | (apply bthen2; (with_reducible assumption)) | go_size))
    · subst hx0; simp at hl'; omega
  · rcases hy with ⟨a', cap', rfl, hy0⟩ | ⟨b', off', len', cap', rfl, hl', h0', hc', hm', hbl', hcell'⟩
    · subst hy0; simp at hl; omega
    · obtain rfl : len = len' := by omega
      unfold maxLen at hm hm'
      have HC := Lib.hid hcell; have HC' := Lib.hid hcell'; clear hcell hcell' hl hl'
      go_enter Try.func56, Try.ntmps56
      go_wp2
      go_loopw [13] (fun v9 wr => ∃ k : Nat, k ≤ len ∧ v9 = .int .i64 k ∧ ∃ n, wr = w.drewN n) (fun v9 _ => len - (intOf v9).toNat)
      case atStart => exact ⟨0, by omega, rfl, 0, rfl⟩
      case round =>
        obtain ⟨k, hk, rfl, n, rfl⟩ := hrel
        by_cases hlt : k < len
        · have c1 := HC.out k hlt
          have c2 := HC'.out k hlt
          go_wp2
          go_quiet (fail)
          go_wp2
          go_roundw
          case rel => exact ⟨k + 1, by omega, by go_num, _, rfl⟩
          case measure => simp [intOf]; omega
        · go_wp2
          go_ret
          exact gives rfl (by repeat' (first | (with_reducible exact Below.refl _ _) | (with_reducible assumption) | (with_reducible refine Below.alloc ?_ ?_ _) | (with_reducible refine Below.setCell ?_ ?_ _) | (with_reducible refine Below.drew ?_) | (with_reducible refine below_drewN ?_ _) | (apply bthen2; (with_reducible assumption)) | go_size))
theorem pSameWhole_same (n : Bool) (a a2 : Option Addr) (l c l2 c2 : Nat) (xs : List Int) (w : World) (hx : Ints w (.slice a l c) xs) (hy : Ints w (.slice a2 l2 c2) xs) :
    Calls Try.prog 46 #[.agg #[.bool n, .slice a l c], .agg #[.bool n, .slice a2 l2 c2]] w (Gives (.bool true) w) := by
  have HS := Lib.hid (fun W h h' => sameIntsW_same (.slice a l c) (.slice a2 l2 c2) xs W h h')
  have HX := Lib.hid hx; have HY := Lib.hid hy
  clear hx hy
  cases n
  all_goals
    go_enter Try.func46, Try.ntmps46
    go_wp2_with fail
    refine (HS.out _ ?_ ?_).mono ?_
    · refine Ints.below HX.out ?_; repeat' (first | (with_reducible exact Below.refl _ _) | (with_reducible assumption) | (with_reducible refine Below.alloc ?_ ?_ _) | (with_reducible refine Below.setCell ?_ ?_ _) | (with_reducible refine Below.drew ?_) | (with_reducible refine below_drewN ?_ _) | (apply bthen2; (with_reducible assumption)) | go_size)
    · refine Ints.below HY.out ?_; repeat' (first | (with_reducible exact Below.refl _ _) | (with_reducible assumption) | (with_reducible refine Below.alloc ?_ ?_ _) | (with_reducible refine Below.setCell ?_ ?_ _) | (with_reducible refine Below.drew ?_) | (with_reducible refine below_drewN ?_ _) | (apply bthen2; (with_reducible assumption)) | go_size)
    rintro e wa ⟨rfl, hba⟩; have hza := hba.size; (try simp only [World.size_alloc, World.size_setCell, World.size_drew, World.heap_drewN] at hza); try (refine keepc hba (w.heap.size) ?_ ?_; (focus (first | omega | (simp <;> omega))); intro hca_0 hfa_0 hla_0); try (refine keepc hba (w.heap.size + 1) ?_ ?_; (focus (first | omega | (simp <;> omega))); intro hca_1 hfa_1 hla_1); try (refine keepc hba (w.heap.size + 1 + 1) ?_ ?_; (focus (first | omega | (simp <;> omega))); intro hca_2 hfa_2 hla_2)
    go_wp2
    go_ret
    exact gives rfl (by repeat' (first | (with_reducible exact Below.refl _ _) | (with_reducible assumption) | (with_reducible refine Below.alloc ?_ ?_ _) | (with_reducible refine Below.setCell ?_ ?_ _) | (with_reducible refine Below.drew ?_) | (with_reducible refine below_drewN ?_ _) | (apply bthen2; (with_reducible assumption)) | go_size))

end Go.Proofs.Ytelkmldmebdcgaa
