import Derived.Test.YtfcfjlfobflmaaaDoorDbf
import Derived.Test.YtfcfjlfobflmaaaDoorDrD
import Derived.Test.YtfcfjlfobflmaaaDoorTxt4
import Derived.Test.YtfcfjlfobflmaaaDoorPart
set_option linter.unusedSimpArgs false
set_option linter.unusedVariables false
namespace Go.Proofs.YtfcfjlfobflmaaaDoor
open Go.RowKit
/-! ### doublings agree with one another -/

theorem name_worldM {P : Program} {f : FuncId} {args : Array Value} {W : World} {Q : Ending → World → Prop} (h : ∀ V, V = W → Calls P f args V Q) : Calls P f args W Q := h W rfl
theorem pb_f (x e : Int) : ∃ r : Int, ∃ ok : Bool, pbF x e = .tuple #[.int .i64 r, .bool ok] := by unfold pbF; split <;> exact ⟨_, _, rfl⟩
theorem wt_sign {n : Bool} {xs : List Int} (h : whB n xs = true) : ((wt n xs).length : Int) = ((wt false xs).length : Int) + (if n = true then 1 else 0) := by
  cases n
  · simp
  · obtain ⟨-, -, h3⟩ := whB_can h
    have h4 := h3 rfl
    have h5 : ¬ xs.length = 0 := fun e => h4 (List.length_eq_zero_iff.1 e)
    unfold wt
    rw [if_neg h5, if_neg h5]
    first | (simp; done) | (simp; omega)
theorem wt_le {n : Bool} {xs : List Int} (h : whB n xs = true) : (wt n xs).length ≤ 2000 := by
  obtain ⟨h1, h2, -⟩ := whB_can h
  have := wt_len h1.1 n
  omega
theorem dd_f (n : Bool) (xs : List Int) (h : whB n xs = false) : ddV n xs = (0, false) := dd_0 h
theorem df_f (a b k : Int) : (dfF a b k = .tuple #[.int .i64 0, .bool false]) ∨ (∃ (n c : Nat) (T P : Int), dfF a b k = .tuple #[.int .i64 n, .bool true] ∧ dcF a b = .tuple #[.int .i64 c, .bool true] ∧ c ≤ 63 ∧ 1 ≤ k ∧ k ≤ 1000 ∧ n ≤ 9 ∧ k * (3 + 2 * (c : Int)) = T ∧ 0 ≤ T ∧ T ≤ 129000 ∧ ((4 ^ n : Nat) : Int) = P ∧ T ≤ 3 * P ∧ (n = 0 ∨ ∃ Q : Int, 0 < n ∧ 3 * P = 4 * (3 * Q) ∧ 0 ≤ Q ∧ 3 * Q < T)) := by
  cases h : isC a b with
  | false => exact .inl (df_0 h)
  | true =>
    cases hk : inB k 1 1000 with
    | false => exact .inl (df_1 hk)
    | true =>
      obtain ⟨n, e, h9, h1, h2, h3, h4⟩ := df_law h hk
      have hk2 := inB_g hk
      refine .inr ⟨n, dbC a b, dfT a b k, _, by rw [df_2 h hk, e], by unfold dcF; rw [h]; rfl, dbC_le h, hk2.1, hk2.2, h9, by unfold dfT; rw [Int.mul_comm], h3, h4, rfl, h1, ?_⟩
      rcases h2 with h2 | h2
      · exact .inl h2
      · by_cases h0 : n = 0
        · exact .inl h0
        · obtain ⟨m, rfl⟩ : ∃ m, n = m + 1 := ⟨n - 1, by omega⟩
          refine .inr ⟨((4 ^ m : Nat) : Int), by omega, ?_, by omega, h2⟩
          rw [Nat.pow_succ]; omega
theorem hw_f (a b k : Int) : (hwF a b k = .tuple #[.int .i64 0, .int .i64 0, .bool false]) ∨ (∃ (M K C D Mq Kq l h E : Int), hwF a b k = .tuple #[.int .i64 l, .int .i64 h, .bool true] ∧ dbF a b = .tuple #[.int .i64 M, .int .i64 K, .bool true] ∧ dcF a b = .tuple #[.int .i64 C, .bool true] ∧ 1 ≤ k ∧ k ≤ 6000 ∧ 1 ≤ C ∧ C ≤ 62 ∧ l ≤ 4 * k ∧ 4 * k ≤ h ∧ h ≤ 100000 ∧ -100000 ≤ l ∧ h - l = E ∧ 2 * C + 3 = E ∧ C - 1 = D ∧ M / 2 ^ C.toNat = 0 ∧ K / 2 ^ C.toNat = 0 ∧ M / 2 ^ D.toNat = Mq ∧ K / 2 ^ D.toNat = Kq ∧ (Mq ≠ 0 ∨ Kq ≠ 0)) := by
  cases h : isC a b with
  | false => exact .inl (hw_0 h)
  | true =>
    cases hk : inB k 1 6000 with
    | false => exact .inl (hw_1 hk)
    | true =>
      have hk2 := inB_g hk
      obtain ⟨M, K, c, e1, e2, e3, h1, h2, h3, h4, h5, h6⟩ := dbl_law h
      have p1 : (0 : Int) < 2 ^ c := Int.pow_pos (by decide)
      have t1 : (((c + 1 : Nat) : Int)).toNat = c + 1 := by omega
      have t2 : (((c : Nat) : Int)).toNat = c := by omega
      refine .inr ⟨M, K, ((c + 1 : Nat) : Int), ((c : Nat) : Int), M / 2 ^ c, K / 2 ^ c, _, _, _, by rw [hw_2 h hk, e3], by unfold dbF; rw [h, e1, e2]; rfl, by unfold dcF; rw [h, e3]; rfl, hk2.1, hk2.2, by omega, by omega, by omega, by omega, by omega, by omega, rfl, by omega, by omega, ?_, ?_, by rw [t2], by rw [t2], ?_⟩
      · rw [t1]; exact Int.ediv_eq_zero_of_lt h2 h4
      · rw [t1]; exact Int.ediv_eq_zero_of_lt h3 h5
      · rcases h6 with h6 | h6
        · left
          have := (Int.le_ediv_iff_mul_le (a := 1) (b := M) p1).2 (by omega)
          omega
        · right
          have := (Int.le_ediv_iff_mul_le (a := 1) (b := K) p1).2 (by omega)
          omega

theorem WholeText_ok (n : Bool) (a : Option Addr) (len cap : Nat) (xs : List Int) (w : World) (g : whB n xs = true) (hx : Ints w (.slice a len cap) xs) (htab : ∀ W, Below w.heap.size w W → Lib.TabIs Tryd.prog W "internal/strconv.uint64pow10" .u64 Lib.pow10Tab) :
    Calls Tryd.prog 21 #[.agg #[.bool n, .slice a len cap]] w (Gives (.tuple #[str (wt n xs), .bool true]) w) := by
  have HG := Lib.hid (fun W h => isWhole_any n a len cap xs W h)
  have HX := Lib.hid hx
  rw [g] at HG
  obtain ⟨hc, hl, -⟩ := whB_can g
  have HT := Lib.hid (fun W (hW : Below w.heap.size w W) h => wholeText_any n a len cap xs W h hc.1 (by omega) (fun W2 h2 => htab W2 (hW.trans (h2.mono hW.size))))
  unfold str at HT ⊢
  generalize wt n xs = T at *
  clear g hx hc hl htab
  go_enter Tryd.func21, Tryd.ntmps21
  go_wp2_with fail
  refine (HG.out _ ?_).mono ?_
  · refine Ints.below HX.out ?_; repeat' (first | (with_reducible exact Below.refl _ _) | (with_reducible assumption) | (with_reducible refine Below.alloc ?_ ?_ _) | (with_reducible refine Below.setCell ?_ ?_ _) | (with_reducible refine Below.drew ?_) | (with_reducible refine below_drewN ?_ _) | (apply bthen2; (with_reducible assumption)) | go_size)
  rintro e wa ⟨rfl, hba⟩; have hza := hba.size; (try simp only [World.size_alloc, World.size_setCell, World.size_drew, World.heap_drewN] at hza); try (refine keepc hba (w.heap.size) ?_ ?_; (focus (first | omega | (simp <;> omega))); intro hca_0 hfa_0 hla_0); try (refine keepc hba (w.heap.size + 1) ?_ ?_; (focus (first | omega | (simp <;> omega))); intro hca_1 hfa_1 hla_1); try (refine keepc hba (w.heap.size + 1 + 1) ?_ ?_; (focus (first | omega | (simp <;> omega))); intro hca_2 hfa_2 hla_2)
  go_wp2_with fail
  refine (HT.out _ ?_ ?_).mono ?_
  · repeat' (first | (with_reducible exact Below.refl _ _) | (with_reducible assumption) | (with_reducible refine Below.alloc ?_ ?_ _) | (with_reducible refine Below.setCell ?_ ?_ _) | (with_reducible refine Below.drew ?_) | (with_reducible refine below_drewN ?_ _) | (apply bthen2; (with_reducible assumption)) | go_size)
  · refine Ints.below HX.out ?_; repeat' (first | (with_reducible exact Below.refl _ _) | (with_reducible assumption) | (with_reducible refine Below.alloc ?_ ?_ _) | (with_reducible refine Below.setCell ?_ ?_ _) | (with_reducible refine Below.drew ?_) | (with_reducible refine below_drewN ?_ _) | (apply bthen2; (with_reducible assumption)) | go_size)
  rintro e wb ⟨rfl, hbb⟩; have hzb := hbb.size; (try simp only [World.size_alloc, World.size_setCell, World.size_drew, World.heap_drewN] at hzb); try (refine keepc hbb (w.heap.size) ?_ ?_; (focus (first | omega | (simp <;> omega))); intro hcb_0 hfb_0 hlb_0); try (refine keepc hbb (w.heap.size + 1) ?_ ?_; (focus (first | omega | (simp <;> omega))); intro hcb_1 hfb_1 hlb_1); try (refine keepc hbb (w.heap.size + 1 + 1) ?_ ?_; (focus (first | omega | (simp <;> omega))); intro hcb_2 hfb_2 hlb_2)
  go_wp2
  go_ret2
  exact gives rfl (by repeat' (first | (with_reducible exact Below.refl _ _) | (with_reducible assumption) | (with_reducible refine Below.alloc ?_ ?_ _) | (with_reducible refine Below.setCell ?_ ?_ _) | (with_reducible refine Below.drew ?_) | (with_reducible refine below_drewN ?_ _) | (apply bthen2; (with_reducible assumption)) | go_size))

end Go.Proofs.YtfcfjlfobflmaaaDoor
