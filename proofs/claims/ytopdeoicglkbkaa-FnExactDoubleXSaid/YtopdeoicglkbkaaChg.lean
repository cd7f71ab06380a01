import Derived.Test.YtopdeoicglkbkaaSeg
import Derived.Test.YtopdeoicglkbkaaMarkW
import Derived.Test.YtopdeoicglkbkaaRatio
import Derived.Test.YtopdeoicglkbkaaMk4
set_option linter.unusedSimpArgs false
set_option linter.unusedVariables false
namespace Go.Proofs.Ytopdeoicglkbkaa
open Go.RowKit
/-! ### marks on wholes and ratios, and what they leave alone -/

/-- Nothing outside the blocks lo .. hi - 1 may have changed. -/
structure Chg (lo hi : Nat) (w w' : World) : Prop where
  os : w'.os = w.os
  tape : w'.tape = w.tape
  output : w'.output = w.output
  size : w.heap.size ≤ w'.heap.size
  block : ∀ k, k < w.heap.size → (k < lo ∨ hi ≤ k) → w'.heap[k]? = w.heap[k]?
theorem Chg.of {lo hi : Nat} {w w' : World} {g : Option Nat} (h : Only g w w') (hg : ∀ b, g = some b → lo ≤ b ∧ b < hi) : Chg lo hi w w' :=
  ⟨h.os, h.tape, h.output, h.size, fun k hk hq => h.block k hk (fun e => by have := hg k e.symm; omega)⟩
theorem Chg.trans {lo hi : Nat} {a b c : World} (h : Chg lo hi a b) (k : Chg lo hi b c) : Chg lo hi a c :=
  ⟨k.os.trans h.os, k.tape.trans h.tape, k.output.trans h.output, Nat.le_trans h.size k.size, fun i hi hg => (k.block i (Nat.lt_of_lt_of_le hi h.size) hg).trans (h.block i hi hg)⟩
theorem Chg.mono {lo hi lo' hi' : Nat} {a b : World} (h : Chg lo hi a b) (h1 : lo' ≤ lo) (h2 : hi ≤ hi') : Chg lo' hi' a b :=
  ⟨h.os, h.tape, h.output, h.size, fun k hk hq => h.block k hk (by omega)⟩
theorem Chg.refl (lo hi : Nat) (w : World) : Chg lo hi w w := ⟨rfl, rfl, rfl, Nat.le_refl _, fun _ _ _ => rfl⟩
theorem Chg.alloc {lo hi : Nat} {a b : World} (h : Chg lo hi a b) (o : Obj) : Chg lo hi a (b.alloc o) :=
  ⟨h.os, h.tape, h.output, Nat.le_trans h.size (by simp), fun k hk hg => by
    rw [← h.block k hk hg]
    exact (Below.alloc (Below.refl b.heap.size b) (Nat.le_refl _) o).block k (Nat.lt_of_lt_of_le hk h.size)⟩
theorem Chg.below {lo hi N : Nat} {a b : World} (h : Chg lo hi a b) (h1 : N ≤ lo) (h2 : N ≤ a.heap.size) : Below N a b :=
  ⟨h.os, h.tape, h.output, h.size, fun k hk => h.block k (by omega) (by omega)⟩
theorem Chg.cell {lo hi : Nat} {a b : World} (h : Chg lo hi a b) {k o : Nat} (h1 : k < a.heap.size) (h2 : k < lo ∨ hi ≤ k) {v : Option Value} (hv : a.cell? ⟨k, o, none⟩ = v) : b.cell? ⟨k, o, none⟩ = v :=
  (World.cell?_of_block (w := a) (w' := b) (a := ⟨k, o, none⟩) (h.block k h1 h2)).trans hv
theorem Seg.chg {w w' : World} {lo hi lo' hi' : Nat} {s : Value} {xs : List Int} (h : Seg w lo hi s xs) (hc : Chg lo' hi' w w') (hd : hi ≤ lo' ∨ hi' ≤ lo) : Seg w' lo hi s xs := by
  obtain ⟨⟨h1, h2⟩, h3⟩ := h
  refine ⟨⟨h1, ?_⟩, h3⟩
  rcases h2 with h2 | ⟨g, cap, cur, hv, hg, hh, r⟩
  · exact .inl h2
  · have q : g < hi := h3 g (by rw [hv]; rfl)
    have q2 : g < w.heap.size := by
      rcases Nat.lt_or_ge g w.heap.size with q | q
      · exact q
      · rw [Array.getElem?_eq_none q] at hh; cases hh
    exact .inr ⟨g, cap, cur, hv, hg, (hc.block g q2 (by omega)).trans hh, r⟩

theorem Two.segs {w : World} {B : Nat} {a1 : Option Addr} {l1 c1 : Nat} {xs : List Int} {s2 : Value} {ys : List Int} (h : Two w B a1 l1 c1 xs s2 ys) (hB : B ≤ w.heap.size) : ∃ C, Seg w B C (.slice a1 l1 c1) xs ∧ Seg w C w.heap.size s2 ys ∧ B ≤ C ∧ C ≤ w.heap.size := by
  obtain ⟨C, h1, h2, h3, h4⟩ := h
  refine ⟨min C w.heap.size, ⟨h1, fun b hb => ?_⟩, Seg.of (h2.mono (by omega)), by omega, by omega⟩
  have q := (h1.lt hb).1
  cases a1 with
  | none => cases hb
  | some ad =>
    have q2 := h4 ad rfl
    have e : ad.block = b := by simpa [Value.ownBlock] using hb
    omega

theorem szL_ok {xs : List Int} {left : Int} (h0 : 0 ≤ left) (h1 : left ≤ 1048576) (h : ¬ szL xs left < 0) : szL xs left ≤ 1048576 ∧ xs.length ≤ 1048576 := by
  unfold szL at h ⊢; split at h <;> (try split) <;> omega

theorem szR_ok {xs ys : List Int} {left : Int} (h0 : 0 ≤ left) (h1 : left ≤ 1048576) (h : ¬ szR xs ys left < 0) : szR xs ys left ≤ 1048576 ∧ xs.length ≤ 1048576 ∧ ys.length ≤ 1048576 := by
  have q := szL_le xs h0
  by_cases g : szL xs left < 0
  · exfalso; unfold szR at h; rw [if_pos g] at h; omega
  have e : szR xs ys left = szL ys (szL xs left) := by unfold szR; rw [if_neg g]
  rw [e] at h ⊢
  have q1 := szL_ok h0 h1 g
  have q2 := szL_ok (by omega) (by omega) h
  exact ⟨q2.1, q1.2, q2.2⟩

theorem markWhole_seg (neg : Bool) (lo hi : Nat) (a : Option Addr) (len cap : Nat) (xs : List Int) (k0 : Int) (w : World) (h : Seg w lo hi (.slice a len cap) xs) (hk0 : 0 ≤ k0) (hk1 : k0 + (xs.length : Int) ≤ 1000000000000) :
    Calls Try.prog 28 #[.agg #[.bool neg, .slice a len cap], .int .i64 k0] w (fun e w' => e = .returned (.int .i64 (k0 + (xs.length : Int))) ∧ Seg w' lo hi (.slice a len cap) (mkI k0 xs.length) ∧ Chg lo hi w w') := by
  refine (markWhole_any neg lo a len cap xs k0 w h.1 hk0 hk1).mono ?_
  rintro e w' ⟨rfl, h1, h2⟩
  exact ⟨rfl, ⟨h1, h.2⟩, Chg.of h2 (fun b hb => ⟨(h.1.lt hb).2, h.2 b hb⟩)⟩

set_option maxHeartbeats 1000000 in
theorem markRatio_seg (n1 n2 : Bool) (lo mid hi : Nat) (a a2 : Option Addr) (len cap len2 cap2 : Nat) (xs ys : List Int) (k0 : Int) (w : World) (h : Seg w lo mid (.slice a len cap) xs) (h2 : Seg w mid hi (.slice a2 len2 cap2) ys) (hl : lo ≤ mid) (hm : mid ≤ hi) (hh : hi ≤ w.heap.size) (hk0 : 0 ≤ k0) (hk1 : k0 + (xs.length : Int) + (ys.length : Int) ≤ 1000000000000) :
    Calls Try.prog 17 #[.agg #[.bool n1, .slice a len cap, .bool n2, .slice a2 len2 cap2], .int .i64 k0] w (fun e w' => e = .returned (.int .i64 (k0 + (xs.length : Int) + (ys.length : Int))) ∧ Seg w' lo mid (.slice a len cap) (mkI k0 xs.length) ∧ Seg w' mid hi (.slice a2 len2 cap2) (mkI (k0 + (xs.length : Int)) ys.length) ∧ Chg lo hi w w') := by
  have H1 := Lib.hid (fun W hW => markWhole_seg n1 lo mid a len cap xs k0 W hW hk0 (by omega))
  have H2 := Lib.hid (fun W hW => markWhole_seg n2 mid hi a2 len2 cap2 ys (k0 + (xs.length : Int)) W hW (by omega) (by omega))
  have HX := Lib.hid h; have HY := Lib.hid h2
  obtain ⟨K1, hK1⟩ : ∃ K, k0 + (xs.length : Int) = K := ⟨_, rfl⟩
  rw [hK1] at H1 H2 ⊢
  obtain ⟨K2, hK2⟩ : ∃ K, K1 + (ys.length : Int) = K := ⟨_, rfl⟩
  rw [hK2] at H2 ⊢
  clear h h2 hK1 hK2 hk1
  go_enter Try.func17, Try.ntmps17
  go_wp2_with fail
  refine (H1.out _ ?_).mono ?_
  · exact HX.out.alloc _
  rintro e w1 ⟨rfl, ho, hon⟩
  have hc1 := ((Chg.refl lo mid w).alloc _).trans hon
  have hs1 := hon.size
  have hy1 := (HY.out.alloc _).chg hon (.inr (Nat.le_refl _))
  have c2 : w1.cell? ⟨w.heap.size, 2, none⟩ = some (.bool n2) := hon.cell (by simp) (.inr (by omega)) (by simp)
  have c3 : w1.cell? ⟨w.heap.size, 3, none⟩ = some (.slice a2 len2 cap2) := hon.cell (by simp) (.inr (by omega)) (by simp)
  go_wp2_with fail
  refine (H2.out _ ?_).mono ?_
  · exact hy1
  rintro e w2 ⟨rfl, ho2, hon2⟩
  have hf := (hc1.mono (Nat.le_refl _) hm).trans (hon2.mono hl (Nat.le_refl _))
  have ho1 := ho.chg hon2 (.inl (Nat.le_refl _))
  go_wp2_with fail
  go_ret
  exact ⟨rfl, ho1, ho2, hf⟩

theorem heldRatio_any (n1 n2 : Bool) (a a2 : Option Addr) (len cap len2 cap2 n m : Nat) (k0 : Int) (w : World) (h : Ints w (.slice a len cap) (mkI k0 n)) (h2 : Ints w (.slice a2 len2 cap2) (mkI (k0 + (n : Int)) m)) (hk0 : 0 ≤ k0) (hk1 : k0 + (n : Int) + (m : Int) ≤ 1000000000000) :
    Calls Try.prog 18 #[.agg #[.bool n1, .slice a len cap, .bool n2, .slice a2 len2 cap2], .int .i64 k0] w (Gives (.int .i64 (k0 + (n : Int) + (m : Int))) w) := by
  have H1 := Lib.hid (fun W hW => heldWhole_any n1 a len cap n k0 W hW hk0 (by omega))
  have H2 := Lib.hid (fun W hW => heldWhole_any n2 a2 len2 cap2 m (k0 + (n : Int)) W hW (by omega) (by omega))
  have HX := Lib.hid h; have HY := Lib.hid h2
  obtain ⟨K1, hK1⟩ : ∃ K, k0 + (n : Int) = K := ⟨_, rfl⟩
  have g1 : 0 ≤ K1 := by omega
  rw [hK1] at H1 H2 HY ⊢
  obtain ⟨K2, hK2⟩ : ∃ K, K1 + (m : Int) = K := ⟨_, rfl⟩
  have g2 : 0 ≤ K2 := by omega
  rw [hK2] at H2 ⊢
  clear h h2 hK1 hK2 hk1
  go_enter Try.func18, Try.ntmps18
  go_wp2_with fail
  refine (H1.out _ ?_).mono ?_
  · refine Ints.below HX.out ?_; repeat' (first | (with_reducible exact Below.refl _ _) | (with_reducible assumption) | (with_reducible refine Below.alloc ?_ ?_ _) | (with_reducible refine Below.setCell ?_ ?_ _) | (with_reducible refine Below.drew ?_) | (with_reducible refine below_drewN ?_ _) | (apply bthen2; (with_reducible assumption)) | go_size)
  rintro e wa ⟨rfl, hba⟩; have hza := hba.size; (try simp only [World.size_alloc, World.size_setCell, World.size_drew, World.heap_drewN] at hza); try (refine keepc hba (w.heap.size) ?_ ?_; (focus (first | omega | (simp <;> omega))); intro hca_0 hfa_0 hla_0); try (refine keepc hba (w.heap.size + 1) ?_ ?_; (focus (first | omega | (simp <;> omega))); intro hca_1 hfa_1 hla_1); try (refine keepc hba (w.heap.size + 1 + 1) ?_ ?_; (focus (first | omega | (simp <;> omega))); intro hca_2 hfa_2 hla_2)
  go_wp2_with fail
  refine (H2.out _ ?_).mono ?_
  · refine Ints.below HY.out ?_; repeat' (first | (with_reducible exact Below.refl _ _) | (with_reducible assumption) | (with_reducible refine Below.alloc ?_ ?_ _) | (with_reducible refine Below.setCell ?_ ?_ _) | (with_reducible refine Below.drew ?_) | (with_reducible refine below_drewN ?_ _) | (apply bthen2; (with_reducible assumption)) | go_size)
  rintro e wb ⟨rfl, hbb⟩; have hzb := hbb.size; (try simp only [World.size_alloc, World.size_setCell, World.size_drew, World.heap_drewN] at hzb); try (refine keepc hbb (w.heap.size) ?_ ?_; (focus (first | omega | (simp <;> omega))); intro hcb_0 hfb_0 hlb_0); try (refine keepc hbb (w.heap.size + 1) ?_ ?_; (focus (first | omega | (simp <;> omega))); intro hcb_1 hfb_1 hlb_1); try (refine keepc hbb (w.heap.size + 1 + 1) ?_ ?_; (focus (first | omega | (simp <;> omega))); intro hcb_2 hfb_2 hlb_2)
  go_wp2_with fail
  go_ret
  exact gives rfl (by repeat' (first | (with_reducible exact Below.refl _ _) | (with_reducible assumption) | (with_reducible refine Below.alloc ?_ ?_ _) | (with_reducible refine Below.setCell ?_ ?_ _) | (with_reducible refine Below.drew ?_) | (with_reducible refine below_drewN ?_ _) | (apply bthen2; (with_reducible assumption)) | go_size))

theorem toRatio_two (n1 n2 : Bool) (a a' : Option Addr) (len cap len' cap' : Nat) (xs ys : List Int) (w : World) (hx : Ints w (.slice a len cap) xs) (hy : Ints w (.slice a' len' cap') ys) (hn : xs.length ≤ 1048576) (hm : ys.length ≤ 1048576) : Calls Try.prog 32 #[.agg #[.bool n1, .slice a len cap, .bool n2, .slice a' len' cap']] w (GivesRt n1 xs n2 ys w) := by
  go_enter Try.func32, Try.ntmps32
  go_wp2_with (first | (go_at_call_of 25 (Value.slice a len cap); refine (toWhole_any _ _ _ _ xs _ ?_ hn).mono ?_; (focus (refine Ints.below hx ?_; repeat' (first | (with_reducible exact Below.refl _ _) | (with_reducible assumption) | (with_reducible refine Below.alloc ?_ ?_ _) | (with_reducible refine Below.setCell ?_ ?_ _) | (with_reducible refine Below.drew ?_) | (with_reducible refine below_drewN ?_ _) | (apply bthen2; (with_reducible assumption)) | go_size))); rintro e wa ⟨a1, len1, cap1, rfl, hoa, hba⟩; have hza := hba.size; (try simp only [World.size_alloc, World.size_setCell, World.size_drew, World.heap_drewN] at hza); try (refine keepc hba (w.heap.size) ?_ ?_; (focus (first | omega | (simp <;> omega))); intro hca_0 hfa_0 hla_0); try (refine keepc hba (w.heap.size + 1) ?_ ?_; (focus (first | omega | (simp <;> omega))); intro hca_1 hfa_1 hla_1); try (refine keepc hba (w.heap.size + 1 + 1) ?_ ?_; (focus (first | omega | (simp <;> omega))); intro hca_2 hfa_2 hla_2)) | (go_at_call_of 25 (Value.slice a' len' cap'); refine (toWhole_any _ _ _ _ ys _ ?_ hm).mono ?_; (focus (refine Ints.below hy ?_; repeat' (first | (with_reducible exact Below.refl _ _) | (with_reducible assumption) | (with_reducible refine Below.alloc ?_ ?_ _) | (with_reducible refine Below.setCell ?_ ?_ _) | (with_reducible refine Below.drew ?_) | (with_reducible refine below_drewN ?_ _) | (apply bthen2; (with_reducible assumption)) | go_size))); rintro e wb ⟨a2, len2, cap2, rfl, hob, hbb⟩; have hzb := hbb.size; (try simp only [World.size_alloc, World.size_setCell, World.size_drew, World.heap_drewN] at hzb); try (refine keepc hbb (w.heap.size) ?_ ?_; (focus (first | omega | (simp <;> omega))); intro hcb_0 hfb_0 hlb_0); try (refine keepc hbb (w.heap.size + 1) ?_ ?_; (focus (first | omega | (simp <;> omega))); intro hcb_1 hfb_1 hlb_1); try (refine keepc hbb (w.heap.size + 1 + 1) ?_ ?_; (focus (first | omega | (simp <;> omega))); intro hcb_2 hfb_2 hlb_2)))
  have oa : Seg wa (w.heap.size + 3) wa.heap.size (.slice a1 len1 cap1) xs := Seg.of (hoa.mono (by simp))
  have oa' : Seg wb (w.heap.size + 3) wa.heap.size (.slice a1 len1 cap1) xs := by
    refine Seg.below ?_ hbb (by simp)
    repeat (refine Seg.set ?_ (.inl (by simp)) _)
    exact oa
  have ob : Own wb wa.heap.size (.slice a2 len2 cap2) ys := hob.mono (by simp)
  refine bodyPost_ret (v := .agg #[.bool n1, .slice a1 len1 cap1, .bool n2, .slice a2 len2 cap2]) (by simp [results, Try.results32, go_sem, hca_1, hca_2, hcb_1, hcb_2]) rfl ⟨a1, len1, cap1, a2, len2, cap2, rfl, ⟨wa.heap.size, ?_, ?_, ?_, ?_⟩, (by repeat' (first | (with_reducible exact Below.refl _ _) | (with_reducible assumption) | (with_reducible refine Below.alloc ?_ ?_ _) | (with_reducible refine Below.setCell ?_ ?_ _) | (with_reducible refine Below.drew ?_) | (with_reducible refine below_drewN ?_ _) | (apply bthen2; (with_reducible assumption)) | go_size))⟩
  · refine Own.mono (B := w.heap.size + 3) ?_ (by omega)
    repeat (refine Own.set ?_ (by simp) _)
    exact oa'.1
  · repeat (refine Own.set ?_ (by simp; omega) _)
    exact ob
  · omega
  · intro ad had
    subst had
    refine oa.2 ad.block ?_
    rfl

end Go.Proofs.Ytopdeoicglkbkaa
