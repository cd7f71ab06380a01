import Derived.Test.YtelkmldmebdcgaaLog
set_option linter.unusedSimpArgs false
set_option linter.unusedVariables false
namespace Go.Proofs.Ytelkmldmebdcgaa
open Go.RowKit

def GivesPS (b : Bool) (xs : List Int) (w : World) (e : Ending) (w' : World) : Prop := ∃ a l c, e = .returned (.tuple #[.agg #[.bool b, .slice a l c], .bool true]) ∧ Ints w' (.slice a l c) xs ∧ Below w.heap.size w w'
theorem GivesP_some (y : Int) : GivesPw (some y) = GivesPS (decide (y < 0)) (dg y.natAbs) := rfl
set_option maxHeartbeats 2000000 in
theorem htLog_any (z : Int) (k : Nat) (hk : k ≤ 5) (a : Option Addr) (len cap : Nat) (w : World) (hx : Ints w (.slice a len cap) (dg z.natAbs)) (hl : (dg z.natAbs).length ≤ 400) :
    Calls Try.prog 84 #[.agg #[.bool (decide (z < 0)), .slice a len cap], .int .i64 k] w (Gives (.tuple #[.int .i64 (lb z k).1, .int .i64 (lb z k).2.1, .bool (lb z k).2.2]) w) := by
  have HP := Lib.hid (fun W h => htPower_any z k hk a len cap W h hl)
  have hlen := hx.len
  have hlz := hlen.2
  have HX := Lib.hid hx
  obtain ⟨r0, r1, r2, hr⟩ : ∃ r0 r1 r2, lb z k = (r0, r1, r2) := ⟨_, _, _, rfl⟩
  rw [hr]
  dsimp only
  have HZ := Lib.hid (show z = 0 ↔ len = 0 from by
    rw [← hlen.1]
    constructor
    · rintro rfl; rfl
    · intro h
      have := (dg_nil z.natAbs).1 (List.length_eq_zero_iff.1 h); omega)
  have HPL := Lib.hid (fun y h => pwz_len k z y hl h)
  obtain ⟨s0, hs0⟩ : ∃ s, decide (z < 0) = s := ⟨_, rfl⟩
  rw [hs0] at HP ⊢
  have h0 : z = 0 → pwz k z = some 0 := fun h => by rw [h]; exact pwz_zero k
  unfold lb at hr
  clear hx hl hlen hs0
  cases hP : pwz k z with
  | none =>
    rw [hP] at HP hr
    have h1 : z ≠ 0 := fun h => by have := h0 h; rw [hP] at this; cases this
    rw [if_neg h1] at hr
    rw [show GivesPw none = (fun w e w' => e = .returned (.tuple #[.agg #[.bool false, .slice none 0 0], .bool false]) ∧ Below w.heap.size w w') from rfl] at HP
    simp only [lb3, Prod.mk.injEq] at hr
    obtain ⟨rfl, rfl, rfl⟩ := hr
    clear h0 hP HPL HZ h1
    go_enter Try.func84, Try.ntmps84
    go_wp2_with fail
    refine (HP.out _ ?_).mono ?_
    · refine Ints.below HX.out ?_; repeat' (first | (with_reducible exact Below.refl _ _) | (with_reducible assumption) | (with_reducible refine Below.alloc ?_ ?_ _) | (with_reducible refine Below.setCell ?_ ?_ _) | (with_reducible refine Below.drew ?_) | (with_reducible refine below_drewN ?_ _) | (apply bthen2; (with_reducible assumption)) | go_size)
    rintro e wa ⟨rfl, hba⟩
    have hza := hba.size; (try simp only [World.size_alloc, World.size_setCell, World.size_drew, World.heap_drewN] at hza); try (refine keepc hba (w.heap.size) ?_ ?_; (focus (first | omega | (simp <;> omega))); intro hca_0 hfa_0 hla_0); try (refine keepc hba (w.heap.size + 1) ?_ ?_; (focus (first | omega | (simp <;> omega))); intro hca_1 hfa_1 hla_1); try (refine keepc hba (w.heap.size + 1 + 1) ?_ ?_; (focus (first | omega | (simp <;> omega))); intro hca_2 hfa_2 hla_2)
    go_wp2_with fail
    go_ret3
    exact gives rfl (by repeat' (first | (with_reducible exact Below.refl _ _) | (with_reducible assumption) | (with_reducible refine Below.alloc ?_ ?_ _) | (with_reducible refine Below.setCell ?_ ?_ _) | (with_reducible refine Below.drew ?_) | (with_reducible refine below_drewN ?_ _) | (apply bthen2; (with_reducible assumption)) | go_size))
  | some y =>
    rw [hP] at HP hr
    have hly := HPL.out y hP
    have HB := Lib.hid (fun a l c W h => bgBits_any (decide (y < 0)) a l c (dg y.natAbs) W h (inR_dg _) (by omega))
    rw [val_dg, Int.toNat_natCast] at HB
    have hb14 : bl y.natAbs ≤ 14 * (dg y.natAbs).length := bl_dg _
    have hb15 : (bl y.natAbs : Int) ≤ 5600 := by omega
    by_cases hz : z = 0
    · rw [if_pos hz] at hr
      simp only [Prod.mk.injEq] at hr
      obtain ⟨rfl, rfl, rfl⟩ := hr
      have hl0 := HZ.out.1 hz
      subst hl0
      clear h0 hP HPL HZ hly HB hb14 hb15 hz
      rw [GivesP_some] at HP
      obtain ⟨s1, hs1⟩ : ∃ s, decide (y < 0) = s := ⟨_, rfl⟩
      rw [hs1] at HP
      clear hs1
      go_enter Try.func84, Try.ntmps84
      go_wp2_with fail
      refine (HP.out _ ?_).mono ?_
      · refine Ints.below HX.out ?_; repeat' (first | (with_reducible exact Below.refl _ _) | (with_reducible assumption) | (with_reducible refine Below.alloc ?_ ?_ _) | (with_reducible refine Below.setCell ?_ ?_ _) | (with_reducible refine Below.drew ?_) | (with_reducible refine below_drewN ?_ _) | (apply bthen2; (with_reducible assumption)) | go_size)
      rintro e wa ⟨a1, l1, c1, rfl, hi, hba⟩
      have hza := hba.size; (try simp only [World.size_alloc, World.size_setCell, World.size_drew, World.heap_drewN] at hza); try (refine keepc hba (w.heap.size) ?_ ?_; (focus (first | omega | (simp <;> omega))); intro hca_0 hfa_0 hla_0); try (refine keepc hba (w.heap.size + 1) ?_ ?_; (focus (first | omega | (simp <;> omega))); intro hca_1 hfa_1 hla_1); try (refine keepc hba (w.heap.size + 1 + 1) ?_ ?_; (focus (first | omega | (simp <;> omega))); intro hca_2 hfa_2 hla_2)
      go_wp2_with fail
      go_ret3
      exact gives rfl (by repeat' (first | (with_reducible exact Below.refl _ _) | (with_reducible assumption) | (with_reducible refine Below.alloc ?_ ?_ _) | (with_reducible refine Below.setCell ?_ ?_ _) | (with_reducible refine Below.drew ?_) | (with_reducible refine below_drewN ?_ _) | (apply bthen2; (with_reducible assumption)) | go_size))
    · rw [if_neg hz] at hr
      have hl0 : ¬ len = 0 := fun h => hz (HZ.out.2 h)
      have hl1 : ((len : Int) == 0) = false := by simp; omega
      rw [GivesP_some] at HP
      simp only [lb3] at hr
      generalize bl y.natAbs = R at *
      obtain ⟨s1, hs1⟩ : ∃ s, decide (y < 0) = s := ⟨_, rfl⟩
      rw [hs1] at HP HB
      simp only [Prod.mk.injEq] at hr
      obtain ⟨rfl, rfl, rfl⟩ := hr
      generalize dg y.natAbs = D at *
      clear h0 hP HPL HZ hly hb14 hz hs1 hl0
      go_enter Try.func84, Try.ntmps84
      go_wp2_with fail
      refine (HP.out _ ?_).mono ?_
      · refine Ints.below HX.out ?_; repeat' (first | (with_reducible exact Below.refl _ _) | (with_reducible assumption) | (with_reducible refine Below.alloc ?_ ?_ _) | (with_reducible refine Below.setCell ?_ ?_ _) | (with_reducible refine Below.drew ?_) | (with_reducible refine below_drewN ?_ _) | (apply bthen2; (with_reducible assumption)) | go_size)
      rintro e wa ⟨a1, l1, c1, rfl, hi, hba⟩
      have HI := Lib.hid hi
      have hza := hba.size; (try simp only [World.size_alloc, World.size_setCell, World.size_drew, World.heap_drewN] at hza); try (refine keepc hba (w.heap.size) ?_ ?_; (focus (first | omega | (simp <;> omega))); intro hca_0 hfa_0 hla_0); try (refine keepc hba (w.heap.size + 1) ?_ ?_; (focus (first | omega | (simp <;> omega))); intro hca_1 hfa_1 hla_1); try (refine keepc hba (w.heap.size + 1 + 1) ?_ ?_; (focus (first | omega | (simp <;> omega))); intro hca_2 hfa_2 hla_2)
      go_wp2_with fail
      refine (HB.out _ _ _ _ ?_).mono ?_
      · refine Ints.below HI.out ?_; repeat' (first | (with_reducible exact Below.refl _ _) | (with_reducible assumption) | (with_reducible refine Below.alloc ?_ ?_ _) | (with_reducible refine Below.setCell ?_ ?_ _) | (with_reducible refine Below.drew ?_) | (with_reducible refine below_drewN ?_ _) | (apply bthen2; (with_reducible assumption)) | go_size)
      rintro e wb ⟨rfl, hbb⟩
      have hzb := hbb.size; (try simp only [World.size_alloc, World.size_setCell, World.size_drew, World.heap_drewN] at hzb); try (refine keepc hbb (w.heap.size) ?_ ?_; (focus (first | omega | (simp <;> omega))); intro hcb_0 hfb_0 hlb_0); try (refine keepc hbb (w.heap.size + 1) ?_ ?_; (focus (first | omega | (simp <;> omega))); intro hcb_1 hfb_1 hlb_1); try (refine keepc hbb (w.heap.size + 1 + 1) ?_ ?_; (focus (first | omega | (simp <;> omega))); intro hcb_2 hfb_2 hlb_2)
      go_wp2_with fail
      go_ret3
      exact gives rfl (by repeat' (first | (with_reducible exact Below.refl _ _) | (with_reducible assumption) | (with_reducible refine Below.alloc ?_ ?_ _) | (with_reducible refine Below.setCell ?_ ?_ _) | (with_reducible refine Below.drew ?_) | (with_reducible refine below_drewN ?_ _) | (apply bthen2; (with_reducible assumption)) | go_size))

theorem htStep_any (k : Int) (w : World) : Calls Try.prog 83 #[.int .i64 k] w (Same (.bool (inB k 0 5)) w) := by
  have HI := Lib.hid (fun w => l1In_any k 0 5 w)
  generalize inB k 0 5 = B at *
  go_enter Try.func83, Try.ntmps83
  go_wp2_with fail
  refine (HI.out _).mono ?_
  rintro e w1 ⟨rfl, rfl⟩
  go_wp2
  go_ret; exact same rfl

def lgV (n : Bool) (xs : List Int) (k : Int) : Int × Int × Bool := if (whB n xs && inB k 0 5) = true then lb (zv n xs) k.toNat else (0, 0, false)
theorem lg_0 {n : Bool} {xs : List Int} {k : Int} (h : whB n xs = false) : lgV n xs k = (0, 0, false) := by unfold lgV; rw [h]; rfl
theorem lg_1 {n : Bool} {xs : List Int} {k : Int} (h : inB k 0 5 = false) : lgV n xs k = (0, 0, false) := by unfold lgV; rw [h, Bool.and_false]; rfl
theorem lg_2 {z : Int} {k : Nat} (h : (dg z.natAbs).length ≤ 400) (hk : k ≤ 5) : lgV (decide (z < 0)) (dg z.natAbs) k = lb z k := by
  unfold lgV
  rw [whB_len, zv_z, Int.toNat_natCast, if_pos]
  simp [h, inB_iff]; omega
set_option maxHeartbeats 1000000 in
theorem LogBounds_any (n : Bool) (a : Option Addr) (len cap : Nat) (xs : List Int) (k : Int) (w : World) (hx : Ints w (.slice a len cap) xs) :
    Calls Try.prog 34 #[.agg #[.bool n, .slice a len cap], .int .i64 k] w (Gives (.tuple #[.int .i64 (lgV n xs k).1, .int .i64 (lgV n xs k).2.1, .bool (lgV n xs k).2.2]) w) := by
  have HG := Lib.hid (fun W h => isWhole_any n a len cap xs W h)
  have HK := Lib.hid (fun W => inside_any k 0 5 W)
  have HX := Lib.hid hx
  cases g1 : whB n xs
  · rw [lg_0 g1]
    rw [g1] at HG
    clear HK hx
    go_enter Try.func34, Try.ntmps34
    go_wp2_with fail
    refine (HG.out _ ?_).mono ?_
    · refine Ints.below HX.out ?_; repeat' (first | (with_reducible exact Below.refl _ _) | (with_reducible assumption) | (with_reducible refine Below.alloc ?_ ?_ _) | (with_reducible refine Below.setCell ?_ ?_ _) | (with_reducible refine Below.drew ?_) | (with_reducible refine below_drewN ?_ _) | (apply bthen2; (with_reducible assumption)) | go_size)
    rintro e wa ⟨rfl, hba⟩; have hza := hba.size; (try simp only [World.size_alloc, World.size_setCell, World.size_drew, World.heap_drewN] at hza); try (refine keepc hba (w.heap.size) ?_ ?_; (focus (first | omega | (simp <;> omega))); intro hca_0 hfa_0 hla_0); try (refine keepc hba (w.heap.size + 1) ?_ ?_; (focus (first | omega | (simp <;> omega))); intro hca_1 hfa_1 hla_1); try (refine keepc hba (w.heap.size + 1 + 1) ?_ ?_; (focus (first | omega | (simp <;> omega))); intro hca_2 hfa_2 hla_2)
    go_wp2_with fail
    go_ret3
    exact gives rfl (by repeat' (first | (with_reducible exact Below.refl _ _) | (with_reducible assumption) | (with_reducible refine Below.alloc ?_ ?_ _) | (with_reducible refine Below.setCell ?_ ?_ _) | (with_reducible refine Below.drew ?_) | (with_reducible refine below_drewN ?_ _) | (apply bthen2; (with_reducible assumption)) | go_size))
  cases g2 : inB k 0 5
  · rw [lg_1 g2]
    rw [g1] at HG; rw [g2] at HK
    clear hx
    go_enter Try.func34, Try.ntmps34
    go_wp2_with fail
    refine (HG.out _ ?_).mono ?_
    · refine Ints.below HX.out ?_; repeat' (first | (with_reducible exact Below.refl _ _) | (with_reducible assumption) | (with_reducible refine Below.alloc ?_ ?_ _) | (with_reducible refine Below.setCell ?_ ?_ _) | (with_reducible refine Below.drew ?_) | (with_reducible refine below_drewN ?_ _) | (apply bthen2; (with_reducible assumption)) | go_size)
    rintro e wa ⟨rfl, hba⟩; have hza := hba.size; (try simp only [World.size_alloc, World.size_setCell, World.size_drew, World.heap_drewN] at hza); try (refine keepc hba (w.heap.size) ?_ ?_; (focus (first | omega | (simp <;> omega))); intro hca_0 hfa_0 hla_0); try (refine keepc hba (w.heap.size + 1) ?_ ?_; (focus (first | omega | (simp <;> omega))); intro hca_1 hfa_1 hla_1); try (refine keepc hba (w.heap.size + 1 + 1) ?_ ?_; (focus (first | omega | (simp <;> omega))); intro hca_2 hfa_2 hla_2)
    go_wp2_with fail
    refine (HK.out _).mono ?_
    rintro e wb ⟨rfl, rfl⟩
    go_wp2_with fail
    go_ret3
    exact gives rfl (by repeat' (first | (with_reducible exact Below.refl _ _) | (with_reducible assumption) | (with_reducible refine Below.alloc ?_ ?_ _) | (with_reducible refine Below.setCell ?_ ?_ _) | (with_reducible refine Below.drew ?_) | (with_reducible refine below_drewN ?_ _) | (apply bthen2; (with_reducible assumption)) | go_size))
  · rw [g1] at HG; rw [g2] at HK
    obtain ⟨z, rfl, rfl, hl⟩ := whB_z g1
    have hk := inB_iff.1 g2
    obtain ⟨K, rfl⟩ : ∃ K : Nat, k = K := ⟨k.toNat, by omega⟩
    rw [lg_2 hl (by omega)]
    have HC := Lib.hid (fun W h => logBounds_any z K (by omega) a len cap W h hl)
    generalize (lb z K).1 = r0 at *
    generalize (lb z K).2.1 = r1 at *
    generalize (lb z K).2.2 = r2 at *
    generalize decide (z < 0) = s at *
    generalize dg z.natAbs = D at *
    clear g1 g2 hl hk hx
    go_enter Try.func34, Try.ntmps34
    go_wp2_with fail
    refine (HG.out _ ?_).mono ?_
    · refine Ints.below HX.out ?_; repeat' (first | (with_reducible exact Below.refl _ _) | (with_reducible assumption) | (with_reducible refine Below.alloc ?_ ?_ _) | (with_reducible refine Below.setCell ?_ ?_ _) | (with_reducible refine Below.drew ?_) | (with_reducible refine below_drewN ?_ _) | (apply bthen2; (with_reducible assumption)) | go_size)
    rintro e wa ⟨rfl, hba⟩; have hza := hba.size; (try simp only [World.size_alloc, World.size_setCell, World.size_drew, World.heap_drewN] at hza); try (refine keepc hba (w.heap.size) ?_ ?_; (focus (first | omega | (simp <;> omega))); intro hca_0 hfa_0 hla_0); try (refine keepc hba (w.heap.size + 1) ?_ ?_; (focus (first | omega | (simp <;> omega))); intro hca_1 hfa_1 hla_1); try (refine keepc hba (w.heap.size + 1 + 1) ?_ ?_; (focus (first | omega | (simp <;> omega))); intro hca_2 hfa_2 hla_2)
    go_wp2_with fail
    refine (HK.out _).mono ?_
    rintro e wb ⟨rfl, rfl⟩
    go_wp2_with fail
    refine (HC.out _ ?_).mono ?_
    · refine Ints.below HX.out ?_; repeat' (first | (with_reducible exact Below.refl _ _) | (with_reducible assumption) | (with_reducible refine Below.alloc ?_ ?_ _) | (with_reducible refine Below.setCell ?_ ?_ _) | (with_reducible refine Below.drew ?_) | (with_reducible refine below_drewN ?_ _) | (apply bthen2; (with_reducible assumption)) | go_size)
    rintro e wc ⟨rfl, hbc⟩; have hzc := hbc.size; (try simp only [World.size_alloc, World.size_setCell, World.size_drew, World.heap_drewN] at hzc); try (refine keepc hbc (w.heap.size) ?_ ?_; (focus (first | omega | (simp <;> omega))); intro hcc_0 hfc_0 hlc_0); try (refine keepc hbc (w.heap.size + 1) ?_ ?_; (focus (first | omega | (simp <;> omega))); intro hcc_1 hfc_1 hlc_1); try (refine keepc hbc (w.heap.size + 1 + 1) ?_ ?_; (focus (first | omega | (simp <;> omega))); intro hcc_2 hfc_2 hlc_2)
    go_wp2_with fail
    go_ret3
    exact gives rfl (by repeat' (first | (with_reducible exact Below.refl _ _) | (with_reducible assumption) | (with_reducible refine Below.alloc ?_ ?_ _) | (with_reducible refine Below.setCell ?_ ?_ _) | (with_reducible refine Below.drew ?_) | (with_reducible refine below_drewN ?_ _) | (apply bthen2; (with_reducible assumption)) | go_size))
set_option maxHeartbeats 1000000 in
theorem sLogBounds_any (n : Bool) (a : Option Addr) (len cap : Nat) (xs : List Int) (k : Int) (w : World) (hx : Ints w (.slice a len cap) xs) :
    Calls Try.prog 35 #[.agg #[.bool n, .slice a len cap], .int .i64 k] w (Gives (.tuple #[.int .i64 (lgV n xs k).1, .int .i64 (lgV n xs k).2.1, .bool (lgV n xs k).2.2]) w) := by
  have HG := Lib.hid (fun W h => bgGood_any n a len cap xs W h)
  have HK := Lib.hid (fun W => htStep_any k W)
  have HX := Lib.hid hx
  cases g1 : whB n xs
  · rw [lg_0 g1]
    rw [g1] at HG
    clear HK hx
    go_enter Try.func35, Try.ntmps35
    go_wp2_with fail
    refine (HG.out _ ?_).mono ?_
    · refine Ints.below HX.out ?_; repeat' (first | (with_reducible exact Below.refl _ _) | (with_reducible assumption) | (with_reducible refine Below.alloc ?_ ?_ _) | (with_reducible refine Below.setCell ?_ ?_ _) | (with_reducible refine Below.drew ?_) | (with_reducible refine below_drewN ?_ _) | (apply bthen2; (with_reducible assumption)) | go_size)
    rintro e wa ⟨rfl, hba⟩; have hza := hba.size; (try simp only [World.size_alloc, World.size_setCell, World.size_drew, World.heap_drewN] at hza); try (refine keepc hba (w.heap.size) ?_ ?_; (focus (first | omega | (simp <;> omega))); intro hca_0 hfa_0 hla_0); try (refine keepc hba (w.heap.size + 1) ?_ ?_; (focus (first | omega | (simp <;> omega))); intro hca_1 hfa_1 hla_1); try (refine keepc hba (w.heap.size + 1 + 1) ?_ ?_; (focus (first | omega | (simp <;> omega))); intro hca_2 hfa_2 hla_2)
    go_wp2_with fail
    go_ret3
    exact gives rfl (by repeat' (first | (with_reducible exact Below.refl _ _) | (with_reducible assumption) | (with_reducible refine Below.alloc ?_ ?_ _) | (with_reducible refine Below.setCell ?_ ?_ _) | (with_reducible refine Below.drew ?_) | (with_reducible refine below_drewN ?_ _) | (apply bthen2; (with_reducible assumption)) | go_size))
  cases g2 : inB k 0 5
  · rw [lg_1 g2]
    rw [g1] at HG; rw [g2] at HK
    clear hx
    go_enter Try.func35, Try.ntmps35
    go_wp2_with fail
    refine (HG.out _ ?_).mono ?_
    · refine Ints.below HX.out ?_; repeat' (first | (with_reducible exact Below.refl _ _) | (with_reducible assumption) | (with_reducible refine Below.alloc ?_ ?_ _) | (with_reducible refine Below.setCell ?_ ?_ _) | (with_reducible refine Below.drew ?_) | (with_reducible refine below_drewN ?_ _) | (apply bthen2; (with_reducible assumption)) | go_size)
    rintro e wa ⟨rfl, hba⟩; have hza := hba.size; (try simp only [World.size_alloc, World.size_setCell, World.size_drew, World.heap_drewN] at hza); try (refine keepc hba (w.heap.size) ?_ ?_; (focus (first | omega | (simp <;> omega))); intro hca_0 hfa_0 hla_0); try (refine keepc hba (w.heap.size + 1) ?_ ?_; (focus (first | omega | (simp <;> omega))); intro hca_1 hfa_1 hla_1); try (refine keepc hba (w.heap.size + 1 + 1) ?_ ?_; (focus (first | omega | (simp <;> omega))); intro hca_2 hfa_2 hla_2)
    go_wp2_with fail
    refine (HK.out _).mono ?_
    rintro e wb ⟨rfl, rfl⟩
    go_wp2_with fail
    go_ret3
    exact gives rfl (by repeat' (first | (with_reducible exact Below.refl _ _) | (with_reducible assumption) | (with_reducible refine Below.alloc ?_ ?_ _) | (with_reducible refine Below.setCell ?_ ?_ _) | (with_reducible refine Below.drew ?_) | (with_reducible refine below_drewN ?_ _) | (apply bthen2; (with_reducible assumption)) | go_size))
  · rw [g1] at HG; rw [g2] at HK
    obtain ⟨z, rfl, rfl, hl⟩ := whB_z g1
    have hk := inB_iff.1 g2
    obtain ⟨K, rfl⟩ : ∃ K : Nat, k = K := ⟨k.toNat, by omega⟩
    rw [lg_2 hl (by omega)]
    have HC := Lib.hid (fun W h => htLog_any z K (by omega) a len cap W h hl)
    generalize (lb z K).1 = r0 at *
    generalize (lb z K).2.1 = r1 at *
    generalize (lb z K).2.2 = r2 at *
    generalize decide (z < 0) = s at *
    generalize dg z.natAbs = D at *
    clear g1 g2 hl hk hx
    go_enter Try.func35, Try.ntmps35
    go_wp2_with fail
    refine (HG.out _ ?_).mono ?_
    · refine Ints.below HX.out ?_; repeat' (first | (with_reducible exact Below.refl _ _) | (with_reducible assumption) | (with_reducible refine Below.alloc ?_ ?_ _) | (with_reducible refine Below.setCell ?_ ?_ _) | (with_reducible refine Below.drew ?_) | (with_reducible refine below_drewN ?_ _) | (apply bthen2; (with_reducible assumption)) | go_size)
    rintro e wa ⟨rfl, hba⟩; have hza := hba.size; (try simp only [World.size_alloc, World.size_setCell, World.size_drew, World.heap_drewN] at hza); try (refine keepc hba (w.heap.size) ?_ ?_; (focus (first | omega | (simp <;> omega))); intro hca_0 hfa_0 hla_0); try (refine keepc hba (w.heap.size + 1) ?_ ?_; (focus (first | omega | (simp <;> omega))); intro hca_1 hfa_1 hla_1); try (refine keepc hba (w.heap.size + 1 + 1) ?_ ?_; (focus (first | omega | (simp <;> omega))); intro hca_2 hfa_2 hla_2)
    go_wp2_with fail
    refine (HK.out _).mono ?_
    rintro e wb ⟨rfl, rfl⟩
    go_wp2_with fail
    refine (HC.out _ ?_).mono ?_
    · refine Ints.below HX.out ?_; repeat' (first | (with_reducible exact Below.refl _ _) | (with_reducible assumption) | (with_reducible refine Below.alloc ?_ ?_ _) | (with_reducible refine Below.setCell ?_ ?_ _) | (with_reducible refine Below.drew ?_) | (with_reducible refine below_drewN ?_ _) | (apply bthen2; (with_reducible assumption)) | go_size)
    rintro e wc ⟨rfl, hbc⟩; have hzc := hbc.size; (try simp only [World.size_alloc, World.size_setCell, World.size_drew, World.heap_drewN] at hzc); try (refine keepc hbc (w.heap.size) ?_ ?_; (focus (first | omega | (simp <;> omega))); intro hcc_0 hfc_0 hlc_0); try (refine keepc hbc (w.heap.size + 1) ?_ ?_; (focus (first | omega | (simp <;> omega))); intro hcc_1 hfc_1 hlc_1); try (refine keepc hbc (w.heap.size + 1 + 1) ?_ ?_; (focus (first | omega | (simp <;> omega))); intro hcc_2 hfc_2 hlc_2)
    go_wp2_with fail
    go_ret3
    exact gives rfl (by repeat' (first | (with_reducible exact Below.refl _ _) | (with_reducible assumption) | (with_reducible refine Below.alloc ?_ ?_ _) | (with_reducible refine Below.setCell ?_ ?_ _) | (with_reducible refine Below.drew ?_) | (with_reducible refine below_drewN ?_ _) | (apply bthen2; (with_reducible assumption)) | go_size))

def rl3 (p q : Int × Int × Bool) : Int × Int × Bool := if (p.2.2 && q.2.2) = true then (p.1 - q.2.1, p.2.1 - q.1, true) else (0, 0, false)
def rlV (n : Bool) (xs : List Int) (m : Bool) (ys : List Int) (k : Int) : Int × Int × Bool := if (whB n xs && whB m ys && inB k 0 5) = true then rl3 (lb (zv n xs) k.toNat) (lb (zv m ys) k.toNat) else (0, 0, false)
theorem rl_0 {n m : Bool} {xs ys : List Int} {k : Int} (h : whB n xs = false) : rlV n xs m ys k = (0, 0, false) := by unfold rlV; rw [h]; rfl
theorem rl_1 {n m : Bool} {xs ys : List Int} {k : Int} (h : whB m ys = false) : rlV n xs m ys k = (0, 0, false) := by unfold rlV; rw [h, Bool.and_false]; rfl
theorem rl_2 {n m : Bool} {xs ys : List Int} {k : Int} (h : inB k 0 5 = false) : rlV n xs m ys k = (0, 0, false) := by unfold rlV; rw [h, Bool.and_false]; rfl
theorem rl_3 {z y : Int} {k : Nat} (h : (dg z.natAbs).length ≤ 400) (h2 : (dg y.natAbs).length ≤ 400) (hk : k ≤ 5) : rlV (decide (z < 0)) (dg z.natAbs) (decide (y < 0)) (dg y.natAbs) k = rl3 (lb z k) (lb y k) := by
  unfold rlV
  rw [whB_len, whB_len, zv_z, zv_z, Int.toNat_natCast, if_pos]
  simp [h, h2, inB_iff]; omega
theorem lb_rng (z : Int) (k : Nat) (h : (dg z.natAbs).length ≤ 400) : -1 ≤ (lb z k).1 ∧ (lb z k).1 ≤ 5600 ∧ 0 ≤ (lb z k).2.1 ∧ (lb z k).2.1 ≤ 5600 := by
  unfold lb
  split
  · simp
  · cases hP : pwz k z with
    | none => simp [lb3]
    | some y =>
      have hly := pwz_len k z y h hP
      have hb14 : bl y.natAbs ≤ 14 * (dg y.natAbs).length := bl_dg _
      simp only [lb3]; omega
set_option maxHeartbeats 1000000 in
theorem RatioLog_any (n m : Bool) (a b : Option Addr) (len cap len2 cap2 : Nat) (xs ys : List Int) (k : Int) (w : World) (hx : Ints w (.slice a len cap) xs) (hy : Ints w (.slice b len2 cap2) ys) :
    Calls Try.prog 37 #[.agg #[.bool n, .slice a len cap], .agg #[.bool m, .slice b len2 cap2], .int .i64 k] w (Gives (.tuple #[.int .i64 (rlV n xs m ys k).1, .int .i64 (rlV n xs m ys k).2.1, .bool (rlV n xs m ys k).2.2]) w) := by
  have HG := Lib.hid (fun W h => isWhole_any n a len cap xs W h)
  have HH := Lib.hid (fun W h => isWhole_any m b len2 cap2 ys W h)
  have HK := Lib.hid (fun W => inside_any k 0 5 W)
  have HX := Lib.hid hx; have HY := Lib.hid hy
  cases g1 : whB n xs
  · rw [rl_0 g1]
    rw [g1] at HG
    clear HK HH hx hy
    go_enter Try.func37, Try.ntmps37
    go_wp2_with fail
    refine (HG.out _ ?_).mono ?_
    · refine Ints.below HX.out ?_; repeat' (first | (with_reducible exact Below.refl _ _) | (with_reducible assumption) | (with_reducible refine Below.alloc ?_ ?_ _) | (with_reducible refine Below.setCell ?_ ?_ _) | (with_reducible refine Below.drew ?_) | (with_reducible refine below_drewN ?_ _) | (apply bthen2; (with_reducible assumption)) | go_size)
    rintro e wa ⟨rfl, hba⟩; have hza := hba.size; (try simp only [World.size_alloc, World.size_setCell, World.size_drew, World.heap_drewN] at hza); try (refine keepc hba (w.heap.size) ?_ ?_; (focus (first | omega | (simp <;> omega))); intro hca_0 hfa_0 hla_0); try (refine keepc hba (w.heap.size + 1) ?_ ?_; (focus (first | omega | (simp <;> omega))); intro hca_1 hfa_1 hla_1); try (refine keepc hba (w.heap.size + 1 + 1) ?_ ?_; (focus (first | omega | (simp <;> omega))); intro hca_2 hfa_2 hla_2)
    go_wp2_with fail
    go_ret3
    exact gives rfl (by repeat' (first | (with_reducible exact Below.refl _ _) | (with_reducible assumption) | (with_reducible refine Below.alloc ?_ ?_ _) | (with_reducible refine Below.setCell ?_ ?_ _) | (with_reducible refine Below.drew ?_) | (with_reducible refine below_drewN ?_ _) | (apply bthen2; (with_reducible assumption)) | go_size))
  cases g0 : whB m ys
  · rw [rl_1 g0]
    rw [g1] at HG; rw [g0] at HH
    clear HK hx hy
    go_enter Try.func37, Try.ntmps37
    go_wp2_with fail
    refine (HG.out _ ?_).mono ?_
    · refine Ints.below HX.out ?_; repeat' (first | (with_reducible exact Below.refl _ _) | (with_reducible assumption) | (with_reducible refine Below.alloc ?_ ?_ _) | (with_reducible refine Below.setCell ?_ ?_ _) | (with_reducible refine Below.drew ?_) | (with_reducible refine below_drewN ?_ _) | (apply bthen2; (with_reducible assumption)) | go_size)
    rintro e wa ⟨rfl, hba⟩; have hza := hba.size; (try simp only [World.size_alloc, World.size_setCell, World.size_drew, World.heap_drewN] at hza); try (refine keepc hba (w.heap.size) ?_ ?_; (focus (first | omega | (simp <;> omega))); intro hca_0 hfa_0 hla_0); try (refine keepc hba (w.heap.size + 1) ?_ ?_; (focus (first | omega | (simp <;> omega))); intro hca_1 hfa_1 hla_1); try (refine keepc hba (w.heap.size + 1 + 1) ?_ ?_; (focus (first | omega | (simp <;> omega))); intro hca_2 hfa_2 hla_2)
    go_wp2_with fail
    refine (HH.out _ ?_).mono ?_
    · refine Ints.below HY.out ?_; repeat' (first | (with_reducible exact Below.refl _ _) | (with_reducible assumption) | (with_reducible refine Below.alloc ?_ ?_ _) | (with_reducible refine Below.setCell ?_ ?_ _) | (with_reducible refine Below.drew ?_) | (with_reducible refine below_drewN ?_ _) | (apply bthen2; (with_reducible assumption)) | go_size)
    rintro e wb ⟨rfl, hbb⟩; have hzb := hbb.size; (try simp only [World.size_alloc, World.size_setCell, World.size_drew, World.heap_drewN] at hzb); try (refine keepc hbb (w.heap.size) ?_ ?_; (focus (first | omega | (simp <;> omega))); intro hcb_0 hfb_0 hlb_0); try (refine keepc hbb (w.heap.size + 1) ?_ ?_; (focus (first | omega | (simp <;> omega))); intro hcb_1 hfb_1 hlb_1); try (refine keepc hbb (w.heap.size + 1 + 1) ?_ ?_; (focus (first | omega | (simp <;> omega))); intro hcb_2 hfb_2 hlb_2)
    go_wp2_with fail
    go_ret3
    exact gives rfl (by repeat' (first | (with_reducible exact Below.refl _ _) | (with_reducible assumption) | (with_reducible refine Below.alloc ?_ ?_ _) | (with_reducible refine Below.setCell ?_ ?_ _) | (with_reducible refine Below.drew ?_) | (with_reducible refine below_drewN ?_ _) | (apply bthen2; (with_reducible assumption)) | go_size))
  cases g2 : inB k 0 5
  · rw [rl_2 g2]
    rw [g1] at HG; rw [g2] at HK; rw [g0] at HH
    clear hx hy
    go_enter Try.func37, Try.ntmps37
    go_wp2_with fail
    refine (HG.out _ ?_).mono ?_
    · refine Ints.below HX.out ?_; repeat' (first | (with_reducible exact Below.refl _ _) | (with_reducible assumption) | (with_reducible refine Below.alloc ?_ ?_ _) | (with_reducible refine Below.setCell ?_ ?_ _) | (with_reducible refine Below.drew ?_) | (with_reducible refine below_drewN ?_ _) | (apply bthen2; (with_reducible assumption)) | go_size)
    rintro e wa ⟨rfl, hba⟩; have hza := hba.size; (try simp only [World.size_alloc, World.size_setCell, World.size_drew, World.heap_drewN] at hza); try (refine keepc hba (w.heap.size) ?_ ?_; (focus (first | omega | (simp <;> omega))); intro hca_0 hfa_0 hla_0); try (refine keepc hba (w.heap.size + 1) ?_ ?_; (focus (first | omega | (simp <;> omega))); intro hca_1 hfa_1 hla_1); try (refine keepc hba (w.heap.size + 1 + 1) ?_ ?_; (focus (first | omega | (simp <;> omega))); intro hca_2 hfa_2 hla_2)
    go_wp2_with fail
    refine (HH.out _ ?_).mono ?_
    · refine Ints.below HY.out ?_; repeat' (first | (with_reducible exact Below.refl _ _) | (with_reducible assumption) | (with_reducible refine Below.alloc ?_ ?_ _) | (with_reducible refine Below.setCell ?_ ?_ _) | (with_reducible refine Below.drew ?_) | (with_reducible refine below_drewN ?_ _) | (apply bthen2; (with_reducible assumption)) | go_size)
    rintro e wb ⟨rfl, hbb⟩; have hzb := hbb.size; (try simp only [World.size_alloc, World.size_setCell, World.size_drew, World.heap_drewN] at hzb); try (refine keepc hbb (w.heap.size) ?_ ?_; (focus (first | omega | (simp <;> omega))); intro hcb_0 hfb_0 hlb_0); try (refine keepc hbb (w.heap.size + 1) ?_ ?_; (focus (first | omega | (simp <;> omega))); intro hcb_1 hfb_1 hlb_1); try (refine keepc hbb (w.heap.size + 1 + 1) ?_ ?_; (focus (first | omega | (simp <;> omega))); intro hcb_2 hfb_2 hlb_2)
    go_wp2_with fail
    refine (HK.out _).mono ?_
    rintro e wc ⟨rfl, rfl⟩
    go_wp2_with fail
    go_ret3
    exact gives rfl (by repeat' (first | (with_reducible exact Below.refl _ _) | (with_reducible assumption) | (with_reducible refine Below.alloc ?_ ?_ _) | (with_reducible refine Below.setCell ?_ ?_ _) | (with_reducible refine Below.drew ?_) | (with_reducible refine below_drewN ?_ _) | (apply bthen2; (with_reducible assumption)) | go_size))
  · rw [g1] at HG; rw [g2] at HK; rw [g0] at HH
    obtain ⟨z, rfl, rfl, hl⟩ := whB_z g1
    obtain ⟨y, rfl, rfl, hl2⟩ := whB_z g0
    have hk := inB_iff.1 g2
    obtain ⟨K, rfl⟩ : ∃ K : Nat, k = K := ⟨k.toNat, by omega⟩
    rw [rl_3 hl hl2 (by omega)]
    have HC := Lib.hid (fun W h => logBounds_any z K (by omega) a len cap W h hl)
    have HD := Lib.hid (fun W h => logBounds_any y K (by omega) b len2 cap2 W h hl2)
    have hb1 := lb_rng z K hl
    have hb2 := lb_rng y K hl2
    unfold rl3
    generalize (lb z K).1 = r0 at *
    generalize (lb z K).2.1 = r1 at *
    generalize (lb z K).2.2 = r2 at *
    generalize (lb y K).1 = t0 at *
    generalize (lb y K).2.1 = t1 at *
    generalize (lb y K).2.2 = t2 at *
    generalize decide (z < 0) = s at *
    generalize dg z.natAbs = D at *
    generalize decide (y < 0) = s2 at *
    generalize dg y.natAbs = D2 at *
    clear g1 g2 hl hk hx hy g0 hl2
    cases r2 <;> cases t2 <;> simp only [Bool.and_self, Bool.and_false, Bool.false_and, Bool.false_eq_true, if_true, if_false]
    all_goals
      go_enter Try.func37, Try.ntmps37
      go_wp2_with fail
      refine (HG.out _ ?_).mono ?_
      · refine Ints.below HX.out ?_; repeat' (first | (with_reducible exact Below.refl _ _) | (with_reducible assumption) | (with_reducible refine Below.alloc ?_ ?_ _) | (with_reducible refine Below.setCell ?_ ?_ _) | (with_reducible refine Below.drew ?_) | (with_reducible refine below_drewN ?_ _) | (apply bthen2; (with_reducible assumption)) | go_size)
      rintro e wa ⟨rfl, hba⟩; have hza := hba.size; (try simp only [World.size_alloc, World.size_setCell, World.size_drew, World.heap_drewN] at hza); try (refine keepc hba (w.heap.size) ?_ ?_; (focus (first | omega | (simp <;> omega))); intro hca_0 hfa_0 hla_0); try (refine keepc hba (w.heap.size + 1) ?_ ?_; (focus (first | omega | (simp <;> omega))); intro hca_1 hfa_1 hla_1); try (refine keepc hba (w.heap.size + 1 + 1) ?_ ?_; (focus (first | omega | (simp <;> omega))); intro hca_2 hfa_2 hla_2)
      go_wp2_with fail
      refine (HH.out _ ?_).mono ?_
      · refine Ints.below HY.out ?_; repeat' (first | (with_reducible exact Below.refl _ _) | (with_reducible assumption) | (with_reducible refine Below.alloc ?_ ?_ _) | (with_reducible refine Below.setCell ?_ ?_ _) | (with_reducible refine Below.drew ?_) | (with_reducible refine below_drewN ?_ _) | (apply bthen2; (with_reducible assumption)) | go_size)
      rintro e wb ⟨rfl, hbb⟩; have hzb := hbb.size; (try simp only [World.size_alloc, World.size_setCell, World.size_drew, World.heap_drewN] at hzb); try (refine keepc hbb (w.heap.size) ?_ ?_; (focus (first | omega | (simp <;> omega))); intro hcb_0 hfb_0 hlb_0); try (refine keepc hbb (w.heap.size + 1) ?_ ?_; (focus (first | omega | (simp <;> omega))); intro hcb_1 hfb_1 hlb_1); try (refine keepc hbb (w.heap.size + 1 + 1) ?_ ?_; (focus (first | omega | (simp <;> omega))); intro hcb_2 hfb_2 hlb_2)
      go_wp2_with fail
      refine (HK.out _).mono ?_
      rintro e wc ⟨rfl, rfl⟩
      go_wp2_with fail
      refine (HC.out _ ?_).mono ?_
      · refine Ints.below HX.out ?_; repeat' (first | (with_reducible exact Below.refl _ _) | (with_reducible assumption) | (with_reducible refine Below.alloc ?_ ?_ _) | (with_reducible refine Below.setCell ?_ ?_ _) | (with_reducible refine Below.drew ?_) | (with_reducible refine below_drewN ?_ _) | (apply bthen2; (with_reducible assumption)) | go_size)
      rintro e wd ⟨rfl, hbd⟩; have hzd := hbd.size; (try simp only [World.size_alloc, World.size_setCell, World.size_drew, World.heap_drewN] at hzd); try (refine keepc hbd (w.heap.size) ?_ ?_; (focus (first | omega | (simp <;> omega))); intro hcd_0 hfd_0 hld_0); try (refine keepc hbd (w.heap.size + 1) ?_ ?_; (focus (first | omega | (simp <;> omega))); intro hcd_1 hfd_1 hld_1); try (refine keepc hbd (w.heap.size + 1 + 1) ?_ ?_; (focus (first | omega | (simp <;> omega))); intro hcd_2 hfd_2 hld_2)
      go_wp2_with fail
      refine (HD.out _ ?_).mono ?_
      · refine Ints.below HY.out ?_; repeat' (first | (with_reducible exact Below.refl _ _) | (with_reducible assumption) | (with_reducible refine Below.alloc ?_ ?_ _) | (with_reducible refine Below.setCell ?_ ?_ _) | (with_reducible refine Below.drew ?_) | (with_reducible refine below_drewN ?_ _) | (apply bthen2; (with_reducible assumption)) | go_size)
      rintro e we ⟨rfl, hbe⟩; have hze := hbe.size; (try simp only [World.size_alloc, World.size_setCell, World.size_drew, World.heap_drewN] at hze); try (refine keepc hbe (w.heap.size) ?_ ?_; (focus (first | omega | (simp <;> omega))); intro hce_0 hfe_0 hle_0); try (refine keepc hbe (w.heap.size + 1) ?_ ?_; (focus (first | omega | (simp <;> omega))); intro hce_1 hfe_1 hle_1); try (refine keepc hbe (w.heap.size + 1 + 1) ?_ ?_; (focus (first | omega | (simp <;> omega))); intro hce_2 hfe_2 hle_2)
      go_wp2_with fail
      go_ret3
      exact gives rfl (by repeat' (first | (with_reducible exact Below.refl _ _) | (with_reducible assumption) | (with_reducible refine Below.alloc ?_ ?_ _) | (with_reducible refine Below.setCell ?_ ?_ _) | (with_reducible refine Below.drew ?_) | (with_reducible refine below_drewN ?_ _) | (apply bthen2; (with_reducible assumption)) | go_size))
set_option maxHeartbeats 1000000 in
theorem sRatioLog_any (n m : Bool) (a b : Option Addr) (len cap len2 cap2 : Nat) (xs ys : List Int) (k : Int) (w : World) (hx : Ints w (.slice a len cap) xs) (hy : Ints w (.slice b len2 cap2) ys) :
    Calls Try.prog 38 #[.agg #[.bool n, .slice a len cap], .agg #[.bool m, .slice b len2 cap2], .int .i64 k] w (Gives (.tuple #[.int .i64 (rlV n xs m ys k).1, .int .i64 (rlV n xs m ys k).2.1, .bool (rlV n xs m ys k).2.2]) w) := by
  have HG := Lib.hid (fun W h => bgGood_any n a len cap xs W h)
  have HH := Lib.hid (fun W h => bgGood_any m b len2 cap2 ys W h)
  have HK := Lib.hid (fun W => htStep_any k W)
  have HX := Lib.hid hx; have HY := Lib.hid hy
  cases g1 : whB n xs
  · rw [rl_0 g1]
    rw [g1] at HG
    clear HK HH hx hy
    go_enter Try.func38, Try.ntmps38
    go_wp2_with fail
    refine (HG.out _ ?_).mono ?_
    · refine Ints.below HX.out ?_; repeat' (first | (with_reducible exact Below.refl _ _) | (with_reducible assumption) | (with_reducible refine Below.alloc ?_ ?_ _) | (with_reducible refine Below.setCell ?_ ?_ _) | (with_reducible refine Below.drew ?_) | (with_reducible refine below_drewN ?_ _) | (apply bthen2; (with_reducible assumption)) | go_size)
    rintro e wa ⟨rfl, hba⟩; have hza := hba.size; (try simp only [World.size_alloc, World.size_setCell, World.size_drew, World.heap_drewN] at hza); try (refine keepc hba (w.heap.size) ?_ ?_; (focus (first | omega | (simp <;> omega))); intro hca_0 hfa_0 hla_0); try (refine keepc hba (w.heap.size + 1) ?_ ?_; (focus (first | omega | (simp <;> omega))); intro hca_1 hfa_1 hla_1); try (refine keepc hba (w.heap.size + 1 + 1) ?_ ?_; (focus (first | omega | (simp <;> omega))); intro hca_2 hfa_2 hla_2)
    go_wp2_with fail
    go_ret3
    exact gives rfl (by repeat' (first | (with_reducible exact Below.refl _ _) | (with_reducible assumption) | (with_reducible refine Below.alloc ?_ ?_ _) | (with_reducible refine Below.setCell ?_ ?_ _) | (with_reducible refine Below.drew ?_) | (with_reducible refine below_drewN ?_ _) | (apply bthen2; (with_reducible assumption)) | go_size))
  cases g0 : whB m ys
  · rw [rl_1 g0]
    rw [g1] at HG; rw [g0] at HH
    clear HK hx hy
    go_enter Try.func38, Try.ntmps38
    go_wp2_with fail
    refine (HG.out _ ?_).mono ?_
    · refine Ints.below HX.out ?_; repeat' (first | (with_reducible exact Below.refl _ _) | (with_reducible assumption) | (with_reducible refine Below.alloc ?_ ?_ _) | (with_reducible refine Below.setCell ?_ ?_ _) | (with_reducible refine Below.drew ?_) | (with_reducible refine below_drewN ?_ _) | (apply bthen2; (with_reducible assumption)) | go_size)
    rintro e wa ⟨rfl, hba⟩; have hza := hba.size; (try simp only [World.size_alloc, World.size_setCell, World.size_drew, World.heap_drewN] at hza); try (refine keepc hba (w.heap.size) ?_ ?_; (focus (first | omega | (simp <;> omega))); intro hca_0 hfa_0 hla_0); try (refine keepc hba (w.heap.size + 1) ?_ ?_; (focus (first | omega | (simp <;> omega))); intro hca_1 hfa_1 hla_1); try (refine keepc hba (w.heap.size + 1 + 1) ?_ ?_; (focus (first | omega | (simp <;> omega))); intro hca_2 hfa_2 hla_2)
    go_wp2_with fail
    refine (HH.out _ ?_).mono ?_
    · refine Ints.below HY.out ?_; repeat' (first | (with_reducible exact Below.refl _ _) | (with_reducible assumption) | (with_reducible refine Below.alloc ?_ ?_ _) | (with_reducible refine Below.setCell ?_ ?_ _) | (with_reducible refine Below.drew ?_) | (with_reducible refine below_drewN ?_ _) | (apply bthen2; (with_reducible assumption)) | go_size)
    rintro e wb ⟨rfl, hbb⟩; have hzb := hbb.size; (try simp only [World.size_alloc, World.size_setCell, World.size_drew, World.heap_drewN] at hzb); try (refine keepc hbb (w.heap.size) ?_ ?_; (focus (first | omega | (simp <;> omega))); intro hcb_0 hfb_0 hlb_0); try (refine keepc hbb (w.heap.size + 1) ?_ ?_; (focus (first | omega | (simp <;> omega))); intro hcb_1 hfb_1 hlb_1); try (refine keepc hbb (w.heap.size + 1 + 1) ?_ ?_; (focus (first | omega | (simp <;> omega))); intro hcb_2 hfb_2 hlb_2)
    go_wp2_with fail
    go_ret3
    exact gives rfl (by repeat' (first | (with_reducible exact Below.refl _ _) | (with_reducible assumption) | (with_reducible refine Below.alloc ?_ ?_ _) | (with_reducible refine Below.setCell ?_ ?_ _) | (with_reducible refine Below.drew ?_) | (with_reducible refine below_drewN ?_ _) | (apply bthen2; (with_reducible assumption)) | go_size))
  cases g2 : inB k 0 5
  · rw [rl_2 g2]
    rw [g1] at HG; rw [g2] at HK; rw [g0] at HH
    clear hx hy
    go_enter Try.func38, Try.ntmps38
    go_wp2_with fail
    refine (HG.out _ ?_).mono ?_
    · refine Ints.below HX.out ?_; repeat' (first | (with_reducible exact Below.refl _ _) | (with_reducible assumption) | (with_reducible refine Below.alloc ?_ ?_ _) | (with_reducible refine Below.setCell ?_ ?_ _) | (with_reducible refine Below.drew ?_) | (with_reducible refine below_drewN ?_ _) | (apply bthen2; (with_reducible assumption)) | go_size)
    rintro e wa ⟨rfl, hba⟩; have hza := hba.size; (try simp only [World.size_alloc, World.size_setCell, World.size_drew, World.heap_drewN] at hza); try (refine keepc hba (w.heap.size) ?_ ?_; (focus (first | omega | (simp <;> omega))); intro hca_0 hfa_0 hla_0); try (refine keepc hba (w.heap.size + 1) ?_ ?_; (focus (first | omega | (simp <;> omega))); intro hca_1 hfa_1 hla_1); try (refine keepc hba (w.heap.size + 1 + 1) ?_ ?_; (focus (first | omega | (simp <;> omega))); intro hca_2 hfa_2 hla_2)
    go_wp2_with fail
    refine (HH.out _ ?_).mono ?_
    · refine Ints.below HY.out ?_; repeat' (first | (with_reducible exact Below.refl _ _) | (with_reducible assumption) | (with_reducible refine Below.alloc ?_ ?_ _) | (with_reducible refine Below.setCell ?_ ?_ _) | (with_reducible refine Below.drew ?_) | (with_reducible refine below_drewN ?_ _) | (apply bthen2; (with_reducible assumption)) | go_size)
    rintro e wb ⟨rfl, hbb⟩; have hzb := hbb.size; (try simp only [World.size_alloc, World.size_setCell, World.size_drew, World.heap_drewN] at hzb); try (refine keepc hbb (w.heap.size) ?_ ?_; (focus (first | omega | (simp <;> omega))); intro hcb_0 hfb_0 hlb_0); try (refine keepc hbb (w.heap.size + 1) ?_ ?_; (focus (first | omega | (simp <;> omega))); intro hcb_1 hfb_1 hlb_1); try (refine keepc hbb (w.heap.size + 1 + 1) ?_ ?_; (focus (first | omega | (simp <;> omega))); intro hcb_2 hfb_2 hlb_2)
    go_wp2_with fail
    refine (HK.out _).mono ?_
    rintro e wc ⟨rfl, rfl⟩
    go_wp2_with fail
    go_ret3
    exact gives rfl (by repeat' (first | (with_reducible exact Below.refl _ _) | (with_reducible assumption) | (with_reducible refine Below.alloc ?_ ?_ _) | (with_reducible refine Below.setCell ?_ ?_ _) | (with_reducible refine Below.drew ?_) | (with_reducible refine below_drewN ?_ _) | (apply bthen2; (with_reducible assumption)) | go_size))
  · rw [g1] at HG; rw [g2] at HK; rw [g0] at HH
    obtain ⟨z, rfl, rfl, hl⟩ := whB_z g1
    obtain ⟨y, rfl, rfl, hl2⟩ := whB_z g0
    have hk := inB_iff.1 g2
    obtain ⟨K, rfl⟩ : ∃ K : Nat, k = K := ⟨k.toNat, by omega⟩
    rw [rl_3 hl hl2 (by omega)]
    have HC := Lib.hid (fun W h => htLog_any z K (by omega) a len cap W h hl)
    have HD := Lib.hid (fun W h => htLog_any y K (by omega) b len2 cap2 W h hl2)
    have hb1 := lb_rng z K hl
    have hb2 := lb_rng y K hl2
    unfold rl3
    generalize (lb z K).1 = r0 at *
    generalize (lb z K).2.1 = r1 at *
    generalize (lb z K).2.2 = r2 at *
    generalize (lb y K).1 = t0 at *
    generalize (lb y K).2.1 = t1 at *
    generalize (lb y K).2.2 = t2 at *
    generalize decide (z < 0) = s at *
    generalize dg z.natAbs = D at *
    generalize decide (y < 0) = s2 at *
    generalize dg y.natAbs = D2 at *
    clear g1 g2 hl hk hx hy g0 hl2
    cases r2 <;> cases t2 <;> simp only [Bool.and_self, Bool.and_false, Bool.false_and, Bool.false_eq_true, if_true, if_false]
    all_goals
      go_enter Try.func38, Try.ntmps38
      go_wp2_with fail
      refine (HG.out _ ?_).mono ?_
      · refine Ints.below HX.out ?_; repeat' (first | (with_reducible exact Below.refl _ _) | (with_reducible assumption) | (with_reducible refine Below.alloc ?_ ?_ _) | (with_reducible refine Below.setCell ?_ ?_ _) | (with_reducible refine Below.drew ?_) | (with_reducible refine below_drewN ?_ _) | (apply bthen2; (with_reducible assumption)) | go_size)
      rintro e wa ⟨rfl, hba⟩; have hza := hba.size; (try simp only [World.size_alloc, World.size_setCell, World.size_drew, World.heap_drewN] at hza); try (refine keepc hba (w.heap.size) ?_ ?_; (focus (first | omega | (simp <;> omega))); intro hca_0 hfa_0 hla_0); try (refine keepc hba (w.heap.size + 1) ?_ ?_; (focus (first | omega | (simp <;> omega))); intro hca_1 hfa_1 hla_1); try (refine keepc hba (w.heap.size + 1 + 1) ?_ ?_; (focus (first | omega | (simp <;> omega))); intro hca_2 hfa_2 hla_2)
      go_wp2_with fail
      refine (HH.out _ ?_).mono ?_
      · refine Ints.below HY.out ?_; repeat' (first | (with_reducible exact Below.refl _ _) | (with_reducible assumption) | (with_reducible refine Below.alloc ?_ ?_ _) | (with_reducible refine Below.setCell ?_ ?_ _) | (with_reducible refine Below.drew ?_) | (with_reducible refine below_drewN ?_ _) | (apply bthen2; (with_reducible assumption)) | go_size)
      rintro e wb ⟨rfl, hbb⟩; have hzb := hbb.size; (try simp only [World.size_alloc, World.size_setCell, World.size_drew, World.heap_drewN] at hzb); try (refine keepc hbb (w.heap.size) ?_ ?_; (focus (first | omega | (simp <;> omega))); intro hcb_0 hfb_0 hlb_0); try (refine keepc hbb (w.heap.size + 1) ?_ ?_; (focus (first | omega | (simp <;> omega))); intro hcb_1 hfb_1 hlb_1); try (refine keepc hbb (w.heap.size + 1 + 1) ?_ ?_; (focus (first | omega | (simp <;> omega))); intro hcb_2 hfb_2 hlb_2)
      go_wp2_with fail
      refine (HK.out _).mono ?_
      rintro e wc ⟨rfl, rfl⟩
      go_wp2_with fail
      refine (HC.out _ ?_).mono ?_
      · refine Ints.below HX.out ?_; repeat' (first | (with_reducible exact Below.refl _ _) | (with_reducible assumption) | (with_reducible refine Below.alloc ?_ ?_ _) | (with_reducible refine Below.setCell ?_ ?_ _) | (with_reducible refine Below.drew ?_) | (with_reducible refine below_drewN ?_ _) | (apply bthen2; (with_reducible assumption)) | go_size)
      rintro e wd ⟨rfl, hbd⟩; have hzd := hbd.size; (try simp only [World.size_alloc, World.size_setCell, World.size_drew, World.heap_drewN] at hzd); try (refine keepc hbd (w.heap.size) ?_ ?_; (focus (first | omega | (simp <;> omega))); intro hcd_0 hfd_0 hld_0); try (refine keepc hbd (w.heap.size + 1) ?_ ?_; (focus (first | omega | (simp <;> omega))); intro hcd_1 hfd_1 hld_1); try (refine keepc hbd (w.heap.size + 1 + 1) ?_ ?_; (focus (first | omega | (simp <;> omega))); intro hcd_2 hfd_2 hld_2)
      go_wp2_with fail
      refine (HD.out _ ?_).mono ?_
      · refine Ints.below HY.out ?_; repeat' (first | (with_reducible exact Below.refl _ _) | (with_reducible assumption) | (with_reducible refine Below.alloc ?_ ?_ _) | (with_reducible refine Below.setCell ?_ ?_ _) | (with_reducible refine Below.drew ?_) | (with_reducible refine below_drewN ?_ _) | (apply bthen2; (with_reducible assumption)) | go_size)
      rintro e we ⟨rfl, hbe⟩; have hze := hbe.size; (try simp only [World.size_alloc, World.size_setCell, World.size_drew, World.heap_drewN] at hze); try (refine keepc hbe (w.heap.size) ?_ ?_; (focus (first | omega | (simp <;> omega))); intro hce_0 hfe_0 hle_0); try (refine keepc hbe (w.heap.size + 1) ?_ ?_; (focus (first | omega | (simp <;> omega))); intro hce_1 hfe_1 hle_1); try (refine keepc hbe (w.heap.size + 1 + 1) ?_ ?_; (focus (first | omega | (simp <;> omega))); intro hce_2 hfe_2 hle_2)
      go_wp2_with fail
      go_ret3
      exact gives rfl (by repeat' (first | (with_reducible exact Below.refl _ _) | (with_reducible assumption) | (with_reducible refine Below.alloc ?_ ?_ _) | (with_reducible refine Below.setCell ?_ ?_ _) | (with_reducible refine Below.drew ?_) | (with_reducible refine below_drewN ?_ _) | (apply bthen2; (with_reducible assumption)) | go_size))

end Go.Proofs.Ytelkmldmebdcgaa
