import Derived.Test.YtfcfjlfobflmaaaDoorTxt3
import Derived.Test.YtfcfjlfobflmaaaDoorBits
import Derived.Test.YtfcfjlfobflmaaaDoorBox
set_option linter.unusedSimpArgs false
set_option linter.unusedVariables false
namespace Go.Proofs.YtfcfjlfobflmaaaDoor
open Go.RowKit

theorem wt_len {xs : List Int} (h : InR xs) (neg : Bool) : (wt neg xs).length ≤ 2 + 4 * xs.length := by
  have := tt_len h xs.length
  have h2 : (if neg = true then [45] else ([] : List UInt8)).length ≤ 1 := by split <;> simp
  unfold wt
  split
  · simp; omega
  · rw [List.length_append]; omega
def ddV (neg : Bool) (xs : List Int) : Int × Bool := if whB neg xs = true then (((wt false xs).length : Int), true) else (0, false)
theorem dd_0 {neg : Bool} {xs : List Int} (h : whB neg xs = false) : ddV neg xs = (0, false) := by unfold ddV; rw [h]; rfl
theorem dd_1 {neg : Bool} {xs : List Int} (h : whB neg xs = true) : ddV neg xs = (((wt false xs).length : Int), true) := by unfold ddV; rw [if_pos h]
def rtV (n1 : Bool) (xs : List Int) (n2 : Bool) (ys : List Int) : List UInt8 × Bool := if ratB n1 xs n2 ys = true then (wt n1 xs ++ [47] ++ wt n2 ys, true) else ([], false)
theorem rt_0 {n1 n2 : Bool} {xs ys : List Int} (h : ratB n1 xs n2 ys = false) : rtV n1 xs n2 ys = ([], false) := by unfold rtV; rw [h]; rfl
theorem rt_1 {n1 n2 : Bool} {xs ys : List Int} (h : ratB n1 xs n2 ys = true) : rtV n1 xs n2 ys = (wt n1 xs ++ [47] ++ wt n2 ys, true) := by unfold rtV; rw [if_pos h]
theorem ratB_parts {n1 n2 : Bool} {xs ys : List Int} (h : ratB n1 xs n2 ys = true) : InR xs ∧ InR ys ∧ xs.length ≤ 400 ∧ ys.length ≤ 400 := by
  unfold ratB at h
  simp only [Bool.and_eq_true] at h
  obtain ⟨c1, l1, -⟩ := whB_can h.1.1.1.1
  obtain ⟨c2, l2, -⟩ := whB_can h.1.1.1.2
  exact ⟨c1.1, c2.1, l1, l2⟩

set_option maxHeartbeats 2000000 in
theorem DecimalDigits_any (neg : Bool) (a : Option Addr) (len cap : Nat) (xs : List Int) (w : World) (hx : Ints w (.slice a len cap) xs) (htab : ∀ W, Below w.heap.size w W → Lib.TabIs Tryd.prog W "internal/strconv.uint64pow10" .u64 Lib.pow10Tab) : Calls Tryd.prog 19 #[.agg #[.bool neg, .slice a len cap]] w (Gives (.tuple #[.int .i64 (ddV neg xs).1, .bool (ddV neg xs).2]) w) := by
  have HG := Lib.hid (fun W h => isWhole_any neg a len cap xs W h)
  have HX := Lib.hid hx
  cases g : whB neg xs
  · rw [dd_0 g]
    rw [g] at HG
    clear g hx htab
    go_enter Tryd.func19, Tryd.ntmps19
    go_wp2_with fail
    refine (HG.out _ ?_).mono ?_
    · refine Ints.below HX.out ?_; repeat' (first | (with_reducible exact Below.refl _ _) | (with_reducible assumption) | (with_reducible refine Below.alloc ?_ ?_ _) | (with_reducible refine Below.setCell ?_ ?_ _) | (with_reducible refine Below.drew ?_) | (with_reducible refine below_drewN ?_ _) | (apply bthen2; (with_reducible assumption)) | go_size)
    rintro e wa ⟨rfl, hba⟩; have hza := hba.size; (try simp only [World.size_alloc, World.size_setCell, World.size_drew, World.heap_drewN] at hza); try (refine keepc hba (w.heap.size) ?_ ?_; (focus (first | omega | (simp <;> omega))); intro hca_0 hfa_0 hla_0); try (refine keepc hba (w.heap.size + 1) ?_ ?_; (focus (first | omega | (simp <;> omega))); intro hca_1 hfa_1 hla_1); try (refine keepc hba (w.heap.size + 1 + 1) ?_ ?_; (focus (first | omega | (simp <;> omega))); intro hca_2 hfa_2 hla_2)
    go_wp2_with fail
    refine bodyPost_ret (v := .tuple #[.int .i64 0, .bool false]) (by simp [results, Tryd.results19, go_sem]) rfl (gives rfl (by repeat' (first | (with_reducible exact Below.refl _ _) | (with_reducible assumption) | (with_reducible refine Below.alloc ?_ ?_ _) | (with_reducible refine Below.setCell ?_ ?_ _) | (with_reducible refine Below.drew ?_) | (with_reducible refine below_drewN ?_ _) | (apply bthen2; (with_reducible assumption)) | go_size)))
  · rw [dd_1 g]
    rw [g] at HG
    obtain ⟨hc, hl, -⟩ := whB_can g
    have HA := Lib.hid (fun W h => absolute_any neg a len cap xs W h (by omega))
    rw [trim_can hc] at HA
    have HT := Lib.hid (fun a l c W h (hW : Below w.heap.size w W) => wholeText_any false a l c xs W h hc.1 (by omega) (fun W2 h2 => htab W2 (hW.trans (h2.mono hW.size))))
    dsimp only
    clear g hx hc hl htab
    unfold str at HT
    generalize wt false xs = T at *
    go_enter Tryd.func19, Tryd.ntmps19
    go_wp2_with fail
    refine (HG.out _ ?_).mono ?_
    · refine Ints.below HX.out ?_; repeat' (first | (with_reducible exact Below.refl _ _) | (with_reducible assumption) | (with_reducible refine Below.alloc ?_ ?_ _) | (with_reducible refine Below.setCell ?_ ?_ _) | (with_reducible refine Below.drew ?_) | (with_reducible refine below_drewN ?_ _) | (apply bthen2; (with_reducible assumption)) | go_size)
    rintro e wa ⟨rfl, hba⟩; have hza := hba.size; (try simp only [World.size_alloc, World.size_setCell, World.size_drew, World.heap_drewN] at hza); try (refine keepc hba (w.heap.size) ?_ ?_; (focus (first | omega | (simp <;> omega))); intro hca_0 hfa_0 hla_0); try (refine keepc hba (w.heap.size + 1) ?_ ?_; (focus (first | omega | (simp <;> omega))); intro hca_1 hfa_1 hla_1); try (refine keepc hba (w.heap.size + 1 + 1) ?_ ?_; (focus (first | omega | (simp <;> omega))); intro hca_2 hfa_2 hla_2)
    go_wp2_with fail
    refine (HA.out _ ?_).mono ?_
    · refine Ints.below HX.out ?_; repeat' (first | (with_reducible exact Below.refl _ _) | (with_reducible assumption) | (with_reducible refine Below.alloc ?_ ?_ _) | (with_reducible refine Below.setCell ?_ ?_ _) | (with_reducible refine Below.drew ?_) | (with_reducible refine below_drewN ?_ _) | (apply bthen2; (with_reducible assumption)) | go_size)
    rintro e wb ⟨a1, l1, c1, rfl, ho, hbb⟩
    have hzb := hbb.size; (try simp only [World.size_alloc, World.size_setCell, World.size_drew, World.heap_drewN] at hzb); try (refine keepc hbb (w.heap.size) ?_ ?_; (focus (first | omega | (simp <;> omega))); intro hcb_0 hfb_0 hlb_0); try (refine keepc hbb (w.heap.size + 1) ?_ ?_; (focus (first | omega | (simp <;> omega))); intro hcb_1 hfb_1 hlb_1); try (refine keepc hbb (w.heap.size + 1 + 1) ?_ ?_; (focus (first | omega | (simp <;> omega))); intro hcb_2 hfb_2 hlb_2)
    go_wp2_with fail
    refine (HT.out _ _ _ _ ?_ ?_).mono ?_
    · refine Ints.below ho.ints ?_; repeat' (first | (with_reducible exact Below.refl _ _) | (with_reducible assumption) | (with_reducible refine Below.alloc ?_ ?_ _) | (with_reducible refine Below.setCell ?_ ?_ _) | (with_reducible refine Below.drew ?_) | (with_reducible refine below_drewN ?_ _) | (apply bthen2; (with_reducible assumption)) | go_size)
    · repeat' (first | (with_reducible exact Below.refl _ _) | (with_reducible assumption) | (with_reducible refine Below.alloc ?_ ?_ _) | (with_reducible refine Below.setCell ?_ ?_ _) | (with_reducible refine Below.drew ?_) | (with_reducible refine below_drewN ?_ _) | (apply bthen2; (with_reducible assumption)) | go_size)
    rintro e wc ⟨rfl, hbc⟩; have hzc := hbc.size; (try simp only [World.size_alloc, World.size_setCell, World.size_drew, World.heap_drewN] at hzc); try (refine keepc hbc (w.heap.size) ?_ ?_; (focus (first | omega | (simp <;> omega))); intro hcc_0 hfc_0 hlc_0); try (refine keepc hbc (w.heap.size + 1) ?_ ?_; (focus (first | omega | (simp <;> omega))); intro hcc_1 hfc_1 hlc_1); try (refine keepc hbc (w.heap.size + 1 + 1) ?_ ?_; (focus (first | omega | (simp <;> omega))); intro hcc_2 hfc_2 hlc_2)
    go_wp2_with fail
    refine bodyPost_ret (v := .tuple #[.int .i64 (T.length : Int), .bool true]) (by simp [results, Tryd.results19, go_sem]) rfl (gives rfl (by repeat' (first | (with_reducible exact Below.refl _ _) | (with_reducible assumption) | (with_reducible refine Below.alloc ?_ ?_ _) | (with_reducible refine Below.setCell ?_ ?_ _) | (with_reducible refine Below.drew ?_) | (with_reducible refine below_drewN ?_ _) | (apply bthen2; (with_reducible assumption)) | go_size)))

set_option maxHeartbeats 2000000 in
theorem sDecimalDigits_any (neg : Bool) (a : Option Addr) (len cap : Nat) (xs : List Int) (w : World) (hx : Ints w (.slice a len cap) xs) : Calls Tryd.prog 20 #[.agg #[.bool neg, .slice a len cap]] w (Gives (.tuple #[.int .i64 (ddV neg xs).1, .bool (ddV neg xs).2]) w) := by
  have HG := Lib.hid (fun W h => bgGood_any neg a len cap xs W h)
  have HX := Lib.hid hx
  cases g : whB neg xs
  · rw [dd_0 g]
    rw [g] at HG
    clear g hx
    go_enter Tryd.func20, Tryd.ntmps20
    go_wp2_with fail
    refine (HG.out _ ?_).mono ?_
    · refine Ints.below HX.out ?_; repeat' (first | (with_reducible exact Below.refl _ _) | (with_reducible assumption) | (with_reducible refine Below.alloc ?_ ?_ _) | (with_reducible refine Below.setCell ?_ ?_ _) | (with_reducible refine Below.drew ?_) | (with_reducible refine below_drewN ?_ _) | (apply bthen2; (with_reducible assumption)) | go_size)
    rintro e wa ⟨rfl, hba⟩; have hza := hba.size; (try simp only [World.size_alloc, World.size_setCell, World.size_drew, World.heap_drewN] at hza); try (refine keepc hba (w.heap.size) ?_ ?_; (focus (first | omega | (simp <;> omega))); intro hca_0 hfa_0 hla_0); try (refine keepc hba (w.heap.size + 1) ?_ ?_; (focus (first | omega | (simp <;> omega))); intro hca_1 hfa_1 hla_1); try (refine keepc hba (w.heap.size + 1 + 1) ?_ ?_; (focus (first | omega | (simp <;> omega))); intro hca_2 hfa_2 hla_2)
    go_wp2_with fail
    refine bodyPost_ret (v := .tuple #[.int .i64 0, .bool false]) (by simp [results, Tryd.results20, go_sem]) rfl (gives rfl (by repeat' (first | (with_reducible exact Below.refl _ _) | (with_reducible assumption) | (with_reducible refine Below.alloc ?_ ?_ _) | (with_reducible refine Below.setCell ?_ ?_ _) | (with_reducible refine Below.drew ?_) | (with_reducible refine below_drewN ?_ _) | (apply bthen2; (with_reducible assumption)) | go_size)))
  · rw [dd_1 g]
    rw [g] at HG
    obtain ⟨hc, hl, -⟩ := whB_can g
    have HA := Lib.hid (fun W h => bgMake_any false a len cap xs W h (by omega))
    rw [trim_can hc] at HA
    rw [show (false && decide (0 < tz xs xs.length)) = false from rfl] at HA
    have HT := Lib.hid (fun a l c W h => bgText_any false a l c xs W h hc.1 (by omega))
    dsimp only
    clear g hx hc hl
    unfold str at HT
    generalize wt false xs = T at *
    go_enter Tryd.func20, Tryd.ntmps20
    go_wp2_with fail
    refine (HG.out _ ?_).mono ?_
    · refine Ints.below HX.out ?_; repeat' (first | (with_reducible exact Below.refl _ _) | (with_reducible assumption) | (with_reducible refine Below.alloc ?_ ?_ _) | (with_reducible refine Below.setCell ?_ ?_ _) | (with_reducible refine Below.drew ?_) | (with_reducible refine below_drewN ?_ _) | (apply bthen2; (with_reducible assumption)) | go_size)
    rintro e wa ⟨rfl, hba⟩; have hza := hba.size; (try simp only [World.size_alloc, World.size_setCell, World.size_drew, World.heap_drewN] at hza); try (refine keepc hba (w.heap.size) ?_ ?_; (focus (first | omega | (simp <;> omega))); intro hca_0 hfa_0 hla_0); try (refine keepc hba (w.heap.size + 1) ?_ ?_; (focus (first | omega | (simp <;> omega))); intro hca_1 hfa_1 hla_1); try (refine keepc hba (w.heap.size + 1 + 1) ?_ ?_; (focus (first | omega | (simp <;> omega))); intro hca_2 hfa_2 hla_2)
    go_wp2_with fail
    refine (HA.out _ ?_).mono ?_
    · refine Ints.below HX.out ?_; repeat' (first | (with_reducible exact Below.refl _ _) | (with_reducible assumption) | (with_reducible refine Below.alloc ?_ ?_ _) | (with_reducible refine Below.setCell ?_ ?_ _) | (with_reducible refine Below.drew ?_) | (with_reducible refine below_drewN ?_ _) | (apply bthen2; (with_reducible assumption)) | go_size)
    rintro e wb ⟨a1, l1, c1, rfl, ho, hbb⟩
    have hzb := hbb.size; (try simp only [World.size_alloc, World.size_setCell, World.size_drew, World.heap_drewN] at hzb); try (refine keepc hbb (w.heap.size) ?_ ?_; (focus (first | omega | (simp <;> omega))); intro hcb_0 hfb_0 hlb_0); try (refine keepc hbb (w.heap.size + 1) ?_ ?_; (focus (first | omega | (simp <;> omega))); intro hcb_1 hfb_1 hlb_1); try (refine keepc hbb (w.heap.size + 1 + 1) ?_ ?_; (focus (first | omega | (simp <;> omega))); intro hcb_2 hfb_2 hlb_2)
    go_wp2_with fail
    refine (HT.out _ _ _ _ ?_).mono ?_
    · refine Ints.below ho.ints ?_; repeat' (first | (with_reducible exact Below.refl _ _) | (with_reducible assumption) | (with_reducible refine Below.alloc ?_ ?_ _) | (with_reducible refine Below.setCell ?_ ?_ _) | (with_reducible refine Below.drew ?_) | (with_reducible refine below_drewN ?_ _) | (apply bthen2; (with_reducible assumption)) | go_size)
    rintro e wc ⟨rfl, hbc⟩; have hzc := hbc.size; (try simp only [World.size_alloc, World.size_setCell, World.size_drew, World.heap_drewN] at hzc); try (refine keepc hbc (w.heap.size) ?_ ?_; (focus (first | omega | (simp <;> omega))); intro hcc_0 hfc_0 hlc_0); try (refine keepc hbc (w.heap.size + 1) ?_ ?_; (focus (first | omega | (simp <;> omega))); intro hcc_1 hfc_1 hlc_1); try (refine keepc hbc (w.heap.size + 1 + 1) ?_ ?_; (focus (first | omega | (simp <;> omega))); intro hcc_2 hfc_2 hlc_2)
    go_wp2_with fail
    refine bodyPost_ret (v := .tuple #[.int .i64 (T.length : Int), .bool true]) (by simp [results, Tryd.results20, go_sem]) rfl (gives rfl (by repeat' (first | (with_reducible exact Below.refl _ _) | (with_reducible assumption) | (with_reducible refine Below.alloc ?_ ?_ _) | (with_reducible refine Below.setCell ?_ ?_ _) | (with_reducible refine Below.drew ?_) | (with_reducible refine below_drewN ?_ _) | (apply bthen2; (with_reducible assumption)) | go_size)))

end Go.Proofs.YtfcfjlfobflmaaaDoor
