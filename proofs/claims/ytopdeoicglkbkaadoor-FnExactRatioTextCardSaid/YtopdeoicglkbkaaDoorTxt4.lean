import Derived.Test.YtopdeoicglkbkaaDoorTxt3
import Derived.Test.YtopdeoicglkbkaaDoorBits
import Derived.Test.YtopdeoicglkbkaaDoorBox
set_option linter.unusedSimpArgs false
set_option linter.unusedVariables false
namespace Go.Proofs.YtopdeoicglkbkaaDoor
open Go.RowKit

theorem wt_len {xs : List Int} (h : InR xs) (neg : Bool) : (wt neg xs).length ≤ 2 + 4 * xs.length := by
  have := tt_len h xs.length
  have h2 : (if neg = true then [45] else ([] : List UInt8)).length ≤ 1 := by split <;> simp
  unfold wt
  split
  · simp; omega
  · rw [List.length_append]; omega
def ddV (neg : Bool) (xs : List Int) : Int × Bool := if whB neg xs = true then (((wt false xs).length : Int), true) else (0, false)
theorem dd_0 {neg : Bool} {xs : List Int} (h : whB neg xs = false) : ddV neg xs = (0, false) := by unfold ddV; rw [h]; rfl
theorem dd_1 {neg : Bool} {xs : List Int} (h : whB neg xs = true) : ddV neg xs = (((wt false xs).length : Int), true) := by unfold ddV; rw [if_pos h]
def rtV (n1 : Bool) (xs : List Int) (n2 : Bool) (ys : List Int) : List UInt8 × Bool := if ratB n1 xs n2 ys = true then (wt n1 xs ++ [47] ++ wt n2 ys, true) else ([], false)
theorem rt_0 {n1 n2 : Bool} {xs ys : List Int} (h : ratB n1 xs n2 ys = false) : rtV n1 xs n2 ys = ([], false) := by unfold rtV; rw [h]; rfl
theorem rt_1 {n1 n2 : Bool} {xs ys : List Int} (h : ratB n1 xs n2 ys = true) : rtV n1 xs n2 ys = (wt n1 xs ++ [47] ++ wt n2 ys, true) := by unfold rtV; rw [if_pos h]
theorem ratB_parts {n1 n2 : Bool} {xs ys : List Int} (h : ratB n1 xs n2 ys = true) : InR xs ∧ InR ys ∧ xs.length ≤ 400 ∧ ys.length ≤ 400 := by
  unfold ratB at h
  simp only [Bool.and_eq_true] at h
  obtain ⟨c1, l1, -⟩ := whB_can h.1.1.1.1
  obtain ⟨c2, l2, -⟩ := whB_can h.1.1.1.2
  exact ⟨c1.1, c2.1, l1, l2⟩

set_option maxHeartbeats 2000000 in
theorem DecimalDigits_any (neg : Bool) (a : Option Addr) (len cap : Nat) (xs : List Int) (w : World) (hx : Ints w (.slice a len cap) xs) (htab : ∀ W, Below w.heap.size w W → Lib.TabIs Tryd.prog W "internal/strconv.uint64pow10" .u64 Lib.pow10Tab) : Calls Tryd.prog 8 #[.agg #[.bool neg, .slice a len cap]] w (Gives (.tuple #[.int .i64 (ddV neg xs).1, .bool (ddV neg xs).2]) w) := by
  have HG := Lib.hid (fun W h => isWhole_any neg a len cap xs W h)
  have HX := Lib.hid hx
  cases g : whB neg xs
  · rw [dd_0 g]
    rw [g] at HG
    clear g hx htab
    go_enter Tryd.func8, Tryd.ntmps8
    go_wp2_with fail
    refine (HG.out _ ?_).mono ?_
    · refine Ints.below HX.out ?_; repeat' (first | (with_reducible exact Below.refl _ _) | (with_reducible assumption) | (with_reducible refine Below.alloc ?_ ?_ _) | (with_reducible refine Below.setCell ?_ ?_ _) | (with_reducible refine Below.drew ?_) | (with_reducible refine below_drewN ?_ _) | (apply bthen2; (with_reducible assumption)) | go_size)
    rintro e wa ⟨rfl, hba⟩; have hza := hba.size; (try simp only [World.size_alloc, World.size_setCell, World.size_drew, World.heap_drewN] at hza); try (refine keepc hba (w.heap.size) ?_ ?_; (focus (first | omega | (simp <;> omega))); intro hca_0 hfa_0 hla_0); try (refine keepc hba (w.heap.size + 1) ?_ ?_; (focus (first | omega | (simp <;> omega))); intro hca_1 hfa_1 hla_1); try (refine keepc hba (w.heap.size + 1 + 1) ?_ ?_; (focus (first | omega | (simp <;> omega))); intro hca_2 hfa_2 hla_2)
    go_wp2_with fail
    refine bodyPost_ret (v := .tuple #[.int .i64 0, .bool false]) (by simp [results, Tryd.results8, go_sem]) rfl (gives rfl (by repeat' (first | (with_reducible exact Below.refl _ _) | (with_reducible assumption) | (with_reducible refine Below.alloc ?_ ?_ _) | (with_reducible refine Below.setCell ?_ ?_ _) | (with_reducible refine Below.drew ?_) | (with_reducible refine below_drewN ?_ _) | (apply bthen2; (with_reducible assumption)) | go_size)))
  · rw [dd_1 g]
    rw [g] at HG
    obtain ⟨hc, hl, -⟩ := whB_can g
    have HA := Lib.hid (fun W h => absolute_any neg a len cap xs W h (by omega))
    rw [trim_can hc] at HA
    have HT := Lib.hid (fun a l c W h (hW : Below w.heap.size w W) => wholeText_any false a l c xs W h hc.1 (by omega) (fun W2 h2 => htab W2 (hW.trans (h2.mono hW.size))))
    dsimp only
    clear g hx hc hl htab
    unfold str at HT
    generalize wt false xs = T at *
    go_enter Tryd.func8, Tryd.ntmps8
    go_wp2_with fail
    refine (HG.out _ ?_).mono ?_
    · refine Ints.below HX.out ?_; repeat' (first | (with_reducible exact Below.refl _ _) | (with_reducible assumption) | (with_reducible refine Below.alloc ?_ ?_ _) | (with_reducible refine Below.setCell ?_ ?_ _) | (with_reducible refine Below.drew ?_) | (with_reducible refine below_drewN ?_ _) | (apply bthen2; (with_reducible assumption)) | go_size)
    rintro e wa ⟨rfl, hba⟩; have hza := hba.size; (try simp only [World.size_alloc, World.size_setCell, World.size_drew, World.heap_drewN] at hza); try (refine keepc hba (w.heap.size) ?_ ?_; (focus (first | omega | (simp <;> omega))); intro hca_0 hfa_0 hla_0); try (refine keepc hba (w.heap.size + 1) ?_ ?_; (focus (first | omega | (simp <;> omega))); intro hca_1 hfa_1 hla_1); try (refine keepc hba (w.heap.size + 1 + 1) ?_ ?_; (focus (first | omega | (simp <;> omega))); intro hca_2 hfa_2 hla_2)
    go_wp2_with fail
    refine (HA.out _ ?_).mono ?_
    · refine Ints.below HX.out ?_; repeat' (first | (with_reducible exact Below.refl _ _) | (with_reducible assumption) | (with_reducible refine Below.alloc ?_ ?_ _) | (with_reducible refine Below.setCell ?_ ?_ _) | (with_reducible refine Below.drew ?_) | (with_reducible refine below_drewN ?_ _) | (apply bthen2; (with_reducible assumption)) | go_size)
    rintro e wb ⟨a1, l1, c1, rfl, ho, hbb⟩
    have hzb := hbb.size; (try simp only [World.size_alloc, World.size_setCell, World.size_drew, World.heap_drewN] at hzb); try (refine keepc hbb (w.heap.size) ?_ ?_; (focus (first | omega | (simp <;> omega))); intro hcb_0 hfb_0 hlb_0); try (refine keepc hbb (w.heap.size + 1) ?_ ?_; (focus (first | omega | (simp <;> omega))); intro hcb_1 hfb_1 hlb_1); try (refine keepc hbb (w.heap.size + 1 + 1) ?_ ?_; (focus (first | omega | (simp <;> omega))); intro hcb_2 hfb_2 hlb_2)
    go_wp2_with fail
    refine (HT.out _ _ _ _ ?_ ?_).mono ?_
    · refine Ints.below ho.ints ?_; repeat' (first | (with_reducible exact Below.refl _ _) | (with_reducible assumption) | (with_reducible refine Below.alloc ?_ ?_ _) | (with_reducible refine Below.setCell ?_ ?_ _) | (with_reducible refine Below.drew ?_) | (with_reducible refine below_drewN ?_ _) | (apply bthen2; (with_reducible assumption)) | go_size)
    · repeat' (first | (with_reducible exact Below.refl _ _) | (with_reducible assumption) | (with_reducible refine Below.alloc ?_ ?_ _) | (with_reducible refine Below.setCell ?_ ?_ _) | (with_reducible refine Below.drew ?_) | (with_reducible refine below_drewN ?_ _) | (apply bthen2; (with_reducible assumption)) | go_size)
    rintro e wc ⟨rfl, hbc⟩; have hzc := hbc.size; (try simp only [World.size_alloc, World.size_setCell, World.size_drew, World.heap_drewN] at hzc); try (refine keepc hbc (w.heap.size) ?_ ?_; (focus (first | omega | (simp <;> omega))); intro hcc_0 hfc_0 hlc_0); try (refine keepc hbc (w.heap.size + 1) ?_ ?_; (focus (first | omega | (simp <;> omega))); intro hcc_1 hfc_1 hlc_1); try (refine keepc hbc (w.heap.size + 1 + 1) ?_ ?_; (focus (first | omega | (simp <;> omega))); intro hcc_2 hfc_2 hlc_2)
    go_wp2_with fail
    refine bodyPost_ret (v := .tuple #[.int .i64 (T.length : Int), .bool true]) (by simp [results, Tryd.results8, go_sem]) rfl (gives rfl (by repeat' (first | (with_reducible exact Below.refl _ _) | (with_reducible assumption) | (with_reducible refine Below.alloc ?_ ?_ _) | (with_reducible refine Below.setCell ?_ ?_ _) | (with_reducible refine Below.drew ?_) | (with_reducible refine below_drewN ?_ _) | (apply bthen2; (with_reducible assumption)) | go_size)))

set_option maxHeartbeats 2000000 in
theorem sDecimalDigits_any (neg : Bool) (a : Option Addr) (len cap : Nat) (xs : List Int) (w : World) (hx : Ints w (.slice a len cap) xs) : Calls Tryd.prog 6 #[.agg #[.bool neg, .slice a len cap]] w (Gives (.tuple #[.int .i64 (ddV neg xs).1, .bool (ddV neg xs).2]) w) := by
  have HG := Lib.hid (fun W h => bgGood_any neg a len cap xs W h)
  have HX := Lib.hid hx
  cases g : whB neg xs
  · rw [dd_0 g]
    rw [g] at HG
    clear g hx
    go_enter Tryd.func6, Tryd.ntmps6
    go_wp2_with fail
    refine (HG.out _ ?_).mono ?_
    · refine Ints.below HX.out ?_; repeat' (first | (with_reducible exact Below.refl _ _) | (with_reducible assumption) | (with_reducible refine Below.alloc ?_ ?_ _) | (with_reducible refine Below.setCell ?_ ?_ _) | (with_reducible refine Below.drew ?_) | (with_reducible refine below_drewN ?_ _) | (apply bthen2; (with_reducible assumption)) | go_size)
    rintro e wa ⟨rfl, hba⟩; have hza := hba.size; (try simp only [World.size_alloc, World.size_setCell, World.size_drew, World.heap_drewN] at hza); try (refine keepc hba (w.heap.size) ?_ ?_; (focus (first | omega | (simp <;> omega))); intro hca_0 hfa_0 hla_0); try (refine keepc hba (w.heap.size + 1) ?_ ?_; (focus (first | omega | (simp <;> omega))); intro hca_1 hfa_1 hla_1); try (refine keepc hba (w.heap.size + 1 + 1) ?_ ?_; (focus (first | omega | (simp <;> omega))); intro hca_2 hfa_2 hla_2)
    go_wp2_with fail
    refine bodyPost_ret (v := .tuple #[.int .i64 0, .bool false]) (by simp [results, Tryd.results6, go_sem]) rfl (gives rfl (by repeat' (first | (with_reducible exact Below.refl _ _) | (with_reducible assumption) | (with_reducible refine Below.alloc ?_ ?_ _) | (with_reducible refine Below.setCell ?_ ?_ _) | (with_reducible refine Below.drew ?_) | (with_reducible refine below_drewN ?_ _) | (apply bthen2; (with_reducible assumption)) | go_size)))
  · rw [dd_1 g]
    rw [g] at HG
    obtain ⟨hc, hl, -⟩ := whB_can g
    have HA := Lib.hid (fun W h => bgMake_any false a len cap xs W h (by omega))
    rw [trim_can hc] at HA
    rw [show (false && decide (0 < tz xs xs.length)) = false from rfl] at HA
    have HT := Lib.hid (fun a l c W h => bgText_any false a l c xs W h hc.1 (by omega))
    dsimp only
    clear g hx hc hl
    unfold str at HT
    generalize wt false xs = T at *
    go_enter Tryd.func6, Tryd.ntmps6
    go_wp2_with fail
    refine (HG.out _ ?_).mono ?_
    · refine Ints.below HX.out ?_; repeat' (first | (with_reducible exact Below.refl _ _) | (with_reducible assumption) | (with_reducible refine Below.alloc ?_ ?_ _) | (with_reducible refine Below.setCell ?_ ?_ _) | (with_reducible refine Below.drew ?_) | (with_reducible refine below_drewN ?_ _) | (apply bthen2; (with_reducible assumption)) | go_size)
    rintro e wa ⟨rfl, hba⟩; have hza := hba.size; (try simp only [World.size_alloc, World.size_setCell, World.size_drew, World.heap_drewN] at hza); try (refine keepc hba (w.heap.size) ?_ ?_; (focus (first | omega | (simp <;> omega))); intro hca_0 hfa_0 hla_0); try (refine keepc hba (w.heap.size + 1) ?_ ?_; (focus (first | omega | (simp <;> omega))); intro hca_1 hfa_1 hla_1); try (refine keepc hba (w.heap.size + 1 + 1) ?_ ?_; (focus (first | omega | (simp <;> omega))); intro hca_2 hfa_2 hla_2)
    go_wp2_with fail
    refine (HA.out _ ?_).mono ?_
    · refine Ints.below HX.out ?_; repeat' (first | (with_reducible exact Below.refl _ _) | (with_reducible assumption) | (with_reducible refine Below.alloc ?_ ?_ _) | (with_reducible refine Below.setCell ?_ ?_ _) | (with_reducible refine Below.drew ?_) | (with_reducible refine below_drewN ?_ _) | (apply bthen2; (with_reducible assumption)) | go_size)
    rintro e wb ⟨a1, l1, c1, rfl, ho, hbb⟩
    have hzb := hbb.size; (try simp only [World.size_alloc, World.size_setCell, World.size_drew, World.heap_drewN] at hzb); try (refine keepc hbb (w.heap.size) ?_ ?_; (focus (first | omega | (simp <;> omega))); intro hcb_0 hfb_0 hlb_0); try (refine keepc hbb (w.heap.size + 1) ?_ ?_; (focus (first | omega | (simp <;> omega))); intro hcb_1 hfb_1 hlb_1); try (refine keepc hbb (w.heap.size + 1 + 1) ?_ ?_; (focus (first | omega | (simp <;> omega))); intro hcb_2 hfb_2 hlb_2)
    go_wp2_with fail
    refine (HT.out _ _ _ _ ?_).mono ?_
    · refine Ints.below ho.ints ?_; repeat' (first | (with_reducible exact Below.refl _ _) | (with_reducible assumption) | (with_reducible refine Below.alloc ?_ ?_ _) | (with_reducible refine Below.setCell ?_ ?_ _) | (with_reducible refine Below.drew ?_) | (with_reducible refine below_drewN ?_ _) | (apply bthen2; (with_reducible assumption)) | go_size)
    rintro e wc ⟨rfl, hbc⟩; have hzc := hbc.size; (try simp only [World.size_alloc, World.size_setCell, World.size_drew, World.heap_drewN] at hzc); try (refine keepc hbc (w.heap.size) ?_ ?_; (focus (first | omega | (simp <;> omega))); intro hcc_0 hfc_0 hlc_0); try (refine keepc hbc (w.heap.size + 1) ?_ ?_; (focus (first | omega | (simp <;> omega))); intro hcc_1 hfc_1 hlc_1); try (refine keepc hbc (w.heap.size + 1 + 1) ?_ ?_; (focus (first | omega | (simp <;> omega))); intro hcc_2 hfc_2 hlc_2)
    go_wp2_with fail
    refine bodyPost_ret (v := .tuple #[.int .i64 (T.length : Int), .bool true]) (by simp [results, Tryd.results6, go_sem]) rfl (gives rfl (by repeat' (first | (with_reducible exact Below.refl _ _) | (with_reducible assumption) | (with_reducible refine Below.alloc ?_ ?_ _) | (with_reducible refine Below.setCell ?_ ?_ _) | (with_reducible refine Below.drew ?_) | (with_reducible refine below_drewN ?_ _) | (apply bthen2; (with_reducible assumption)) | go_size)))

set_option maxRecDepth 100000 in
set_option maxHeartbeats 4000000 in
theorem RatioText_any (n1 n2 : Bool) (a1 a2 : Option Addr) (l1 c1 l2 c2 : Nat) (xs ys : List Int) (w : World) (hx : Ints w (.slice a1 l1 c1) xs) (hy : Ints w (.slice a2 l2 c2) ys) (htab : ∀ W, Below w.heap.size w W → Lib.TabIs Tryd.prog W "internal/strconv.uint64pow10" .u64 Lib.pow10Tab) : Calls Tryd.prog 13 #[.agg #[.bool n1, .slice a1 l1 c1, .bool n2, .slice a2 l2 c2]] w (Gives (.tuple #[.string ⟨(rtV n1 xs n2 ys).1.toArray⟩, .bool (rtV n1 xs n2 ys).2]) w) := by
  have HG := Lib.hid (fun W h h' => isRatio_any n1 n2 a1 a2 l1 c1 l2 c2 xs ys W h h')
  have HX := Lib.hid hx; have HY := Lib.hid hy
  cases g : ratB n1 xs n2 ys
  · rw [rt_0 g]
    rw [g] at HG
    clear g hx hy htab
    go_enter Tryd.func13, Tryd.ntmps13
    go_wp2_with fail
    refine (HG.out _ ?_ ?_).mono ?_
    · refine Ints.below HX.out ?_; repeat' (first | (with_reducible exact Below.refl _ _) | (with_reducible assumption) | (with_reducible refine Below.alloc ?_ ?_ _) | (with_reducible refine Below.setCell ?_ ?_ _) | (with_reducible refine Below.drew ?_) | (with_reducible refine below_drewN ?_ _) | (apply bthen2; (with_reducible assumption)) | go_size)
    · refine Ints.below HY.out ?_; repeat' (first | (with_reducible exact Below.refl _ _) | (with_reducible assumption) | (with_reducible refine Below.alloc ?_ ?_ _) | (with_reducible refine Below.setCell ?_ ?_ _) | (with_reducible refine Below.drew ?_) | (with_reducible refine below_drewN ?_ _) | (apply bthen2; (with_reducible assumption)) | go_size)
    rintro e wa ⟨rfl, hba⟩; have hza := hba.size; (try simp only [World.size_alloc, World.size_setCell, World.size_drew, World.heap_drewN] at hza); try (refine keepc hba (w.heap.size) ?_ ?_; (focus (first | omega | (simp <;> omega))); intro hca_0 hfa_0 hla_0); try (refine keepc hba (w.heap.size + 1) ?_ ?_; (focus (first | omega | (simp <;> omega))); intro hca_1 hfa_1 hla_1); try (refine keepc hba (w.heap.size + 1 + 1) ?_ ?_; (focus (first | omega | (simp <;> omega))); intro hca_2 hfa_2 hla_2)
    go_wp2_with fail
    refine bodyPost_ret (v := .tuple #[.string ⟨#[]⟩, .bool false]) (by simp [results, Tryd.results13, go_sem]) rfl (gives rfl (by repeat' (first | (with_reducible exact Below.refl _ _) | (with_reducible assumption) | (with_reducible refine Below.alloc ?_ ?_ _) | (with_reducible refine Below.setCell ?_ ?_ _) | (with_reducible refine Below.drew ?_) | (with_reducible refine below_drewN ?_ _) | (apply bthen2; (with_reducible assumption)) | go_size)))
  rw [rt_1 g]
  rw [g] at HG
  obtain ⟨hr1, hr2, k1, k2⟩ := ratB_parts g
  have HT1 := Lib.hid (fun W h (hW : Below w.heap.size w W) => wholeText_any n1 a1 l1 c1 xs W h hr1 (by omega) (fun W2 h2 => htab W2 (hW.trans (h2.mono hW.size))))
  have HT2 := Lib.hid (fun W h (hW : Below w.heap.size w W) => wholeText_any n2 a2 l2 c2 ys W h hr2 (by omega) (fun W2 h2 => htab W2 (hW.trans (h2.mono hW.size))))
  have w1 := wt_len hr1 n1; have w2 := wt_len hr2 n2
  dsimp only
  unfold str at HT1 HT2
  clear g hx hy hr1 hr2 htab
  generalize wt n1 xs = T1 at *
  generalize wt n2 ys = T2 at *
  have hs1 : ¬ (9223372036854775807 < T1.length + 1) := by omega
  have hs2 : ¬ (9223372036854775807 < T1.length + 1 + T2.length) := by omega
  have hv : Value.string ⟨(T1 ++ [47] ++ T2).toArray⟩ = Value.string (({ data := T1.toArray } ++ { data := #[47] }) ++ { data := T2.toArray }) := by rw [show ({ data := #[47] } : ByteArray) = { data := [47].toArray } from rfl, app_str, app_str]
  rw [hv]
  clear hv w1 w2
  go_enter Tryd.func13, Tryd.ntmps13
  go_upto_region 1 with fail
  refine name_world (fun V0 hV0 => ?_)
  have Br : Box V0 (w.heap.size) [.bool n1, .slice a1 l1 c1, .bool n2, .slice a2 l2 c2] := by subst hV0; exact box_four (by first | (simp; done) | (simp; omega)) (by simp [go_sem]) (by simp [go_sem]) (by simp [go_sem]) (by simp [go_sem]) (fun o => by simp [go_sem])
  have hB : Below w.heap.size w V0 := by subst hV0; exact (by repeat' (first | (with_reducible exact Below.refl _ _) | (with_reducible assumption) | (with_reducible refine Below.alloc ?_ ?_ _) | (with_reducible refine Below.setCell ?_ ?_ _) | (with_reducible refine Below.drew ?_) | (with_reducible refine below_drewN ?_ _) | (apply bthen2; (with_reducible assumption)) | go_size))
  clear hV0
  have e0 := Br.2.1 0 _ rfl; have e1 := Br.2.1 1 _ rfl; have e2 := Br.2.1 2 _ rfl; have e3 := Br.2.1 3 _ rfl
  go_wp2_with fail
  refine (HG.out _ ?_ ?_).mono ?_
  · exact HX.out.below hB
  · exact HY.out.below hB
  rintro e W1 ⟨rfl, hb⟩
  replace hB : Below w.heap.size w W1 := hB.trans (hb.mono hB.size)
  replace Br := Br.below hb
  clear e0 e1 e2 e3 hb
  have IX := HX.out.below hB; have IZ := HY.out.below hB
  go_upto_region 3 with fail
  refine wp_region_x (fun w' => Below W1.heap.size W1 w' ∧ w'.cell? ⟨w.heap.size, 0, none⟩ = some (.bool n1) ∧ w'.cell? ⟨w.heap.size, 1, none⟩ = some (.slice a1 l1 c1) ∧ w'.cell? ⟨w.heap.size, 2, none⟩ = some (.bool n2) ∧ w'.cell? ⟨w.heap.size, 3, none⟩ = some (.slice a2 l2 c2)) (fun i => decide (i < 10)) (by kernel_rfl) ?_ (fun hHeld => ?_)
  focus ((try dsimp only); (refine (fun hbK => And.intro hbK (by exact ⟨(hbK.cell (p := ⟨w.heap.size, 0, none⟩) Br.1).trans (Br.2.1 0 _ rfl), (hbK.cell (p := ⟨w.heap.size, 1, none⟩) Br.1).trans (Br.2.1 1 _ rfl), (hbK.cell (p := ⟨w.heap.size, 2, none⟩) Br.1).trans (Br.2.1 2 _ rfl), (hbK.cell (p := ⟨w.heap.size, 3, none⟩) Br.1).trans (Br.2.1 3 _ rfl)⟩)) ?_; repeat' (first | (with_reducible exact Below.refl _ _) | (with_reducible assumption) | (with_reducible refine Below.alloc ?_ ?_ _) | (with_reducible refine Below.setCell ?_ ?_ _) | (with_reducible refine Below.drew ?_) | (with_reducible refine below_drewN ?_ _) | (apply bthen2; (with_reducible assumption)) | go_size)))
  refine wpAnyX_take (v := ?_) 0 rfl (by kernel_rfl) (by kernel_rfl) (by kernel_rfl) (by kernel_rfl) (by kernel_rfl) (fun _ _ _ h => h) (by rfl) ?_ (by assumption) ?_
  rotate_left
  focus (intro w hSw; (try dsimp only at hSw); go_simp; (try with_reducible rfl))
  (try simp only [Act.put, List.setIfInBounds_toArray, List.set_cons_zero, List.set_cons_succ])
  refine wpAnyX_take (v := ?_) 1 rfl (by kernel_rfl) (by kernel_rfl) (by kernel_rfl) (by kernel_rfl) (by kernel_rfl) (fun _ _ _ h => h) (by rfl) ?_ (by assumption) ?_
  rotate_left
  focus (intro w hSw; (try dsimp only at hSw); go_simp; (try with_reducible rfl))
  (try simp only [Act.put, List.setIfInBounds_toArray, List.set_cons_zero, List.set_cons_succ])
  refine wpAnyX_take (v := ?_) 4 rfl (by kernel_rfl) (by kernel_rfl) (by kernel_rfl) (by kernel_rfl) (by kernel_rfl) (fun _ _ _ h => h) (by rfl) ?_ (by assumption) ?_
  rotate_left
  focus (intro w hSw; (try dsimp only at hSw); go_simp; (try with_reducible rfl))
  (try simp only [Act.put, List.setIfInBounds_toArray, List.set_cons_zero, List.set_cons_succ])
  refine wpAnyX_take (v := ?_) 5 rfl (by kernel_rfl) (by kernel_rfl) (by kernel_rfl) (by kernel_rfl) (by kernel_rfl) (fun _ _ _ h => h) (by rfl) ?_ (by assumption) ?_
  rotate_left
  focus (intro w hSw; (try dsimp only at hSw); go_simp; (try with_reducible rfl))
  (try simp only [Act.put, List.setIfInBounds_toArray, List.set_cons_zero, List.set_cons_succ])
  refine wpAnyX_one 2 rfl (by kernel_rfl) (fun K hK => ?_)
  go_simp
  (go_at_call 21; refine (HT1.out _ ?_ ?_).mono ?_; (focus (refine Ints.below IX ?_; repeat' (first | (with_reducible exact Below.refl _ _) | (with_reducible assumption) | (with_reducible refine Below.alloc ?_ ?_ _) | (with_reducible refine Below.setCell ?_ ?_ _) | (with_reducible refine Below.drew ?_) | (with_reducible refine below_drewN ?_ _) | (apply bthen2; (with_reducible assumption)) | go_size))); (focus (repeat' (first | (with_reducible exact Below.refl _ _) | (with_reducible assumption) | (with_reducible refine Below.alloc ?_ ?_ _) | (with_reducible refine Below.setCell ?_ ?_ _) | (with_reducible refine Below.drew ?_) | (with_reducible refine below_drewN ?_ _) | (apply bthen2; (with_reducible assumption)) | go_size))); rintro e u1 ⟨rfl, hb1⟩)
  go_wp2_with fail
  clear hHeld
  refine hK.out _ _ ?_ (fun hHeld => ?_)
  focus ((try dsimp only); (refine (fun hbK => And.intro hbK (by exact ⟨(hbK.cell (p := ⟨w.heap.size, 0, none⟩) Br.1).trans (Br.2.1 0 _ rfl), (hbK.cell (p := ⟨w.heap.size, 1, none⟩) Br.1).trans (Br.2.1 1 _ rfl), (hbK.cell (p := ⟨w.heap.size, 2, none⟩) Br.1).trans (Br.2.1 2 _ rfl), (hbK.cell (p := ⟨w.heap.size, 3, none⟩) Br.1).trans (Br.2.1 3 _ rfl)⟩)) ?_; repeat' (first | (with_reducible exact Below.refl _ _) | (with_reducible assumption) | (with_reducible refine Below.alloc ?_ ?_ _) | (with_reducible refine Below.setCell ?_ ?_ _) | (with_reducible refine Below.drew ?_) | (with_reducible refine below_drewN ?_ _) | (apply bthen2; (with_reducible assumption)) | go_size)))
  clear hK K
  (try simp only [Act.put, List.setIfInBounds_toArray, List.set_cons_zero, List.set_cons_succ])
  refine wpAnyX_take (v := ?_) 3 rfl (by kernel_rfl) (by kernel_rfl) (by kernel_rfl) (by kernel_rfl) (by kernel_rfl) (fun _ _ _ h => h) (by rfl) ?_ (by assumption) ?_
  rotate_left
  focus (intro w hSw; (try dsimp only at hSw); go_simp; (try with_reducible rfl))
  (try simp only [Act.put, List.setIfInBounds_toArray, List.set_cons_zero, List.set_cons_succ])
  refine wpAnyX_one 6 rfl (by kernel_rfl) (fun K hK => ?_)
  go_simp
  (go_at_call 21; refine (HT2.out _ ?_ ?_).mono ?_; (focus (refine Ints.below IZ ?_; repeat' (first | (with_reducible exact Below.refl _ _) | (with_reducible assumption) | (with_reducible refine Below.alloc ?_ ?_ _) | (with_reducible refine Below.setCell ?_ ?_ _) | (with_reducible refine Below.drew ?_) | (with_reducible refine below_drewN ?_ _) | (apply bthen2; (with_reducible assumption)) | go_size))); (focus (repeat' (first | (with_reducible exact Below.refl _ _) | (with_reducible assumption) | (with_reducible refine Below.alloc ?_ ?_ _) | (with_reducible refine Below.setCell ?_ ?_ _) | (with_reducible refine Below.drew ?_) | (with_reducible refine below_drewN ?_ _) | (apply bthen2; (with_reducible assumption)) | go_size))); rintro e u2 ⟨rfl, hb2⟩)
  go_wp2_with fail
  clear hHeld
  refine hK.out _ _ ?_ (fun hHeld => ?_)
  focus ((try dsimp only); (refine (fun hbK => And.intro hbK (by exact ⟨(hbK.cell (p := ⟨w.heap.size, 0, none⟩) Br.1).trans (Br.2.1 0 _ rfl), (hbK.cell (p := ⟨w.heap.size, 1, none⟩) Br.1).trans (Br.2.1 1 _ rfl), (hbK.cell (p := ⟨w.heap.size, 2, none⟩) Br.1).trans (Br.2.1 2 _ rfl), (hbK.cell (p := ⟨w.heap.size, 3, none⟩) Br.1).trans (Br.2.1 3 _ rfl)⟩)) ?_; repeat' (first | (with_reducible exact Below.refl _ _) | (with_reducible assumption) | (with_reducible refine Below.alloc ?_ ?_ _) | (with_reducible refine Below.setCell ?_ ?_ _) | (with_reducible refine Below.drew ?_) | (with_reducible refine below_drewN ?_ _) | (apply bthen2; (with_reducible assumption)) | go_size)))
  clear hK K
  (try simp only [Act.put, List.setIfInBounds_toArray, List.set_cons_zero, List.set_cons_succ])
  refine wpAnyX_take (v := ?_) 7 rfl (by kernel_rfl) (by kernel_rfl) (by kernel_rfl) (by kernel_rfl) (by kernel_rfl) (fun _ _ _ h => h) (by rfl) ?_ (by assumption) ?_
  rotate_left
  focus (intro w hSw; (try dsimp only at hSw); go_simp; (try with_reducible rfl))
  (try simp only [Act.put, List.setIfInBounds_toArray, List.set_cons_zero, List.set_cons_succ])
  refine wpAnyX_take (v := ?_) 8 rfl (by kernel_rfl) (by kernel_rfl) (by kernel_rfl) (by kernel_rfl) (by kernel_rfl) (fun _ _ _ h => h) (by rfl) ?_ (by assumption) ?_
  rotate_left
  focus (intro w hSw; (try dsimp only at hSw); go_simp; (try with_reducible rfl))
  (try simp only [Act.put, List.setIfInBounds_toArray, List.set_cons_zero, List.set_cons_succ])
  refine wpAnyX_take (v := ?_) 9 rfl (by kernel_rfl) (by kernel_rfl) (by kernel_rfl) (by kernel_rfl) (by kernel_rfl) (fun _ _ _ h => h) (by rfl) ?_ (by assumption) ?_
  rotate_left
  focus (intro w hSw; (try dsimp only at hSw); go_simp; (try with_reducible rfl))
  (try simp only [Act.put, List.setIfInBounds_toArray, List.set_cons_zero, List.set_cons_succ])
  refine wpAnyX_done (by kernel_rfl) ?_ _
  refine NoPanic.normal ?_
  go_wp2_with fail
  refine bodyPost_ret (v := .tuple #[.string (({ data := T1.toArray } ++ { data := #[47] }) ++ { data := T2.toArray }), .bool true]) (by simp [results, Tryd.results13, go_sem]) rfl (gives rfl (by repeat' (first | (with_reducible exact Below.refl _ _) | (with_reducible assumption) | (with_reducible refine Below.alloc ?_ ?_ _) | (with_reducible refine Below.setCell ?_ ?_ _) | (with_reducible refine Below.drew ?_) | (with_reducible refine below_drewN ?_ _) | (apply bthen2; (with_reducible assumption)) | go_size)))

set_option maxRecDepth 100000 in
set_option maxHeartbeats 4000000 in
theorem sRatioText_any (n1 n2 : Bool) (a1 a2 : Option Addr) (l1 c1 l2 c2 : Nat) (xs ys : List Int) (w : World) (hx : Ints w (.slice a1 l1 c1) xs) (hy : Ints w (.slice a2 l2 c2) ys) : Calls Tryd.prog 11 #[.agg #[.bool n1, .slice a1 l1 c1, .bool n2, .slice a2 l2 c2]] w (Gives (.tuple #[.string ⟨(rtV n1 xs n2 ys).1.toArray⟩, .bool (rtV n1 xs n2 ys).2]) w) := by
  have HG := Lib.hid (fun W h h' => xdGood_any n1 n2 a1 a2 l1 c1 l2 c2 xs ys W h h')
  have HX := Lib.hid hx; have HY := Lib.hid hy
  cases g : ratB n1 xs n2 ys
  · rw [rt_0 g]
    rw [g] at HG
    clear g hx hy
    go_enter Tryd.func11, Tryd.ntmps11
    go_wp2_with fail
    refine (HG.out _ ?_ ?_).mono ?_
    · refine Ints.below HX.out ?_; repeat' (first | (with_reducible exact Below.refl _ _) | (with_reducible assumption) | (with_reducible refine Below.alloc ?_ ?_ _) | (with_reducible refine Below.setCell ?_ ?_ _) | (with_reducible refine Below.drew ?_) | (with_reducible refine below_drewN ?_ _) | (apply bthen2; (with_reducible assumption)) | go_size)
    · refine Ints.below HY.out ?_; repeat' (first | (with_reducible exact Below.refl _ _) | (with_reducible assumption) | (with_reducible refine Below.alloc ?_ ?_ _) | (with_reducible refine Below.setCell ?_ ?_ _) | (with_reducible refine Below.drew ?_) | (with_reducible refine below_drewN ?_ _) | (apply bthen2; (with_reducible assumption)) | go_size)
    rintro e wa ⟨rfl, hba⟩; have hza := hba.size; (try simp only [World.size_alloc, World.size_setCell, World.size_drew, World.heap_drewN] at hza); try (refine keepc hba (w.heap.size) ?_ ?_; (focus (first | omega | (simp <;> omega))); intro hca_0 hfa_0 hla_0); try (refine keepc hba (w.heap.size + 1) ?_ ?_; (focus (first | omega | (simp <;> omega))); intro hca_1 hfa_1 hla_1); try (refine keepc hba (w.heap.size + 1 + 1) ?_ ?_; (focus (first | omega | (simp <;> omega))); intro hca_2 hfa_2 hla_2)
    go_wp2_with fail
    refine bodyPost_ret (v := .tuple #[.string ⟨#[]⟩, .bool false]) (by simp [results, Tryd.results11, go_sem]) rfl (gives rfl (by repeat' (first | (with_reducible exact Below.refl _ _) | (with_reducible assumption) | (with_reducible refine Below.alloc ?_ ?_ _) | (with_reducible refine Below.setCell ?_ ?_ _) | (with_reducible refine Below.drew ?_) | (with_reducible refine below_drewN ?_ _) | (apply bthen2; (with_reducible assumption)) | go_size)))
  rw [rt_1 g]
  rw [g] at HG
  obtain ⟨hr1, hr2, k1, k2⟩ := ratB_parts g
  have HT1 := Lib.hid (fun W h => bgText_any n1 a1 l1 c1 xs W h hr1 (by omega))
  have HT2 := Lib.hid (fun W h => bgText_any n2 a2 l2 c2 ys W h hr2 (by omega))
  have w1 := wt_len hr1 n1; have w2 := wt_len hr2 n2
  dsimp only
  unfold str at HT1 HT2
  clear g hx hy hr1 hr2
  generalize wt n1 xs = T1 at *
  generalize wt n2 ys = T2 at *
  have hs1 : ¬ (9223372036854775807 < T1.length + 1) := by omega
  have hs2 : ¬ (9223372036854775807 < T1.length + 1 + T2.length) := by omega
  have hv : Value.string ⟨(T1 ++ [47] ++ T2).toArray⟩ = Value.string (({ data := T1.toArray } ++ { data := #[47] }) ++ { data := T2.toArray }) := by rw [show ({ data := #[47] } : ByteArray) = { data := [47].toArray } from rfl, app_str, app_str]
  rw [hv]
  clear hv w1 w2
  go_enter Tryd.func11, Tryd.ntmps11
  go_upto_region 1 with fail
  refine name_world (fun V0 hV0 => ?_)
  have Br : Box V0 (w.heap.size) [.bool n1, .slice a1 l1 c1, .bool n2, .slice a2 l2 c2] := by subst hV0; exact box_four (by first | (simp; done) | (simp; omega)) (by simp [go_sem]) (by simp [go_sem]) (by simp [go_sem]) (by simp [go_sem]) (fun o => by simp [go_sem])
  have hB : Below w.heap.size w V0 := by subst hV0; exact (by repeat' (first | (with_reducible exact Below.refl _ _) | (with_reducible assumption) | (with_reducible refine Below.alloc ?_ ?_ _) | (with_reducible refine Below.setCell ?_ ?_ _) | (with_reducible refine Below.drew ?_) | (with_reducible refine below_drewN ?_ _) | (apply bthen2; (with_reducible assumption)) | go_size))
  clear hV0
  have e0 := Br.2.1 0 _ rfl; have e1 := Br.2.1 1 _ rfl; have e2 := Br.2.1 2 _ rfl; have e3 := Br.2.1 3 _ rfl
  go_wp2_with fail
  refine (HG.out _ ?_ ?_).mono ?_
  · exact HX.out.below hB
  · exact HY.out.below hB
  rintro e W1 ⟨rfl, hb⟩
  replace hB : Below w.heap.size w W1 := hB.trans (hb.mono hB.size)
  replace Br := Br.below hb
  clear e0 e1 e2 e3 hb
  have IX := HX.out.below hB; have IZ := HY.out.below hB
  go_upto_region 3 with fail
  refine wp_region_x (fun w' => Below W1.heap.size W1 w' ∧ w'.cell? ⟨w.heap.size, 0, none⟩ = some (.bool n1) ∧ w'.cell? ⟨w.heap.size, 1, none⟩ = some (.slice a1 l1 c1) ∧ w'.cell? ⟨w.heap.size, 2, none⟩ = some (.bool n2) ∧ w'.cell? ⟨w.heap.size, 3, none⟩ = some (.slice a2 l2 c2)) (fun i => decide (i < 10)) (by kernel_rfl) ?_ (fun hHeld => ?_)
  focus ((try dsimp only); (refine (fun hbK => And.intro hbK (by exact ⟨(hbK.cell (p := ⟨w.heap.size, 0, none⟩) Br.1).trans (Br.2.1 0 _ rfl), (hbK.cell (p := ⟨w.heap.size, 1, none⟩) Br.1).trans (Br.2.1 1 _ rfl), (hbK.cell (p := ⟨w.heap.size, 2, none⟩) Br.1).trans (Br.2.1 2 _ rfl), (hbK.cell (p := ⟨w.heap.size, 3, none⟩) Br.1).trans (Br.2.1 3 _ rfl)⟩)) ?_; repeat' (first | (with_reducible exact Below.refl _ _) | (with_reducible assumption) | (with_reducible refine Below.alloc ?_ ?_ _) | (with_reducible refine Below.setCell ?_ ?_ _) | (with_reducible refine Below.drew ?_) | (with_reducible refine below_drewN ?_ _) | (apply bthen2; (with_reducible assumption)) | go_size)))
  refine wpAnyX_take (v := ?_) 0 rfl (by kernel_rfl) (by kernel_rfl) (by kernel_rfl) (by kernel_rfl) (by kernel_rfl) (fun _ _ _ h => h) (by rfl) ?_ (by assumption) ?_
  rotate_left
  focus (intro w hSw; (try dsimp only at hSw); go_simp; (try with_reducible rfl))
  (try simp only [Act.put, List.setIfInBounds_toArray, List.set_cons_zero, List.set_cons_succ])
  refine wpAnyX_take (v := ?_) 1 rfl (by kernel_rfl) (by kernel_rfl) (by kernel_rfl) (by kernel_rfl) (by kernel_rfl) (fun _ _ _ h => h) (by rfl) ?_ (by assumption) ?_
  rotate_left
  focus (intro w hSw; (try dsimp only at hSw); go_simp; (try with_reducible rfl))
  (try simp only [Act.put, List.setIfInBounds_toArray, List.set_cons_zero, List.set_cons_succ])
  refine wpAnyX_take (v := ?_) 4 rfl (by kernel_rfl) (by kernel_rfl) (by kernel_rfl) (by kernel_rfl) (by kernel_rfl) (fun _ _ _ h => h) (by rfl) ?_ (by assumption) ?_
  rotate_left
  focus (intro w hSw; (try dsimp only at hSw); go_simp; (try with_reducible rfl))
  (try simp only [Act.put, List.setIfInBounds_toArray, List.set_cons_zero, List.set_cons_succ])
  refine wpAnyX_take (v := ?_) 5 rfl (by kernel_rfl) (by kernel_rfl) (by kernel_rfl) (by kernel_rfl) (by kernel_rfl) (fun _ _ _ h => h) (by rfl) ?_ (by assumption) ?_
  rotate_left
  focus (intro w hSw; (try dsimp only at hSw); go_simp; (try with_reducible rfl))
  (try simp only [Act.put, List.setIfInBounds_toArray, List.set_cons_zero, List.set_cons_succ])
  refine wpAnyX_one 2 rfl (by kernel_rfl) (fun K hK => ?_)
  go_simp
  (go_at_call 17; refine (HT1.out _ ?_).mono ?_; (focus (refine Ints.below IX ?_; repeat' (first | (with_reducible exact Below.refl _ _) | (with_reducible assumption) | (with_reducible refine Below.alloc ?_ ?_ _) | (with_reducible refine Below.setCell ?_ ?_ _) | (with_reducible refine Below.drew ?_) | (with_reducible refine below_drewN ?_ _) | (apply bthen2; (with_reducible assumption)) | go_size))); rintro e u1 ⟨rfl, hb1⟩)
  go_wp2_with fail
  clear hHeld
  refine hK.out _ _ ?_ (fun hHeld => ?_)
  focus ((try dsimp only); (refine (fun hbK => And.intro hbK (by exact ⟨(hbK.cell (p := ⟨w.heap.size, 0, none⟩) Br.1).trans (Br.2.1 0 _ rfl), (hbK.cell (p := ⟨w.heap.size, 1, none⟩) Br.1).trans (Br.2.1 1 _ rfl), (hbK.cell (p := ⟨w.heap.size, 2, none⟩) Br.1).trans (Br.2.1 2 _ rfl), (hbK.cell (p := ⟨w.heap.size, 3, none⟩) Br.1).trans (Br.2.1 3 _ rfl)⟩)) ?_; repeat' (first | (with_reducible exact Below.refl _ _) | (with_reducible assumption) | (with_reducible refine Below.alloc ?_ ?_ _) | (with_reducible refine Below.setCell ?_ ?_ _) | (with_reducible refine Below.drew ?_) | (with_reducible refine below_drewN ?_ _) | (apply bthen2; (with_reducible assumption)) | go_size)))
  clear hK K
  (try simp only [Act.put, List.setIfInBounds_toArray, List.set_cons_zero, List.set_cons_succ])
  refine wpAnyX_take (v := ?_) 3 rfl (by kernel_rfl) (by kernel_rfl) (by kernel_rfl) (by kernel_rfl) (by kernel_rfl) (fun _ _ _ h => h) (by rfl) ?_ (by assumption) ?_
  rotate_left
  focus (intro w hSw; (try dsimp only at hSw); go_simp; (try with_reducible rfl))
  (try simp only [Act.put, List.setIfInBounds_toArray, List.set_cons_zero, List.set_cons_succ])
  refine wpAnyX_one 6 rfl (by kernel_rfl) (fun K hK => ?_)
  go_simp
  (go_at_call 17; refine (HT2.out _ ?_).mono ?_; (focus (refine Ints.below IZ ?_; repeat' (first | (with_reducible exact Below.refl _ _) | (with_reducible assumption) | (with_reducible refine Below.alloc ?_ ?_ _) | (with_reducible refine Below.setCell ?_ ?_ _) | (with_reducible refine Below.drew ?_) | (with_reducible refine below_drewN ?_ _) | (apply bthen2; (with_reducible assumption)) | go_size))); rintro e u2 ⟨rfl, hb2⟩)
  go_wp2_with fail
  clear hHeld
  refine hK.out _ _ ?_ (fun hHeld => ?_)
  focus ((try dsimp only); (refine (fun hbK => And.intro hbK (by exact ⟨(hbK.cell (p := ⟨w.heap.size, 0, none⟩) Br.1).trans (Br.2.1 0 _ rfl), (hbK.cell (p := ⟨w.heap.size, 1, none⟩) Br.1).trans (Br.2.1 1 _ rfl), (hbK.cell (p := ⟨w.heap.size, 2, none⟩) Br.1).trans (Br.2.1 2 _ rfl), (hbK.cell (p := ⟨w.heap.size, 3, none⟩) Br.1).trans (Br.2.1 3 _ rfl)⟩)) ?_; repeat' (first | (with_reducible exact Below.refl _ _) | (with_reducible assumption) | (with_reducible refine Below.alloc ?_ ?_ _) | (with_reducible refine Below.setCell ?_ ?_ _) | (with_reducible refine Below.drew ?_) | (with_reducible refine below_drewN ?_ _) | (apply bthen2; (with_reducible assumption)) | go_size)))
  clear hK K
  (try simp only [Act.put, List.setIfInBounds_toArray, List.set_cons_zero, List.set_cons_succ])
  refine wpAnyX_take (v := ?_) 7 rfl (by kernel_rfl) (by kernel_rfl) (by kernel_rfl) (by kernel_rfl) (by kernel_rfl) (fun _ _ _ h => h) (by rfl) ?_ (by assumption) ?_
  rotate_left
  focus (intro w hSw; (try dsimp only at hSw); go_simp; (try with_reducible rfl))
  (try simp only [Act.put, List.setIfInBounds_toArray, List.set_cons_zero, List.set_cons_succ])
  refine wpAnyX_take (v := ?_) 8 rfl (by kernel_rfl) (by kernel_rfl) (by kernel_rfl) (by kernel_rfl) (by kernel_rfl) (fun _ _ _ h => h) (by rfl) ?_ (by assumption) ?_
  rotate_left
  focus (intro w hSw; (try dsimp only at hSw); go_simp; (try with_reducible rfl))
  (try simp only [Act.put, List.setIfInBounds_toArray, List.set_cons_zero, List.set_cons_succ])
  refine wpAnyX_take (v := ?_) 9 rfl (by kernel_rfl) (by kernel_rfl) (by kernel_rfl) (by kernel_rfl) (by kernel_rfl) (fun _ _ _ h => h) (by rfl) ?_ (by assumption) ?_
  rotate_left
  focus (intro w hSw; (try dsimp only at hSw); go_simp; (try with_reducible rfl))
  (try simp only [Act.put, List.setIfInBounds_toArray, List.set_cons_zero, List.set_cons_succ])
  refine wpAnyX_done (by kernel_rfl) ?_ _
  refine NoPanic.normal ?_
  go_wp2_with fail
  refine bodyPost_ret (v := .tuple #[.string (({ data := T1.toArray } ++ { data := #[47] }) ++ { data := T2.toArray }), .bool true]) (by simp [results, Tryd.results11, go_sem]) rfl (gives rfl (by repeat' (first | (with_reducible exact Below.refl _ _) | (with_reducible assumption) | (with_reducible refine Below.alloc ?_ ?_ _) | (with_reducible refine Below.setCell ?_ ?_ _) | (with_reducible refine Below.drew ?_) | (with_reducible refine below_drewN ?_ _) | (apply bthen2; (with_reducible assumption)) | go_size)))

end Go.Proofs.YtopdeoicglkbkaaDoor
