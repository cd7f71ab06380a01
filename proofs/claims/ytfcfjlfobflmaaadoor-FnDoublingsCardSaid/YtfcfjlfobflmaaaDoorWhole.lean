import Derived.Test.YtfcfjlfobflmaaaDoorMem
import Derived.Test.YtfcfjlfobflmaaaDoorDig
set_option linter.unusedSimpArgs false
set_option linter.unusedVariables false
namespace Go.Proofs.YtfcfjlfobflmaaaDoor
open Go.RowKit
/-! ### wholes: a sign and digits -/

/-- The call hands back a whole whose digits are of its own. -/
def GivesW (neg : Bool) (xs : List Int) (w : World) (e : Ending) (w' : World) : Prop := ∃ a len cap, e = .returned (.agg #[.bool neg, .slice a len cap]) ∧ Own w' w.heap.size (.slice a len cap) xs ∧ Below w.heap.size w w'
theorem Own.set {w : World} {B : Nat} {s : Value} {xs : List Int} {p : Addr} (h : Own w B s xs) (hp : p.block < B) (u : Value) : Own (w.setCell p u) B s xs := ownsRow_setCell_below h hp u
theorem Own.drew {w : World} {B : Nat} {s : Value} {xs : List Int} (h : Own w B s xs) : Own w.drew B s xs := h

/-- a valid whole -/
def whB (neg : Bool) (xs : List Int) : Bool := decide (xs.length ≤ 400) && !(xs.length == 0 && neg) && (xs.length == 0 || !(xs.getD (xs.length - 1) 0 == 0)) && xs.all (fun x => inB x 0 9999)
def okK (xs : List Int) (k : Nat) : Prop := ∀ j, j < k → inB (xs.getD j 0) 0 9999 = true
theorem okK_all {xs : List Int} (h : okK xs xs.length) : xs.all (fun x => inB x 0 9999) = true := by
  rw [List.all_eq_true]
  intro x hx
  obtain ⟨j, hj, rfl⟩ := List.mem_iff_getElem.1 hx
  have := h j hj
  simpa [List.getD, List.getElem?_eq_getElem hj] using this
theorem okK_no {xs : List Int} {k : Nat} (hk : k < xs.length) (h : inB (xs.getD k 0) 0 9999 = false) : xs.all (fun x => inB x 0 9999) = false := by
  rw [List.all_eq_false]
  refine ⟨xs[k], List.getElem_mem hk, ?_⟩
  simp only [List.getD, List.getElem?_eq_getElem hk, Option.getD_some] at h
  simp [h]

set_option maxHeartbeats 1000000 in
theorem isWhole_any (neg : Bool) (a : Option Addr) (len cap : Nat) (xs : List Int) (w : World) (hx : Ints w (.slice a len cap) xs) : Calls Tryd.prog 37 #[.agg #[.bool neg, .slice a len cap]] w (Gives (.bool (whB neg xs)) w) := by
  rcases hx with ⟨a, cap, hs, rfl⟩ | ⟨b, off, len, cap, hs, hl, h0, hc, hm, hbl, hcell⟩
  · obtain ⟨rfl, rfl, rfl⟩ := by simpa using hs
    cases neg
    all_goals
      go_enter Tryd.func37, Tryd.ntmps37
      go_wp2
      first | (go_ret; exact gives (vbool rfl) (by repeat' (first | (with_reducible exact Below.refl _ _) | (with_reducible assumption) | (with_reducible refine Below.alloc ?_ ?_ _) | (with_reducible refine Below.setCell ?_ ?_ _) | (with_reducible refine Below.drew ?_) | (with_reducible refine below_drewN ?_ _) | (apply bthen2; (with_reducible assumption)) | go_size))) | (refine wp_loop_rounds 1 ?_; rw [rounds_succ]; go_wp2; go_ret; exact gives (vbool rfl) (by repeat' (first | (with_reducible exact Below.refl _ _) | (with_reducible assumption) | (with_reducible refine Below.alloc ?_ ?_ _) | (with_reducible refine Below.setCell ?_ ?_ _) | (with_reducible refine Below.drew ?_) | (with_reducible refine below_drewN ?_ _) | (apply bthen2; (with_reducible assumption)) | go_size)))
  · obtain ⟨rfl, rfl, rfl⟩ := by simpa using hs
    have hm' := hm
    unfold maxLen at hm'
    by_cases g0 : 400 < len
    · have e : whB neg xs = false := by unfold whB; rw [show decide (xs.length ≤ 400) = false by simp; omega]; rfl
      have E := Lib.hid e; clear e
      go_enter Tryd.func37, Tryd.ntmps37
      go_wp2
      go_ret
      exact gives (vbool E.out.symm) (by repeat' (first | (with_reducible exact Below.refl _ _) | (with_reducible assumption) | (with_reducible refine Below.alloc ?_ ?_ _) | (with_reducible refine Below.setCell ?_ ?_ _) | (with_reducible refine Below.drew ?_) | (with_reducible refine below_drewN ?_ _) | (apply bthen2; (with_reducible assumption)) | go_size))
    · have e : whB neg xs = (!(xs.getD (len - 1) 0 == 0) && xs.all (fun x => inB x 0 9999)) := by
        unfold whB; rw [hl, show decide (len ≤ 400) = true by simp; omega, show (len == 0) = false by simp; omega]; simp
      have c := hcell (len - 1) (by omega)
      have E := Lib.hid e
      generalize xs.getD (len - 1) 0 = L at *
      have n0 : ((len : Int) == 0) = false := by simp; omega
      cases g1 : (L == 0)
      · rw [g1] at e
        have e2 : whB neg xs = xs.all (fun x => inB x 0 9999) := by rw [e]; rfl
        have E := Lib.hid e2; clear e e2
        have HC := Lib.hid hcell; clear hcell
        have d0 : decide (400 < (len : Int)) = false := by simp; omega
        go_enter Tryd.func37, Tryd.ntmps37
        go_wp2_with fail
        go_loop [35] (fun v35 => ∃ k : Nat, k ≤ len ∧ v35 = .int .i64 k ∧ okK xs k) (fun v35 => len - (intOf v35).toNat)
        case atStart => exact ⟨0, by omega, rfl, fun j hj => by omega⟩
        case round =>
          obtain ⟨k, hk, rfl, hok⟩ := hrel
          have HOK := Lib.hid hok; clear hok
          by_cases hlt : k < len
          · have c1 := HC.out k hlt
            cases gx : inB (xs.getD k 0) 0 9999
            · have e := okK_no (by omega) gx
              have E2 := Lib.hid e; clear e
              generalize xs.getD k 0 = X at c1 gx
              go_wp2_with (go_at_call 25; refine (inside_any _ _ _ _).mono ?_; rintro e w1 ⟨rfl, rfl⟩)
              go_ret
              exact gives (vbool (by rw [E.out, E2.out])) (by repeat' (first | (with_reducible exact Below.refl _ _) | (with_reducible assumption) | (with_reducible refine Below.alloc ?_ ?_ _) | (with_reducible refine Below.setCell ?_ ?_ _) | (with_reducible refine Below.drew ?_) | (with_reducible refine below_drewN ?_ _) | (apply bthen2; (with_reducible assumption)) | go_size))
            · have hn : okK xs (k + 1) := fun j hj => by
                by_cases q : j = k
                · subst q; exact gx
                · exact HOK.out j (by omega)
              have HN := Lib.hid hn; clear hn
              generalize xs.getD k 0 = X at c1 gx
              go_wp2_with (go_at_call 25; refine (inside_any _ _ _ _).mono ?_; rintro e w1 ⟨rfl, rfl⟩)
              go_round
              case rel => exact ⟨k + 1, by omega, by go_num, HN.out⟩
              case measure => simp [intOf]; omega
          · have e := okK_all (xs := xs) (by rw [hl]; have q : k = len := by omega
                                             rw [← q]; exact HOK.out)
            have E2 := Lib.hid e; clear e
            go_wp2
            go_ret
            exact gives (vbool (by rw [E.out, E2.out])) (by repeat' (first | (with_reducible exact Below.refl _ _) | (with_reducible assumption) | (with_reducible refine Below.alloc ?_ ?_ _) | (with_reducible refine Below.setCell ?_ ?_ _) | (with_reducible refine Below.drew ?_) | (with_reducible refine below_drewN ?_ _) | (apply bthen2; (with_reducible assumption)) | go_size))
      · rw [g1] at e
        have E := Lib.hid e; clear e
        have HC := Lib.hid hcell; clear hcell hl
        go_enter Tryd.func37, Tryd.ntmps37
        go_wp2
        go_ret
        exact gives (vbool E.out.symm) (by repeat' (first | (with_reducible exact Below.refl _ _) | (with_reducible assumption) | (with_reducible refine Below.alloc ?_ ?_ _) | (with_reducible refine Below.setCell ?_ ?_ _) | (with_reducible refine Below.drew ?_) | (with_reducible refine below_drewN ?_ _) | (apply bthen2; (with_reducible assumption)) | go_size))

theorem l1All_any (a : Option Addr) (len cap : Nat) (xs : List Int) (w : World) (hx : Ints w (.slice a len cap) xs) : Calls Tryd.prog 59 #[.slice a len cap, .int .i64 0, .int .i64 9999] w (Same (.bool (xs.all (fun x => inB x 0 9999))) w) := by
  rcases hx with ⟨a, cap, hs, rfl⟩ | ⟨b, off, len, cap, hs, hl, h0, hc, hm, hbl, hcell⟩
  · obtain ⟨rfl, rfl, rfl⟩ := by simpa using hs
    go_enter Tryd.func59, Tryd.ntmps59
    go_wp2
    refine wp_loop_rounds 1 ?_; rw [rounds_succ]
    go_wp2
    go_ret; exact same rfl
  · obtain ⟨rfl, rfl, rfl⟩ := by simpa using hs
    have hm' := hm
    unfold maxLen at hm'
    have HC := Lib.hid hcell; clear hcell
    go_enter Tryd.func59, Tryd.ntmps59
    go_wp2
    go_loop [11] (fun v11 => ∃ k : Nat, k ≤ len ∧ v11 = .int .i64 k ∧ okK xs k) (fun v11 => len - (intOf v11).toNat)
    case atStart => exact ⟨0, by omega, rfl, fun j hj => by omega⟩
    case round =>
      obtain ⟨k, hk, rfl, hok⟩ := hrel
      have HOK := Lib.hid hok; clear hok
      by_cases hlt : k < len
      · have c1 := HC.out k hlt
        cases gx : inB (xs.getD k 0) 0 9999
        · have e := okK_no (by omega) gx
          have E2 := Lib.hid e; clear e
          generalize xs.getD k 0 = X at c1 gx
          go_wp2_with (go_at_call 28; refine (l1In_any _ _ _ _).mono ?_; rintro e w1 ⟨rfl, rfl⟩)
          go_ret
          exact same (vbool (by rw [E2.out]))
        · have hn : okK xs (k + 1) := fun j hj => by
            by_cases q : j = k
            · subst q; exact gx
            · exact HOK.out j (by omega)
          have HN := Lib.hid hn; clear hn
          generalize xs.getD k 0 = X at c1 gx
          go_wp2_with (go_at_call 28; refine (l1In_any _ _ _ _).mono ?_; rintro e w1 ⟨rfl, rfl⟩)
          go_round
          case rel => exact ⟨k + 1, by omega, by go_num, HN.out⟩
          case measure => simp [intOf]; omega
      · have e := okK_all (xs := xs) (by rw [hl]; have q : k = len := by omega
                                         rw [← q]; exact HOK.out)
        have E2 := Lib.hid e; clear e
        go_wp2
        go_ret
        exact same (vbool (by rw [E2.out]))

set_option maxHeartbeats 1000000 in
theorem bgGood_any (neg : Bool) (a : Option Addr) (len cap : Nat) (xs : List Int) (w : World) (hx : Ints w (.slice a len cap) xs) : Calls Tryd.prog 40 #[.agg #[.bool neg, .slice a len cap]] w (Gives (.bool (whB neg xs)) w) := by
  have hA : ∀ W, Ints W (.slice a len cap) xs → Calls Tryd.prog 59 #[.slice a len cap, .int .i64 0, .int .i64 9999] W (Same (.bool (xs.all (fun x => inB x 0 9999))) W) := fun W h => l1All_any a len cap xs W h
  have HX := Lib.hid hx
  rcases hx with ⟨a, cap, hs, rfl⟩ | ⟨b, off, len, cap, hs, hl, h0, hc, hm, hbl, hcell⟩
  · obtain ⟨rfl, rfl, rfl⟩ := by simpa using hs
    have HA := Lib.hid hA; clear hA
    cases neg
    all_goals
      go_enter Tryd.func40, Tryd.ntmps40
      go_wp2_with (first | (go_at_call 59; refine (HA.out _ ?_).mono ?_; (focus (refine Ints.below HX.out ?_; repeat' (first | (with_reducible exact Below.refl _ _) | (with_reducible assumption) | (with_reducible refine Below.alloc ?_ ?_ _) | (with_reducible refine Below.setCell ?_ ?_ _) | (with_reducible refine Below.drew ?_) | (with_reducible refine below_drewN ?_ _) | (apply bthen2; (with_reducible assumption)) | go_size))); rintro e w1 ⟨rfl, rfl⟩))
      go_ret
      exact gives (vbool rfl) (by repeat' (first | (with_reducible exact Below.refl _ _) | (with_reducible assumption) | (with_reducible refine Below.alloc ?_ ?_ _) | (with_reducible refine Below.setCell ?_ ?_ _) | (with_reducible refine Below.drew ?_) | (with_reducible refine below_drewN ?_ _) | (apply bthen2; (with_reducible assumption)) | go_size))
  · obtain ⟨rfl, rfl, rfl⟩ := by simpa using hs
    have hm' := hm
    unfold maxLen at hm'
    by_cases g0 : 400 < len
    · have e : whB neg xs = false := by unfold whB; rw [show decide (xs.length ≤ 400) = false by simp; omega]; rfl
      have E := Lib.hid e; clear e
      go_enter Tryd.func40, Tryd.ntmps40
      go_wp2
      go_ret
      exact gives (vbool E.out.symm) (by repeat' (first | (with_reducible exact Below.refl _ _) | (with_reducible assumption) | (with_reducible refine Below.alloc ?_ ?_ _) | (with_reducible refine Below.setCell ?_ ?_ _) | (with_reducible refine Below.drew ?_) | (with_reducible refine below_drewN ?_ _) | (apply bthen2; (with_reducible assumption)) | go_size))
    · have e : whB neg xs = (!(xs.getD (len - 1) 0 == 0) && xs.all (fun x => inB x 0 9999)) := by
        unfold whB; rw [hl, show decide (len ≤ 400) = true by simp; omega, show (len == 0) = false by simp; omega]; simp
      have c := hcell (len - 1) (by omega)
      cases gA : xs.all (fun x => inB x 0 9999)
      · rw [gA] at e hA
        have E := Lib.hid (show whB neg xs = false by rw [e]; simp); clear e
        have HA := Lib.hid hA; clear hA
        have HC := Lib.hid hcell; clear hcell hl
        go_enter Tryd.func40, Tryd.ntmps40
        go_wp2_with (first | (go_at_call 59; refine (HA.out _ ?_).mono ?_; (focus (refine Ints.below HX.out ?_; repeat' (first | (with_reducible exact Below.refl _ _) | (with_reducible assumption) | (with_reducible refine Below.alloc ?_ ?_ _) | (with_reducible refine Below.setCell ?_ ?_ _) | (with_reducible refine Below.drew ?_) | (with_reducible refine below_drewN ?_ _) | (apply bthen2; (with_reducible assumption)) | go_size))); rintro e w1 ⟨rfl, rfl⟩))
        go_ret
        exact gives (vbool E.out.symm) (by repeat' (first | (with_reducible exact Below.refl _ _) | (with_reducible assumption) | (with_reducible refine Below.alloc ?_ ?_ _) | (with_reducible refine Below.setCell ?_ ?_ _) | (with_reducible refine Below.drew ?_) | (with_reducible refine below_drewN ?_ _) | (apply bthen2; (with_reducible assumption)) | go_size))
      · have hpos : 0 ≤ xs.getD (len - 1) 0 := by
          rw [List.all_eq_true] at gA
          have hj : len - 1 < xs.length := by omega
          have := gA xs[len - 1] (List.getElem_mem hj)
          simp only [List.getD, List.getElem?_eq_getElem hj, Option.getD_some]
          exact (inB_iff.1 this).1
        rw [gA] at e hA
        have E := Lib.hid e; clear e
        have HA := Lib.hid hA; clear hA
        generalize xs.getD (len - 1) 0 = L at *
        have n0 : ((len : Int) == 0) = false := by simp; omega
        have HC := Lib.hid hcell; clear hcell hl gA
        by_cases gL : 0 < L
        all_goals
          go_enter Tryd.func40, Tryd.ntmps40
          go_wp2_with (first | (go_at_call 59; refine (HA.out _ ?_).mono ?_; (focus (refine Ints.below HX.out ?_; repeat' (first | (with_reducible exact Below.refl _ _) | (with_reducible assumption) | (with_reducible refine Below.alloc ?_ ?_ _) | (with_reducible refine Below.setCell ?_ ?_ _) | (with_reducible refine Below.drew ?_) | (with_reducible refine below_drewN ?_ _) | (apply bthen2; (with_reducible assumption)) | go_size))); rintro e w1 ⟨rfl, rfl⟩))
          go_ret
          exact gives (vbool (by rw [E.out, Bool.eq_iff_iff]; simp; omega)) (by repeat' (first | (with_reducible exact Below.refl _ _) | (with_reducible assumption) | (with_reducible refine Below.alloc ?_ ?_ _) | (with_reducible refine Below.setCell ?_ ?_ _) | (with_reducible refine Below.drew ?_) | (with_reducible refine below_drewN ?_ _) | (apply bthen2; (with_reducible assumption)) | go_size))

end Go.Proofs.YtfcfjlfobflmaaaDoor
