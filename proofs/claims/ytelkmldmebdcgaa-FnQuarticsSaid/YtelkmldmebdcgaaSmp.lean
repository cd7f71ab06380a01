import Derived.Test.YtelkmldmebdcgaaPart
import Derived.Test.YtelkmldmebdcgaaBox
import Derived.Test.YtelkmldmebdcgaaLawS2
set_option linter.unusedSimpArgs false
set_option linter.unusedVariables false
namespace Go.Proofs.Ytelkmldmebdcgaa
open Go.RowKit
/-! ### two lists of points are the same; operations that a guard leaves out (copies, for seats without the points' group) -/

theorem wpAnyX_skip {P : Program} {Q : Exit → Act → World → Prop} {md : Region.Mode} {S : World → Prop} {D : Nat → Bool} {l : List Oper} {oi : Oper} {r : List Oper} {fuel : Nat} {listed : Array Bool} {a : Act} {w : World} (i : Nat) (hi : l.drop i = oi :: r)
    (hs : Region.noSelect l.toArray = true) (hf : Region.free md l.toArray listed i = true) (hr : (Region.ready md l.toArray listed).contains i = true) (hd : Region.demands md l.toArray D i = true) (hc : closedB md l.toArray listed = true)
    (hQ : ∀ c a w, Q (.panic c) (a.put oi.dst undef) w → Q (.panic c) a w) (hw : Region.wanted oi (yielded l.toArray a.tmps) = false) (hS : S w)
    (h : wpAnyX P md l.toArray Q S D fuel (listed.setIfInBounds i true) (a.put oi.dst undef) w) : wpAnyX P md l.toArray Q S D (fuel + 1) listed a w :=
  wpAnyX_first (drop_get hi) (Region.noSelect_spec hs) hQ (demands_spec hd) fuel listed a w (closed_spec hc) (Region.free_spec (drop_get hi) hf) (by simpa using hr) (Or.inr ⟨hw, rfl⟩) hS h
theorem wanted_no {b : Bool} {A B : Prop} (h : b = false) : (if b = true then A else B) = B := by rw [h]; exact if_neg (by simp)

set_option maxRecDepth 100000 in
set_option maxHeartbeats 4000000 in
theorem pSamePoints_same (s t : Value) (ps : List P3) (w : World) (hs : PtsR w s ps) (ht : PtsR w t ps) : Calls Try.prog 23 #[s, t] w (Gives (.bool true) w) := by
  obtain ⟨a, cap, rfl, hl, hc⟩ := hs
  obtain ⟨a2, cap2, rfl, hl2, hc2⟩ := ht
  have HC := Lib.hid hc; have HC2 := Lib.hid hc2
  clear hc hc2
  go_enter Try.func23, Try.ntmps23
  go_wp2_with fail
  go_loopw [13] (fun v13 wr => ∃ k : Nat, v13 = .int .i64 k ∧ k ≤ ps.length ∧ Below w.heap.size w wr) (fun v13 _ => (ps.length - intOf v13).toNat)
  case atStart => exact ⟨0, rfl, by omega, Below.refl _ _⟩
  case round =>
    obtain ⟨k, rfl, hk, hbw⟩ := hrel
    by_cases hlt : k < ps.length
    · obtain ⟨⟨px, py, pe⟩, hp⟩ : ∃ p, ps[k]? = some p := ⟨_, List.getElem?_eq_getElem hlt⟩
      obtain ⟨b, off, ha, hbl, x0, x1, x2⟩ := HC.out k _ hp
      obtain ⟨b2, off2, ha2, hbl2, y0, y1, y2⟩ := HC2.out k _ hp
      subst ha; subst ha2
      simp only at x0 x1 x2 y0 y1 y2
      have e0 := (hbw.cell (p := ⟨b, _, none⟩) hbl).trans x0
      have e1 := (hbw.cell (p := ⟨b, _, none⟩) hbl).trans x1
      have e2 := (hbw.cell (p := ⟨b, _, none⟩) hbl).trans x2
      have f0 := (hbw.cell (p := ⟨b2, _, none⟩) hbl2).trans y0
      have f1 := (hbw.cell (p := ⟨b2, _, none⟩) hbl2).trans y1
      have f2 := (hbw.cell (p := ⟨b2, _, none⟩) hbl2).trans y2
      have hlt' : (k : Int) < (ps.length : Int) := by omega
      clear hp HC HC2 x0 x1 x2 y0 y1 y2
      go_wp2_with fail
      (try (go_quiet (fail); go_wp2_with fail))
      go_roundw
      case rel => exact ⟨k + 1, rfl, by omega, (by repeat' (first | (with_reducible exact Below.refl _ _) | (with_reducible assumption) | (with_reducible refine Below.alloc ?_ ?_ _) | (with_reducible refine Below.setCell ?_ ?_ _) | (with_reducible refine Below.drew ?_) | (with_reducible refine below_drewN ?_ _) | (apply bthen2; (with_reducible assumption)) | go_size))⟩
      case measure => simp [intOf]; omega
    · obtain rfl : k = ps.length := by omega
      go_wp2_with fail
      go_ret
      exact gives rfl (by repeat' (first | (with_reducible exact Below.refl _ _) | (with_reducible assumption) | (with_reducible refine Below.alloc ?_ ?_ _) | (with_reducible refine Below.setCell ?_ ?_ _) | (with_reducible refine Below.drew ?_) | (with_reducible refine below_drewN ?_ _) | (apply bthen2; (with_reducible assumption)) | go_size))

end Go.Proofs.Ytelkmldmebdcgaa
