import Derived.Test.YtopdeoicglkbkaaDoorHgt2
set_option linter.unusedSimpArgs false
set_option linter.unusedVariables false
namespace Go.Proofs.YtopdeoicglkbkaaDoor
open Go.RowKit
/-! ### heights in bits -/

theorem absolute_any (n : Bool) (a : Option Addr) (len cap : Nat) (xs : List Int) (w : World) (hx : Ints w (.slice a len cap) xs) (hn : xs.length ≤ 1048576) : Calls Tryd.prog 22 #[.agg #[.bool n, .slice a len cap]] w (GivesW false (trim xs) w) := by
  have HM := Lib.hid (fun W h => trimmed_any false a len cap xs W h hn)
  rw [show (false && decide (0 < tz xs xs.length)) = false from rfl] at HM
  have HX := Lib.hid hx
  generalize trim xs = T at *
  clear hx hn
  go_enter Tryd.func22, Tryd.ntmps22
  go_wp2_with fail
  refine (HM.out _ ?_).mono ?_
  · refine Ints.below HX.out ?_; repeat' (first | (with_reducible exact Below.refl _ _) | (with_reducible assumption) | (with_reducible refine Below.alloc ?_ ?_ _) | (with_reducible refine Below.setCell ?_ ?_ _) | (with_reducible refine Below.drew ?_) | (with_reducible refine below_drewN ?_ _) | (apply bthen2; (with_reducible assumption)) | go_size)
  rintro e w2 ⟨a3, len3, cap3, rfl, ho, hb2⟩
  have hz2 := hb2.size; (try simp only [World.size_alloc, World.size_setCell, World.size_drew, World.heap_drewN] at hz2); try (refine keepc hb2 (w.heap.size) ?_ ?_; (focus (first | omega | (simp <;> omega))); intro hc2_0 hf2_0 hl2_0); try (refine keepc hb2 (w.heap.size + 1) ?_ ?_; (focus (first | omega | (simp <;> omega))); intro hc2_1 hf2_1 hl2_1); try (refine keepc hb2 (w.heap.size + 1 + 1) ?_ ?_; (focus (first | omega | (simp <;> omega))); intro hc2_2 hf2_2 hl2_2)
  go_wp2_with fail
  refine bodyPost_ret (v := .agg #[.bool false, .slice a3 len3 cap3]) (by simp [results, Tryd.results22, go_sem, hc2_1, hl2_1]) rfl ⟨_, _, _, rfl, ((ho.set (p := ⟨w.heap.size + 1, 0, none⟩) (by simp) _).set (p := ⟨w.heap.size + 1, 1, none⟩) (by simp) _).mono (by simp; omega), (by repeat' (first | (with_reducible exact Below.refl _ _) | (with_reducible assumption) | (with_reducible refine Below.alloc ?_ ?_ _) | (with_reducible refine Below.setCell ?_ ?_ _) | (with_reducible refine Below.drew ?_) | (with_reducible refine below_drewN ?_ _) | (apply bthen2; (with_reducible assumption)) | go_size))⟩

end Go.Proofs.YtopdeoicglkbkaaDoor
