import Derived.Test.YtopdeoicglkbkaaMarkI
import Derived.Test.YtopdeoicglkbkaaMk
set_option linter.unusedSimpArgs false
set_option linter.unusedVariables false
namespace Go.Proofs.Ytopdeoicglkbkaa
open Go.RowKit
/-! ### marks on wholes -/

theorem heldWhole_any (neg : Bool) (a : Option Addr) (len cap n : Nat) (k0 : Int) (w : World) (h : Ints w (.slice a len cap) (mkI k0 n)) (hk0 : 0 ≤ k0) (hk1 : k0 + (n : Int) ≤ 1000000000000) :
    Calls Try.prog 29 #[.agg #[.bool neg, .slice a len cap], .int .i64 k0] w (Gives (.int .i64 (k0 + (n : Int))) w) := by
  have HH := Lib.hid (fun W hW => heldIntS_any (.slice a len cap) n k0 W hW hk0 hk1)
  have HX := Lib.hid h
  obtain ⟨K, hK⟩ : ∃ K, k0 + (n : Int) = K := ⟨_, rfl⟩
  rw [hK] at HH hk1 ⊢
  have hK0 : 0 ≤ K := by omega
  clear h hK
  go_enter Try.func29, Try.ntmps29
  go_wp2_with fail
  refine (HH.out _ ?_).mono ?_
  · refine Ints.below HX.out ?_; repeat' (first | (with_reducible exact Below.refl _ _) | (with_reducible assumption) | (with_reducible refine Below.alloc ?_ ?_ _) | (with_reducible refine Below.setCell ?_ ?_ _) | (with_reducible refine Below.drew ?_) | (with_reducible refine below_drewN ?_ _) | (apply bthen2; (with_reducible assumption)) | go_size)
  rintro e w1 ⟨rfl, rfl⟩
  go_wp2_with fail
  go_ret
  exact gives rfl (by repeat' (first | (with_reducible exact Below.refl _ _) | (with_reducible assumption) | (with_reducible refine Below.alloc ?_ ?_ _) | (with_reducible refine Below.setCell ?_ ?_ _) | (with_reducible refine Below.drew ?_) | (with_reducible refine below_drewN ?_ _) | (apply bthen2; (with_reducible assumption)) | go_size))

theorem Only.alloc {g : Option Nat} {a b : World} (h : Only g a b) (o : Obj) : Only g a (b.alloc o) :=
  ⟨h.os, h.tape, h.output, Nat.le_trans h.size (by simp), fun k hk hg => by
    rw [← h.block k hk hg]
    exact (Below.alloc (Below.refl b.heap.size b) (Nat.le_refl _) o).block k (Nat.lt_of_lt_of_le hk h.size)⟩
theorem markWhole_any (neg : Bool) (B : Nat) (a : Option Addr) (len cap : Nat) (xs : List Int) (k0 : Int) (w : World) (h : Own w B (.slice a len cap) xs) (hk0 : 0 ≤ k0) (hk1 : k0 + (xs.length : Int) ≤ 1000000000000) :
    Calls Try.prog 28 #[.agg #[.bool neg, .slice a len cap], .int .i64 k0] w (fun e w' => e = .returned (.int .i64 (k0 + (xs.length : Int))) ∧ Own w' B (.slice a len cap) (mkI k0 xs.length) ∧ Only (Value.slice a len cap).ownBlock w w') := by
  have HH := Lib.hid (fun W hW => markIntS_any B (.slice a len cap) xs k0 W hW hk0 hk1)
  have HX := Lib.hid h
  clear h
  go_enter Try.func28, Try.ntmps28
  go_wp2_with fail
  refine (HH.out _ ?_).mono ?_
  · exact HX.out.alloc _
  rintro e w1 ⟨rfl, ho, hon⟩
  have hO := ((Only.refl (Value.slice a len cap).ownBlock w).alloc _).trans hon
  go_wp2_with fail
  go_ret
  exact ⟨rfl, ho, hO⟩

end Go.Proofs.Ytopdeoicglkbkaa
