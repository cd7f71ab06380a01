import Derived.Test.YtaboopioocpkdaaLawE
set_option linter.unusedSimpArgs false
set_option linter.unusedVariables false
namespace Go.Proofs.Ytaboopioocpkdaa
open Go.RowKit

set_option maxRecDepth 100000 in
set_option maxHeartbeats 4000000 in
theorem loSquare_any (r p : Int) (k : Nat) (hpr : Pr p) (hp' : p ≤ 997) (hk : k ≤ 4000000000) (h0 : 0 ≤ r) (h1 : r < p ^ k) (h2 : p ^ k ≤ 1000000000) (w : World) : Calls Try.prog 93 #[.int .i64 r, .int .i64 p, .int .i64 k] w (Gives (.bool (sqB r p k)) w) := by
  have hp : 2 ≤ p := hpr.1
  have HO := fun w => loOften_any r p k hp hk h0 h1 (by omega) w
  by_cases hr : r = 0
  · have e : sqB r p k = true := by unfold sqB; rw [if_pos hr]
    have E := Lib.hid e
    simp only [oft, if_pos hr] at HO
    have HO' := Lib.hid HO
    clear hr h1 e HO
    go_enter Try.func93, Try.ntmps93
    go_wp2_with (first | (go_at_call 128; refine (HO'.out _).mono ?_; rintro e w1 ⟨rfl, rfl⟩))
    go_ret; exact gives (vbool E.out.symm) (by repeat' (first | (with_reducible exact Below.refl _ _) | (with_reducible assumption) | (with_reducible refine Below.alloc ?_ ?_ _) | (with_reducible refine Below.setCell ?_ ?_ _) | (with_reducible refine Below.drew ?_) | (with_reducible refine below_drewN ?_ _) | (apply bthen2; (with_reducible assumption)) | go_size))
  · simp only [oft, if_neg hr] at HO
    obtain ⟨v1, v2, v3, v4, v5, v6⟩ := vl_pos hp (by omega) h1
    have e : sqB r p k = sqC r p k (vl r p) (p ^ vl r p) := by unfold sqB; rw [if_neg hr]
    have H3 := Lib.hid (fun w => loPower_any p (vl r p) (by omega) (by omega) (by omega) w)
    have HO' := Lib.hid HO
    have hr9 : r ≤ 1000000000 := by omega
    have E := Lib.hid e; clear e hr HO h1 h2
    generalize p ^ vl r p = P at *
    generalize vl r p = v at *
    have q1 : (P == 0) = false := by simp; omega
    have n1 : ((v : Int) == (k : Int)) = false := by simp; omega
    cases c1 : ((v : Int) % 2 == 1)
    · have c1n : ¬ (v : Int) % 2 = 1 := by simpa using c1
      have c1' : ((v : Int) % 2 != 0) = false := by simp; omega
      by_cases c2 : 2 < p
      · have e2 : sqC r p k v P = (symb (r / P) p == 1) := by unfold sqC; rw [if_neg c1n, if_pos c2]
        have E2 := Lib.hid e2; clear e2 c1n
        have HS := Lib.hid (fun w => mdSymbol_any (r / P) p hpr (by omega) hp' w)
        clear hpr
        cases c3 : (symb (r / P) p == 1)
        all_goals
          go_enter Try.func93, Try.ntmps93
          go_wp2_with (first | (go_at_call 128; refine (HO'.out _).mono ?_; rintro e w1 ⟨rfl, rfl⟩) | (go_at_call 95; refine (H3.out _).mono ?_; rintro e w1 ⟨rfl, rfl⟩) | (go_at_call 105; refine (HS.out _).mono ?_; rintro e w1 ⟨rfl, hb⟩; have hz := hb.size; (try simp only [World.size_alloc, World.size_setCell, World.size_drew, World.heap_drewN] at hz); try (refine keepc hb (w.heap.size) ?_ ?_; (focus (first | omega | (simp <;> omega))); intro hc0 hf0 hl0); try (refine keepc hb (w.heap.size + 1) ?_ ?_; (focus (first | omega | (simp <;> omega))); intro hc1 hf1 hl1); try (refine keepc hb (w.heap.size + 1 + 1) ?_ ?_; (focus (first | omega | (simp <;> omega))); intro hc2 hf2 hl2)))
          go_ret; exact gives (vbool (by rw [E.out, E2.out, c3])) (by repeat' (first | (with_reducible exact Below.refl _ _) | (with_reducible assumption) | (with_reducible refine Below.alloc ?_ ?_ _) | (with_reducible refine Below.setCell ?_ ?_ _) | (with_reducible refine Below.drew ?_) | (with_reducible refine below_drewN ?_ _) | (apply bthen2; (with_reducible assumption)) | go_size))
      · have hp2 : p = 2 := by omega
        have P2 : ∀ w, Calls Try.prog 95 #[.int .i64 2, .int .i64 1] w (Same (.int .i64 2) w) := fun w => by simpa using loPower_any 2 1 (by decide) (by decide) (by decide) w
        have P4 : ∀ w, Calls Try.prog 95 #[.int .i64 2, .int .i64 2] w (Same (.int .i64 4) w) := fun w => by simpa using loPower_any 2 2 (by decide) (by decide) (by decide) w
        have P8 : ∀ w, Calls Try.prog 95 #[.int .i64 2, .int .i64 3] w (Same (.int .i64 8) w) := fun w => by simpa using loPower_any 2 3 (by decide) (by decide) (by decide) w
        have T2 := Lib.hid P2
        have T4 := Lib.hid P4
        have T8 := Lib.hid P8
        have L := fun w => l1Least_any 3 ((k : Int) - v) w
        have v6' : (r / P) % 2 = 1 := by rw [hp2] at v6; omega
        clear hpr P2 P4 P8 hp2 v6
        by_cases c3 : (k : Int) - v = 1
        · have e2 : sqC r p k v P = true := by unfold sqC; rw [if_neg c1n, if_neg c2, if_pos c3]
          have E2 := Lib.hid e2; clear e2 c1n
          have L' : min 3 ((k : Int) - v) = 1 := by omega
          rw [L'] at L
          have HL := Lib.hid L
          have v6'' : ((r / P) % 2 == 1) = true := by simpa using v6'
          clear c3 L L' v6'
          go_enter Try.func93, Try.ntmps93
          go_wp2_with (first | (go_at_call 128; refine (HO'.out _).mono ?_; rintro e w1 ⟨rfl, rfl⟩) | (go_at_call_of 95 (Value.int .i64 p); refine (H3.out _).mono ?_; rintro e w1 ⟨rfl, rfl⟩) | (go_at_call_of 95 (Value.int .i64 1); refine (T2.out _).mono ?_; rintro e w1 ⟨rfl, rfl⟩) | (go_at_call 129; refine (HL.out _).mono ?_; rintro e w1 ⟨rfl, rfl⟩))
          go_ret; exact gives (vbool (by rw [E.out, E2.out])) (by repeat' (first | (with_reducible exact Below.refl _ _) | (with_reducible assumption) | (with_reducible refine Below.alloc ?_ ?_ _) | (with_reducible refine Below.setCell ?_ ?_ _) | (with_reducible refine Below.drew ?_) | (with_reducible refine below_drewN ?_ _) | (apply bthen2; (with_reducible assumption)) | go_size))
        · by_cases c4 : (k : Int) - v = 2
          · have e2 : sqC r p k v P = (r / P % 4 == 1) := by unfold sqC; rw [if_neg c1n, if_neg c2, if_neg c3, if_pos c4]
            have E2 := Lib.hid e2; clear e2 c1n
            have L' : min 3 ((k : Int) - v) = 2 := by omega
            rw [L'] at L
            have HL := Lib.hid L
            clear c3 c4 L L' v6'
            go_enter Try.func93, Try.ntmps93
            go_wp2_with (first | (go_at_call 128; refine (HO'.out _).mono ?_; rintro e w1 ⟨rfl, rfl⟩) | (go_at_call_of 95 (Value.int .i64 p); refine (H3.out _).mono ?_; rintro e w1 ⟨rfl, rfl⟩) | (go_at_call_of 95 (Value.int .i64 2); refine (T4.out _).mono ?_; rintro e w1 ⟨rfl, rfl⟩) | (go_at_call 129; refine (HL.out _).mono ?_; rintro e w1 ⟨rfl, rfl⟩))
            go_ret; exact gives (vbool (by rw [E.out, E2.out])) (by repeat' (first | (with_reducible exact Below.refl _ _) | (with_reducible assumption) | (with_reducible refine Below.alloc ?_ ?_ _) | (with_reducible refine Below.setCell ?_ ?_ _) | (with_reducible refine Below.drew ?_) | (with_reducible refine below_drewN ?_ _) | (apply bthen2; (with_reducible assumption)) | go_size))
          · have e2 : sqC r p k v P = (r / P % 8 == 1) := by unfold sqC; rw [if_neg c1n, if_neg c2, if_neg c3, if_neg c4]
            have E2 := Lib.hid e2; clear e2 c1n
            have L' : min 3 ((k : Int) - v) = 3 := by omega
            rw [L'] at L
            have HL := Lib.hid L
            clear c3 c4 L L' v6'
            go_enter Try.func93, Try.ntmps93
            go_wp2_with (first | (go_at_call 128; refine (HO'.out _).mono ?_; rintro e w1 ⟨rfl, rfl⟩) | (go_at_call_of 95 (Value.int .i64 p); refine (H3.out _).mono ?_; rintro e w1 ⟨rfl, rfl⟩) | (go_at_call_of 95 (Value.int .i64 2); refine (T8.out _).mono ?_; rintro e w1 ⟨rfl, rfl⟩) | (go_at_call 129; refine (HL.out _).mono ?_; rintro e w1 ⟨rfl, rfl⟩))
            go_ret; exact gives (vbool (by rw [E.out, E2.out])) (by repeat' (first | (with_reducible exact Below.refl _ _) | (with_reducible assumption) | (with_reducible refine Below.alloc ?_ ?_ _) | (with_reducible refine Below.setCell ?_ ?_ _) | (with_reducible refine Below.drew ?_) | (with_reducible refine below_drewN ?_ _) | (apply bthen2; (with_reducible assumption)) | go_size))
    · have c1n : (v : Int) % 2 = 1 := by simpa using c1
      have c1' : ((v : Int) % 2 != 0) = true := by simp; omega
      have e2 : sqC r p k v P = false := by unfold sqC; rw [if_pos c1n]
      have E2 := Lib.hid e2; clear e2 c1n
      clear hpr
      go_enter Try.func93, Try.ntmps93
      go_wp2_with (first | (go_at_call 128; refine (HO'.out _).mono ?_; rintro e w1 ⟨rfl, rfl⟩))
      go_ret; exact gives (vbool (by rw [E.out, E2.out])) (by repeat' (first | (with_reducible exact Below.refl _ _) | (with_reducible assumption) | (with_reducible refine Below.alloc ?_ ?_ _) | (with_reducible refine Below.setCell ?_ ?_ _) | (with_reducible refine Below.drew ?_) | (with_reducible refine below_drewN ?_ _) | (apply bthen2; (with_reducible assumption)) | go_size))

end Go.Proofs.Ytaboopioocpkdaa
