import Derived.Test.YtldmledjdcphmaaLawG
set_option linter.unusedSimpArgs false
set_option linter.unusedVariables false
namespace Go.Proofs.Ytldmledjdcphmaa
open Go.RowKit
/-! ### lists of ints: membership, groups of classes -/

theorem has_no {xs : List Int} {n : Int} (h : ∀ j, j < xs.length → xs.getD j 0 ≠ n) : xs.contains n = false := by
  rw [Bool.eq_false_iff]
  intro hc
  rw [List.contains_iff_mem] at hc
  obtain ⟨j, hj, he⟩ := List.mem_iff_getElem.1 hc
  apply h j hj
  simp only [List.getD, List.getElem?_eq_getElem hj, Option.getD_some]; exact he
theorem has_yes {xs : List Int} {n : Int} {k : Nat} (hk : k < xs.length) (h : xs.getD k 0 = n) : xs.contains n = true := by
  rw [List.contains_iff_mem, ← h]
  simp only [List.getD, List.getElem?_eq_getElem hk, Option.getD_some]; exact List.getElem_mem hk

theorem l1Has_any (s : Value) (xs : List Int) (n : Int) (w : World) (hx : Ints w s xs) : Calls Try.prog 72 #[s, .int .i64 n] w (Same (.bool (xs.contains n)) w) := by
  obtain ⟨a, len, cap, rfl⟩ : ∃ a len cap, s = .slice a len cap := by
    rcases hx with ⟨a, cap, rfl, _⟩ | ⟨b, off, len, cap, rfl, _⟩ <;> exact ⟨_, _, _, rfl⟩
  obtain ⟨h1, h2, h3⟩ := hx.cell
  have HC := Lib.hid h3
  have HL := Lib.hid h1
  have HY := Lib.hid (fun k => @has_yes xs n k)
  have HNO := Lib.hid (@has_no xs n)
  clear h3 hx h1
  generalize hR : xs.contains n = R at *
  clear hR
  go_enter Try.func72, Try.ntmps72
  go_wp2
  go_loop [9] (fun v9 => ∃ k : Nat, k ≤ len ∧ v9 = .int .i64 k ∧ Hid (∀ j, j < k → xs.getD j 0 ≠ n)) (fun v9 => len - (intOf v9).toNat)
  case atStart => exact ⟨0, by omega, rfl, Lib.hid (fun j hj => by omega)⟩
  case round =>
    obtain ⟨k, hk, rfl, HJ⟩ := hrel
    by_cases hlt : k < len
    · obtain ⟨b, off, ha, hbl, c0⟩ := HC.out k hlt
      subst ha
      by_cases he : xs.getD k 0 = n
      · have E := Lib.hid (HY.out k (by rw [HL.out]; exact hlt) he)
        rw [he] at c0
        have hb : (n == n) = true := by simp
        clear he
        go_wp2
        go_ret
        exact same (vbool E.out.symm)
      · have HJ2 := Lib.hid (show ∀ j, j < k + 1 → xs.getD j 0 ≠ n from fun j hj => by
          by_cases e : j = k
          · subst e; exact he
          · exact HJ.out j (by omega))
        have hb : (xs.getD k 0 == n) = false := by simpa using he
        generalize xs.getD k 0 = X at *
        clear he
        go_wp2
        go_round
        case rel => exact ⟨k + 1, by omega, by go_num, HJ2⟩
        case measure => simp [intOf]; omega
    · have e : k = len := by omega
      have E := Lib.hid (HNO.out (fun j hj => HJ.out j (by rw [HL.out] at hj; omega)))
      clear e
      go_wp2
      go_ret
      exact same (vbool E.out.symm)

def fidx (n : Int) : List Int → Int → Int
  | [], _ => -1
  | x :: xs, k => if x = n then k else fidx n xs (k + 1)
theorem fidx_nonneg (n : Int) : ∀ (xs : List Int) (k : Int), 0 ≤ k → (decide (0 ≤ fidx n xs k) = xs.contains n) ∧ -1 ≤ fidx n xs k ∧ fidx n xs k ≤ k + xs.length := by
  intro xs
  induction xs with
  | nil => intro k h; simp [fidx]; omega
  | cons x xs ih =>
    intro k h
    have := ih (k + 1) (by omega)
    by_cases e : x = n
    · simp only [fidx, if_pos e, List.contains_cons, e]
      simp; omega
    · simp only [fidx, if_neg e, List.contains_cons]
      have e' : (n == x) = false := by simp; exact fun h => e h.symm
      rw [e', Bool.false_or]
      refine ⟨this.1, this.2.1, ?_⟩
      simp; omega
theorem fidx_step (n : Int) (xs : List Int) (k : Nat) (h : k < xs.length) (h2 : xs.getD k 0 ≠ n) : fidx n (xs.drop k) k = fidx n (xs.drop (k + 1)) ((k + 1 : Nat) : Int) := by
  rw [List.drop_eq_getElem_cons h]
  have : ¬ xs[k] = n := by simpa [List.getD, List.getElem?_eq_getElem h] using h2
  simp [fidx, this]
theorem fidx_hit (n : Int) (xs : List Int) (k : Nat) (h : k < xs.length) (h2 : xs.getD k 0 = n) : fidx n (xs.drop k) k = k := by
  rw [List.drop_eq_getElem_cons h]
  have : xs[k] = n := by simpa [List.getD, List.getElem?_eq_getElem h] using h2
  simp [fidx, this]
theorem Index_any (s : Value) (xs : List Int) (n : Int) (w : World) (hx : Ints w s xs) : Calls Try.prog 73 #[s, .int .i64 n] w (Same (.int .i64 (fidx n xs 0)) w) := by
  obtain ⟨a, len, cap, rfl⟩ : ∃ a len cap, s = .slice a len cap := by
    rcases hx with ⟨a, cap, rfl, _⟩ | ⟨b, off, len, cap, rfl, _⟩ <;> exact ⟨_, _, _, rfl⟩
  obtain ⟨h1, h2, h3⟩ := hx.cell
  have HC := Lib.hid h3
  have HL := Lib.hid h1
  have HS := Lib.hid (fun k => fidx_step n xs k)
  have HH := Lib.hid (fun k => fidx_hit n xs k)
  have h0 : fidx n (xs.drop 0) ((0 : Nat) : Int) = fidx n xs 0 := by simp
  clear h3 hx h1
  generalize fidx n xs 0 = R at *
  have H0 := Lib.hid h0
  clear h0
  go_enter Try.func73, Try.ntmps73
  go_wp2
  go_loop [8] (fun v8 => ∃ k : Nat, k ≤ len ∧ v8 = .int .i64 k ∧ Hid (fidx n (xs.drop k) k = R)) (fun v8 => len - (intOf v8).toNat)
  case atStart => exact ⟨0, by omega, rfl, H0⟩
  case round =>
    obtain ⟨k, hk, rfl, HJ⟩ := hrel
    by_cases hlt : k < len
    · obtain ⟨b, off, ha, hbl, c0⟩ := HC.out k hlt
      subst ha
      by_cases he : xs.getD k 0 = n
      · have E := Lib.hid (show R = k by rw [← HJ.out]; exact HH.out k (by rw [HL.out]; exact hlt) he)
        rw [he] at c0
        have hb : (n == n) = true := by simp
        clear he
        go_wp2
        go_ret
        exact same (vint E.out.symm)
      · have HJ2 := Lib.hid (show fidx n (xs.drop (k + 1)) ((k + 1 : Nat) : Int) = R by rw [← HS.out k (by rw [HL.out]; exact hlt) he]; exact HJ.out)
        have hb : (xs.getD k 0 == n) = false := by simpa using he
        have hb2 : (n == xs.getD k 0) = false := by simpa using fun h => he h.symm
        generalize xs.getD k 0 = X at *
        clear he
        go_wp2
        go_round
        case rel => exact ⟨k + 1, by omega, by go_num, HJ2⟩
        case measure => simp [intOf]; omega
    · have E := Lib.hid (show R = -1 by rw [← HJ.out, List.drop_eq_nil_of_le (by rw [HL.out]; omega)]; rfl)
      go_wp2
      go_ret
      exact same (vint E.out.symm)
theorem Contains_any (s : Value) (xs : List Int) (n : Int) (w : World) (hx : Ints w s xs) : Calls Try.prog 44 #[s, .int .i64 n] w (Same (.bool (xs.contains n)) w) := by
  have HI := Lib.hid (fun w hx => Index_any s xs n w hx)
  have hf := (fidx_nonneg n xs 0 (by omega)).1
  have HF := Lib.hid hf
  clear hf
  generalize fidx n xs 0 = R at *
  go_enter Try.func44, Try.ntmps44
  go_wp2_with (first | (go_at_call 73; refine (HI.out _ hx).mono ?_; rintro e w1 ⟨rfl, rfl⟩))
  go_ret
  exact same (vbool HF.out)

end Go.Proofs.Ytldmledjdcphmaa
