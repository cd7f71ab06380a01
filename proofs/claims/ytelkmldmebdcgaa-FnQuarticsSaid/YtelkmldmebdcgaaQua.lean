import Derived.Test.YtelkmldmebdcgaaLawS3
import Derived.Test.YtelkmldmebdcgaaSmp
set_option linter.unusedSimpArgs false
set_option linter.unusedVariables false
namespace Go.Proofs.Ytelkmldmebdcgaa
open Go.RowKit
/-! ### quartics' points agree with one another -/

def qvI (d a c m e : Int) : Value := if isQ d a c && inB m (-1000) 1000 && inB e (-1000) 1000 then .tuple #[.int .i64 (qVal d a c m e), .bool true] else .tuple #[.int .i64 0, .bool false]
theorem QuarticValueI_any (d a c m e : Int) (w : World) : Calls Try.prog 11 #[.agg #[.int .i64 d, .int .i64 a, .int .i64 c], .int .i64 m, .int .i64 e] w (Gives (qvI d a c m e) w) := by
  cases g0 : isQ d a c <;> cases g1 : inB m (-1000) 1000 <;> cases g2 : inB e (-1000) 1000
  all_goals
    go_enter Try.func11, Try.ntmps11
    go_wp2_with (first | (go_at_call 50; refine (isQuartic_any _ _ _ _).mono ?_; rintro e w1 ⟨rfl, hb⟩; have hz := hb.size; (try simp only [World.size_alloc, World.size_setCell, World.size_drew, World.heap_drewN] at hz); try (refine keepc hb (w.heap.size) ?_ ?_; (focus (first | omega | (simp <;> omega))); intro hc0 hf0 hl0); try (refine keepc hb (w.heap.size + 1) ?_ ?_; (focus (first | omega | (simp <;> omega))); intro hc1 hf1 hl1); try (refine keepc hb (w.heap.size + 1 + 1) ?_ ?_; (focus (first | omega | (simp <;> omega))); intro hc2 hf2 hl2)) | (go_at_call 51; refine (inside_any _ _ _ _).mono ?_; rintro e w1 ⟨rfl, rfl⟩) | (go_at_call 57; refine (value_any _ _ _ _ _ _).mono ?_; rintro e w1 ⟨rfl, hb⟩; have hz := hb.size; (try simp only [World.size_alloc, World.size_setCell, World.size_drew, World.heap_drewN] at hz); try (refine keepc hb (w.heap.size) ?_ ?_; (focus (first | omega | (simp <;> omega))); intro hc0 hf0 hl0); try (refine keepc hb (w.heap.size + 1) ?_ ?_; (focus (first | omega | (simp <;> omega))); intro hc1 hf1 hl1); try (refine keepc hb (w.heap.size + 1 + 1) ?_ ?_; (focus (first | omega | (simp <;> omega))); intro hc2 hf2 hl2)))
    go_ret2; exact gives (by simp [qvI, g0, g1, g2]) (by repeat' (first | (with_reducible exact Below.refl _ _) | (with_reducible assumption) | (with_reducible refine Below.alloc ?_ ?_ _) | (with_reducible refine Below.setCell ?_ ?_ _) | (with_reducible refine Below.drew ?_) | (with_reducible refine below_drewN ?_ _) | (apply bthen2; (with_reducible assumption)) | go_size))

theorem sameInts_same (s t : Value) (xs : List Int) (w : World) (hx : Ints w s xs) (hy : Ints w t xs) : Calls Try.prog 56 #[s, t] w (Gives (.bool true) w) := by
  rcases hx with ⟨a, cap, rfl, hx0⟩ | ⟨b, off, len, cap, rfl, hl, h0, hc, hm, hbl, hcell⟩
  · rcases hy with ⟨a', cap', rfl, _⟩ | ⟨b', off', len', cap', rfl, hl', h0', _⟩
    · clear hx0
      go_enter Try.func56, Try.ntmps56
      go_wp2
      refine wp_loop_rounds 1 ?_; rw [rounds_succ]
      go_wp2
      go_ret
      exact gives rfl (by repeat' (first | (with_reducible exact Below.refl _ _) | (with_reducible assumption) | (with_reducible refine Below.alloc ?_ ?_ _) | (with_reducible refine Below.setCell ?_ ?_ _) | (with_reducible refine Below.drew ?_) | (with_reducible refine below_drewN ?_ _) | (apply bthen2; (with_reducible assumption)) | go_size))
    · subst hx0; simp at hl'; omega
  · rcases hy with ⟨a', cap', rfl, hy0⟩ | ⟨b', off', len', cap', rfl, hl', h0', hc', hm', hbl', hcell'⟩
    · subst hy0; simp at hl; omega
    · obtain rfl : len = len' := by omega
      unfold maxLen at hm hm'
      have HC := Lib.hid hcell; have HC' := Lib.hid hcell'; clear hcell hcell' hl hl'
      go_enter Try.func56, Try.ntmps56
      go_wp2
      go_loopw [13] (fun v9 wr => ∃ k : Nat, k ≤ len ∧ v9 = .int .i64 k ∧ ∃ n, wr = w.drewN n) (fun v9 _ => len - (intOf v9).toNat)
      case atStart => exact ⟨0, by omega, rfl, 0, rfl⟩
      case round =>
        obtain ⟨k, hk, rfl, n, rfl⟩ := hrel
        by_cases hlt : k < len
        · have c1 := HC.out k hlt
          have c2 := HC'.out k hlt
          go_wp2
          go_quiet (fail)
          go_wp2
          go_roundw
          case rel => exact ⟨k + 1, by omega, by go_num, _, rfl⟩
          case measure => simp [intOf]; omega
        · go_wp2
          go_ret
          exact gives rfl (by repeat' (first | (with_reducible exact Below.refl _ _) | (with_reducible assumption) | (with_reducible refine Below.alloc ?_ ?_ _) | (with_reducible refine Below.setCell ?_ ?_ _) | (with_reducible refine Below.drew ?_) | (with_reducible refine below_drewN ?_ _) | (apply bthen2; (with_reducible assumption)) | go_size))

set_option maxHeartbeats 1000000 in
theorem sameLists_same (v v2 : Value) (rows : List (List Int)) (w : World) (h1 : RdLL w v rows) (h2 : RdLL w v2 rows) : Calls Try.prog 10 #[v, v2] w (Gives (.bool true) w) := by
  obtain ⟨a, cap, rfl, hl, hc⟩ := h1
  obtain ⟨a2, cap2, rfl, -, hc2⟩ := h2
  have HC := Lib.hid hc; have HC2 := Lib.hid hc2; clear hc hc2
  generalize hn : rows.length = n at *
  have HN := Lib.hid hn; clear hn
  go_enter Try.func10, Try.ntmps10
  go_wp2
  go_loopw [13] (fun v5 wr => ∃ k : Nat, k ≤ n ∧ v5 = .int .i64 k ∧ Below w.heap.size w wr) (fun v5 _ => n - (intOf v5).toNat)
  case atStart => exact ⟨0, by omega, rfl, Below.refl _ _⟩
  case round =>
    obtain ⟨k, hk, rfl, hbw⟩ := hrel
    by_cases hlt : k < n
    · obtain ⟨r, hr⟩ : ∃ r, rows[k]? = some r := ⟨_, List.getElem?_eq_getElem (by rw [HN.out]; exact hlt)⟩
      obtain ⟨b, off, g, ha, hbl, c0, i0⟩ := HC.out k r hr
      obtain ⟨b', off', g', ha', hbl', d0, j0⟩ := HC2.out k r hr
      subst ha ha'
      clear hr
      have hsz := hbw.size
      have e0 := (hbw.cell (p := ⟨b, off + k, none⟩) hbl).trans c0
      have f0 := (hbw.cell (p := ⟨b', off' + k, none⟩) hbl').trans d0
      have i1 := i0.below hbw
      have j1 := j0.below hbw
      have q1 : b < wr.heap.size := by omega
      have q2 : b' < wr.heap.size := by omega
      have p1 : (0 : Int) ≤ (k : Int) := by omega
      have p2 : (k : Int) < (n : Int) := by omega
      unfold rowV at e0 f0 i1 j1
      clear c0 d0 i0 j0
      go_wp2_with fail
      go_region_held3 (fun w' => Below wr.heap.size wr w' ∧ w'.cell? ⟨b, off + k, none⟩ = some (.slice (some ⟨g, 0, none⟩) r.length r.length) ∧ w'.cell? ⟨b', off' + k, none⟩ = some (.slice (some ⟨g', 0, none⟩) r.length r.length)) ((refine (fun hbK => And.intro hbK (by exact ⟨(hbK.cell (p := ⟨b, off + k, none⟩) (by first | assumption | omega | (simp; omega))).trans e0, (hbK.cell (p := ⟨b', off' + k, none⟩) (by first | assumption | omega | (simp; omega))).trans f0⟩)) ?_; repeat' (first | (with_reducible exact Below.refl _ _) | (with_reducible assumption) | (with_reducible refine Below.alloc ?_ ?_ _) | (with_reducible refine Below.setCell ?_ ?_ _) | (with_reducible refine Below.drew ?_) | (with_reducible refine below_drewN ?_ _) | (apply bthen2; (with_reducible assumption)) | go_size))) ((first | (go_at_call 56; refine (sameInts_same _ _ r _ ?_ ?_).mono ?_; (focus (refine Ints.below i1 ?_; repeat' (first | (with_reducible exact Below.refl _ _) | (with_reducible assumption) | (with_reducible refine Below.alloc ?_ ?_ _) | (with_reducible refine Below.setCell ?_ ?_ _) | (with_reducible refine Below.drew ?_) | (with_reducible refine below_drewN ?_ _) | (apply bthen2; (with_reducible assumption)) | go_size))); (focus (refine Ints.below j1 ?_; repeat' (first | (with_reducible exact Below.refl _ _) | (with_reducible assumption) | (with_reducible refine Below.alloc ?_ ?_ _) | (with_reducible refine Below.setCell ?_ ?_ _) | (with_reducible refine Below.drew ?_) | (with_reducible refine below_drewN ?_ _) | (apply bthen2; (with_reducible assumption)) | go_size))); rintro e wf ⟨rfl, hbf⟩)))
      all_goals
        go_wp2
        go_roundw
        case rel => exact ⟨k + 1, by omega, by go_num, (by repeat' (first | (with_reducible exact Below.refl _ _) | (with_reducible assumption) | (with_reducible refine Below.alloc ?_ ?_ _) | (with_reducible refine Below.setCell ?_ ?_ _) | (with_reducible refine Below.drew ?_) | (with_reducible refine below_drewN ?_ _) | (apply bthen2; (with_reducible assumption)) | go_size))⟩
        case measure => simp [intOf]; omega
    · go_wp2
      go_ret
      exact gives rfl hbw

def s1 (f : Nat → Nat) : Nat → Nat
  | 0 => 0
  | n + 1 => s1 f n + f n
theorem s1_zero (n : Nat) : s1 (fun _ => 0) n = 0 := by induction n with
  | zero => rfl
  | succ n ih => simp [s1, ih]
theorem s1_add (f g : Nat → Nat) (n : Nat) : s1 (fun i => f i + g i) n = s1 f n + s1 g n := by induction n with
  | zero => rfl
  | succ n ih => simp only [s1, ih]; omega
theorem s1_swap (g : Nat → Nat → Nat) (K L : Nat) : s1 (fun i => s1 (fun j => g i j) L) K = s1 (fun j => s1 (fun i => g i j) K) L := by
  induction K with
  | zero => simp only [s1]; rw [s1_zero]
  | succ K ih => simp only [s1]; rw [s1_add, ih]
def qone (d a c : Int) (m e : Nat) : Nat := if (Int.gcd (m : Int) (e : Int) : Int) = 1 ∧ sqB (qVal d a c m e) = true then 1 else 0
theorem qrow_cnt (d a c : Int) (m : Nat) (k : Nat) : (qrow d a c (m : Int) k).length = s1 (fun e => qone d a c m e) k := by
  induction k with
  | zero => rfl
  | succ k ih =>
    rw [qrow_succ, List.length_append, ih]
    simp only [s1]
    unfold qpt qone
    split <;> simp_all
theorem qall_cnt (d a c M : Int) (k : Nat) : (qall d a c M k).length = s1 (fun m => s1 (fun e => qone d a c m e) (M + 1).toNat) k := by
  induction k with
  | zero => rfl
  | succ k ih => rw [qall_succ, List.length_append, ih, qrow_cnt]; rfl
theorem qone_swap (d a c : Int) (m e : Nat) : qone c a d m e = qone d a c e m := by
  unfold qone
  rw [Int.gcd_comm, show qVal c a d m e = qVal d a c e m from by unfold qVal; congr 1; grind]
theorem qall_swap (d a c M : Int) : (qall c a d M (M + 1).toNat).length = (qall d a c M (M + 1).toNat).length := by
  rw [qall_cnt, qall_cnt, s1_swap]
  congr 1
  funext m
  congr 1
  funext e
  exact qone_swap d a c e m
theorem isQ_swap (d a c : Int) : isQ c a d = isQ d a c := by
  unfold isQ
  rw [Bool.eq_iff_iff]
  simp only [Bool.and_eq_true]
  exact ⟨fun ⟨⟨⟨⟨h1, h2⟩, h3⟩, h4⟩, h5⟩ => ⟨⟨⟨⟨h3, h2⟩, h1⟩, h5⟩, h4⟩, fun ⟨⟨⟨⟨h1, h2⟩, h3⟩, h4⟩, h5⟩ => ⟨⟨⟨⟨h3, h2⟩, h1⟩, h5⟩, h4⟩⟩
theorem qpOk_swap (d a c M : Int) : qpOk c a d M = qpOk d a c M := by unfold qpOk; rw [isQ_swap]
theorem qpRows_swap (d a c M : Int) : (qpRows c a d M).length = (qpRows d a c M).length := by
  unfold qpRows
  rw [qpOk_swap]
  split
  · exact qall_swap d a c M
  · rfl
structure QM (d a c M : Int) (m e n : Int) : Prop where
  m0 : 0 ≤ m
  m1 : m ≤ M
  e0 : 0 ≤ e
  e1 : e ≤ M
  n0 : 0 ≤ n
  nn : n * n ≤ 3888000000000
  no : ¬ (m = 0 ∧ e = 0)
  v : qvI d a c m e = .tuple #[.int .i64 (n * n), .bool true]
  x : exR (n * n) = .tuple #[.int .i64 n, .bool true]
theorem qM {d a c M : Int} (h : qpOk d a c M = true) {r : List Int} (hr : r ∈ qpRows d a c M) : ∃ m e n, r = [m, e, n] ∧ QM d a c M m e n := by
  unfold qpRows at hr
  rw [if_pos h] at hr
  unfold qpOk at h
  rw [Bool.and_eq_true] at h
  have hM := inB_iff.1 h.2
  have hq := isQ_f h.1
  unfold qall at hr
  rw [List.mem_flatMap] at hr
  obtain ⟨m, hm, hr⟩ := hr
  unfold qrow at hr
  rw [List.mem_filterMap] at hr
  obtain ⟨e, he, hr⟩ := hr
  rw [List.mem_range] at hm he
  unfold qpt at hr
  split at hr
  · rename_i g
    cases hr
    obtain ⟨x, x0, x1⟩ := sqB_iff.1 g.2
    have hx := rt_sq x0 x1
    have hb := qVal_b (d := d) (a := a) (c := c) (m := (m : Int)) (e := (e : Int)) hq.1 hq.2.1 hq.2.2 (by omega) (by omega)
    have hv : rt (qVal d a c m e) * rt (qVal d a c m e) = qVal d a c m e := by rw [hx, x1]
    refine ⟨_, _, _, rfl, by omega, by omega, by omega, by omega, rt_nonneg _, by rw [hv]; exact hb.2, ?_, ?_, ?_⟩
    · rintro ⟨g1, g2⟩
      rw [g1, g2] at g
      exact absurd g.1 (by decide)
    · unfold qvI
      rw [hv, if_pos]
      rw [h.1, Bool.true_and, Bool.and_eq_true]
      exact ⟨inB_iff.2 (by omega), inB_iff.2 (by omega)⟩
    · rw [hv]
      unfold exR
      rw [if_pos (inB_iff.2 (by have := hv ▸ (Int.mul_nonneg (rt_nonneg (qVal d a c m e)) (rt_nonneg (qVal d a c m e))); omega))]
      unfold xrR
      rw [if_pos g.2]
  · cases hr
theorem ex_f (n : Int) : ∃ r : Int, ∃ ok : Bool, exR n = .tuple #[.int .i64 r, .bool ok] ∧ (ok = true → 0 ≤ r ∧ n = r * r ∧ 0 ≤ r * r ∧ r * r ≤ 10000000000000) := by
  unfold exR
  split
  · rename_i h
    have hb := inB_iff.1 h
    unfold xrR
    split
    · rename_i g
      obtain ⟨x, x0, x1⟩ := sqB_iff.1 g
      have hx := rt_sq x0 x1
      have hv : rt n * rt n = n := by rw [hx, x1]
      exact ⟨_, _, rfl, fun _ => ⟨rt_nonneg _, hv.symm, by rw [hv]; omega, by rw [hv]; omega⟩⟩
    · exact ⟨_, _, rfl, fun h => by cases h⟩
  · exact ⟨_, _, rfl, fun h => by cases h⟩
theorem cv_f (a b x e : Int) : ∃ r : Int, ∃ ok : Bool, cvR a b x e = .tuple #[.int .i64 r, .bool ok] := by unfold cvR; split <;> exact ⟨_, _, rfl⟩
theorem qpRows_3S (d a c M : Int) : ∀ r ∈ qpRows d a c M, r.length ≤ 1000000000000 := by
  intro r hr
  unfold qpRows at hr
  split at hr
  · rw [qall_3 hr]; omega
  · cases hr
theorem qpRows_lenS (d a c M : Int) : (qpRows d a c M).length ≤ 3721 := by
  unfold qpRows
  split
  · rename_i h
    unfold qpOk at h
    rw [Bool.and_eq_true] at h
    have hM := inB_iff.1 h.2
    have := qall_len d a c M (by omega) (M + 1).toNat
    omega
  · simp

end Go.Proofs.Ytelkmldmebdcgaa
