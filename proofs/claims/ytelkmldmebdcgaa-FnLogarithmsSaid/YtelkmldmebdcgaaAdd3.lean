import Derived.Test.YtelkmldmebdcgaaAdd2
set_option linter.unusedSimpArgs false
set_option linter.unusedVariables false
namespace Go.Proofs.Ytelkmldmebdcgaa
open Go.RowKit
/-! ### sums of wholes in the reference -/

set_option maxHeartbeats 1000000 in
theorem bgCombine_any (a a2 : Option Addr) (len cap len2 cap2 : Nat) (xs ys : List Int) (s : Int) (w : World) (hx : Ints w (.slice a len cap) xs) (hy : Ints w (.slice a2 len2 cap2) ys) (rx : InR xs) (ry : InR ys) (lx : xs.length ≤ 1000000) (ly : ys.length ≤ 1000000) (hs : s = 1 ∨ s = -1) (t0 : 0 ≤ val xs + s * val ys) :
    Calls Try.prog 140 #[.slice a len cap, .slice a2 len2 cap2, .int .i64 s] w (GivesD (val xs + s * val ys) w) := by
  obtain ⟨x1, x2, x3⟩ := hx.cell
  obtain ⟨y1, y2, y3⟩ := hy.cell
  obtain ⟨N, hn1, hn2, hN3⟩ : ∃ N : Nat, len ≤ N ∧ len2 ≤ N ∧ N ≤ 1000000 := ⟨max len len2, by omega, by omega, by omega⟩
  have ht1 : val xs + s * val ys < 10000 ^ (N + 1) := by
    rcases hs with rfl | rfl
    · have := sum_lt rx ry (n := N) (by omega) (by omega); omega
    · have := diff_lt rx ry (n := N + 1) (by omega); omega
  have HE := Lib.hid (fun acc c (h : ComInv s xs ys acc c) (h1 : len ≤ acc.length) (h2 : len2 ≤ acc.length) => h.end (by omega) (by omega) t0)
  have HP := Lib.hid (fun (acc : List Int) (h : N + 1 ≤ acc.length) => Int.lt_of_lt_of_le ht1 (p10_mono h))
  have H1 := Lib.hid (fun k hk W h => bgLimb_any (.slice a len cap) xs k hk W h)
  have H2 := Lib.hid (fun k hk W h => bgLimb_any (.slice a2 len2 cap2) ys k hk W h)
  have HX := Lib.hid hx; have HY := Lib.hid hy
  have RX := Lib.hid (fun k => rx.at k); have RY := Lib.hid (fun k => ry.at k)
  obtain ⟨T, hT⟩ : ∃ T, val xs + s * val ys = T := ⟨_, rfl⟩
  rw [hT] at HE HP ⊢
  clear x3 y3 hx hy rx ry lx ly t0 ht1 x1 y1 hT
  go_enter Try.func140, Try.ntmps140
  go_wp2_with fail
  refine name_world (fun W1 hW1 => ?_)
  have hB1 : Below w.heap.size w W1 := by subst hW1; exact (by repeat' (first | (with_reducible exact Below.refl _ _) | (with_reducible assumption) | (with_reducible refine Below.alloc ?_ ?_ _) | (with_reducible refine Below.setCell ?_ ?_ _) | (with_reducible refine Below.drew ?_) | (with_reducible refine below_drewN ?_ _) | (apply bthen2; (with_reducible assumption)) | go_size))
  have hS1 : W1.heap.size = w.heap.size := by subst hW1; simp
  clear hW1
  go_loopw [7, 8, 9] (fun v7 v8 v9 wr => ∃ (c : Int) (acc : List Int), acc.length ≤ N + 1 ∧ v9 = .int .i64 (acc.length : Nat) ∧ v8 = .int .i64 c ∧ Own wr W1.heap.size v7 acc ∧ ComInv s xs ys acc c ∧ Below W1.heap.size W1 wr) (fun _ _ v9 _ => N + 1 - (intOf v9).toNat)
  case atStart => exact ⟨0, [], by simp, rfl, rfl, Own.nil _ _, ComInv.start _ _ _, Below.refl _ _⟩
  case round =>
    obtain ⟨c, acc, hk, rfl, rfl, hown, hinv, hbw⟩ := hrel
    obtain ⟨sa, sc, rfl⟩ := hown.slice
    have hcar := hinv.car
    have hbx : Below w.heap.size w wr := hB1.trans (hbw.mono (by omega))
    have hcont : (acc.length < len ∧ acc.length < N + 1) ∨ (¬ acc.length < len ∧ acc.length < len2 ∧ acc.length < N + 1) ∨ (¬ acc.length < len ∧ ¬ acc.length < len2 ∧ (c != 0) = true ∧ acc.length < N + 1) ∨ (¬ acc.length < len ∧ ¬ acc.length < len2 ∧ (c != 0) = false ∧ val acc = T) := by
      by_cases g1 : acc.length < len
      · exact .inl ⟨g1, by omega⟩
      by_cases g2 : acc.length < len2
      · exact .inr (.inl ⟨g1, g2, by omega⟩)
      obtain ⟨e1, e2, e3⟩ := HE.out acc c hinv (by omega) (by omega)
      by_cases g3 : c = 0
      · exact .inr (.inr (.inr ⟨g1, g2, by simp [g3], e2 g3⟩))
      · refine .inr (.inr (.inl ⟨g1, g2, by simp [g3], ?_⟩))
        rcases Nat.lt_or_ge acc.length (N + 1) with g | g
        · exact g
        · exact absurd (e3 (HP.out acc g)) g3
    have hst := Lib.hid (fun v c' h1 h2 he => hinv.step v c' h1 h2 he)
    have hrng := hinv.rng
    have hr := Lib.hid hrng
    have B1 := RX.out acc.length; have B2 := RY.out acc.length
    have L1 := Lib.hid (H1.out acc.length (by omega)); have L2 := Lib.hid (H2.out acc.length (by omega))
    have HOA := Lib.hid (fun o => hown.alloc o)
    have HOI := Lib.hid hown
    obtain ⟨n, hn⟩ : ∃ n, acc.length = n := ⟨_, rfl⟩
    rw [hn] at hcont hk
    have HN := Lib.hid hn
    simp only [hn] at hst L1 L2 B1 B2 HOA HOI ⊢
    clear hinv hrng hown H1 H2 HE HP hn
    generalize xs.getD n 0 = X at *
    generalize ys.getD n 0 = Y at *
    rcases hcont with hc | hc | hc | hc
    case inr.inr.inr =>
      obtain ⟨g1, g2, g3, g4⟩ := hc
      have G4 := Lib.hid g4
      have hl : acc.length ≤ 1048576 := by have := HN.out; omega
      clear g4 L1 L2 B1 B2 hst
      go_wp2_with fail
      go_ret
      exact ⟨_, _, _, acc, rfl, HOI.out.mono (by omega), hr.out, G4.out, hl, hbx⟩
    all_goals
      obtain ⟨S, hS⟩ : ∃ S, X + s * Y + c = S := ⟨_, rfl⟩
      have hS1 : -10000 ≤ S ∧ S ≤ 19999 := by rcases hs with rfl | rfl <;> omega
      have HST := Lib.hid (fun v c' h1 h2 (he : v + 10000 * c' = S) => hst.out v c' h1 h2 (by rw [he, hS]))
      have HL1 := Lib.hid (fun o => HOA.out o)
      clear hst HOA
      have hlen : acc.length ≤ 1000000000000 := by have := HN.out; omega
      have hz := hbw.size
      rcases hs with rfl | rfl
      all_goals
        rcases Int.lt_or_le S 0 with k1 | k1
        · have hS3 := hS; simp only [Int.one_mul, Int.neg_mul] at hS3
          clear hS
          go_wp2_with fail
          refine (L1.out _ ?_).mono ?_
          · refine Ints.below HX.out ?_; repeat' (first | (with_reducible exact Below.refl _ _) | (with_reducible assumption) | (with_reducible refine Below.alloc ?_ ?_ _) | (with_reducible refine Below.setCell ?_ ?_ _) | (with_reducible refine Below.drew ?_) | (with_reducible refine below_drewN ?_ _) | (apply bthen2; (with_reducible assumption)) | go_size)
          rintro e w2 ⟨rfl, rfl⟩
          go_wp2_with fail
          refine (L2.out _ ?_).mono ?_
          · refine Ints.below HY.out ?_; repeat' (first | (with_reducible exact Below.refl _ _) | (with_reducible assumption) | (with_reducible refine Below.alloc ?_ ?_ _) | (with_reducible refine Below.setCell ?_ ?_ _) | (with_reducible refine Below.drew ?_) | (with_reducible refine below_drewN ?_ _) | (apply bthen2; (with_reducible assumption)) | go_size)
          rintro e w2 ⟨rfl, rfl⟩
          go_wp2_with (first | (at_builtin; refine wpl_app (W := W1) rfl _ _ rfl W1.heap.size _ acc rfl (HL1.out _) ⟨wr.heap.size, 0, none⟩ 1 (S + 10000) rfl (by simp) hlen (Below.alloc hbw hbw.size _) (by simp; omega) ?_; intro a1 cc1 w1 hown1 hbw1 hsz1))
          go_roundw
          case rel => exact ⟨-1, acc ++ [S + 10000], by rw [List.length_append, List.length_singleton, HN.out]; omega, by rw [List.length_append, List.length_singleton, HN.out]; go_num, rfl, hown1, HST.out _ _ (by omega) (by omega) (by omega), hbw1⟩
          case measure => simp [intOf]; omega
        rcases Int.lt_or_le S 10000 with k2 | k2
        · have hS3 := hS; simp only [Int.one_mul, Int.neg_mul] at hS3
          clear hS
          go_wp2_with fail
          refine (L1.out _ ?_).mono ?_
          · refine Ints.below HX.out ?_; repeat' (first | (with_reducible exact Below.refl _ _) | (with_reducible assumption) | (with_reducible refine Below.alloc ?_ ?_ _) | (with_reducible refine Below.setCell ?_ ?_ _) | (with_reducible refine Below.drew ?_) | (with_reducible refine below_drewN ?_ _) | (apply bthen2; (with_reducible assumption)) | go_size)
          rintro e w2 ⟨rfl, rfl⟩
          go_wp2_with fail
          refine (L2.out _ ?_).mono ?_
          · refine Ints.below HY.out ?_; repeat' (first | (with_reducible exact Below.refl _ _) | (with_reducible assumption) | (with_reducible refine Below.alloc ?_ ?_ _) | (with_reducible refine Below.setCell ?_ ?_ _) | (with_reducible refine Below.drew ?_) | (with_reducible refine below_drewN ?_ _) | (apply bthen2; (with_reducible assumption)) | go_size)
          rintro e w2 ⟨rfl, rfl⟩
          go_wp2_with (first | (at_builtin; refine wpl_app (W := W1) rfl _ _ rfl W1.heap.size _ acc rfl (HL1.out _) ⟨wr.heap.size, 0, none⟩ 1 (S) rfl (by simp) hlen (Below.alloc hbw hbw.size _) (by simp; omega) ?_; intro a1 cc1 w1 hown1 hbw1 hsz1))
          go_roundw
          case rel => exact ⟨0, acc ++ [S], by rw [List.length_append, List.length_singleton, HN.out]; omega, by rw [List.length_append, List.length_singleton, HN.out]; go_num, rfl, hown1, HST.out _ _ (by omega) (by omega) (by omega), hbw1⟩
          case measure => simp [intOf]; omega
        · have hS3 := hS; simp only [Int.one_mul, Int.neg_mul] at hS3
          clear hS
          go_wp2_with fail
          refine (L1.out _ ?_).mono ?_
          · refine Ints.below HX.out ?_; repeat' (first | (with_reducible exact Below.refl _ _) | (with_reducible assumption) | (with_reducible refine Below.alloc ?_ ?_ _) | (with_reducible refine Below.setCell ?_ ?_ _) | (with_reducible refine Below.drew ?_) | (with_reducible refine below_drewN ?_ _) | (apply bthen2; (with_reducible assumption)) | go_size)
          rintro e w2 ⟨rfl, rfl⟩
          go_wp2_with fail
          refine (L2.out _ ?_).mono ?_
          · refine Ints.below HY.out ?_; repeat' (first | (with_reducible exact Below.refl _ _) | (with_reducible assumption) | (with_reducible refine Below.alloc ?_ ?_ _) | (with_reducible refine Below.setCell ?_ ?_ _) | (with_reducible refine Below.drew ?_) | (with_reducible refine below_drewN ?_ _) | (apply bthen2; (with_reducible assumption)) | go_size)
          rintro e w2 ⟨rfl, rfl⟩
          go_wp2_with (first | (at_builtin; refine wpl_app (W := W1) rfl _ _ rfl W1.heap.size _ acc rfl (HL1.out _) ⟨wr.heap.size, 0, none⟩ 1 (S - 10000) rfl (by simp) hlen (Below.alloc hbw hbw.size _) (by simp; omega) ?_; intro a1 cc1 w1 hown1 hbw1 hsz1))
          go_roundw
          case rel => exact ⟨1, acc ++ [S - 10000], by rw [List.length_append, List.length_singleton, HN.out]; omega, by rw [List.length_append, List.length_singleton, HN.out]; go_num, rfl, hown1, HST.out _ _ (by omega) (by omega) (by omega), hbw1⟩
          case measure => simp [intOf]; omega

set_option maxHeartbeats 1000000 in
theorem bgAdd_same (n : Bool) (a a2 : Option Addr) (len cap len2 cap2 : Nat) (xs ys : List Int) (w : World) (hx : Ints w (.slice a len cap) xs) (hy : Ints w (.slice a2 len2 cap2) ys) (rx : InR xs) (ry : InR ys) (lx : xs.length ≤ 1000000) (ly : ys.length ≤ 1000000) :
    Calls Try.prog 139 #[.agg #[.bool n, .slice a len cap], .agg #[.bool n, .slice a2 len2 cap2]] w (GivesW (n && decide ((val xs + 1 * val ys).toNat ≠ 0)) (dg (val xs + 1 * val ys).toNat) w) := by
  have HL := Lib.hid (fun W h1 h2 => bgCombine_any a a2 len cap len2 cap2 xs ys 1 W h1 h2 rx ry lx ly (.inl rfl) (by have := val_nonneg rx; have := val_nonneg ry; omega))
  have HX := Lib.hid hx; have HY := Lib.hid hy
  generalize val xs + 1 * val ys = T at *
  have HT := Lib.hid (fun n a len cap zs W h1 h2 h3 h4 => bgMakeD_any n a len cap zs T W h1 h2 h3 h4)
  obtain ⟨nn, hnn⟩ : ∃ nn, (n && decide (T.toNat ≠ 0)) = nn := ⟨_, rfl⟩
  obtain ⟨D, hD⟩ : ∃ D, dg T.toNat = D := ⟨_, rfl⟩
  rw [hD] at HT; rw [hnn, hD]
  have HT := Lib.hid (HT.out n); rw [hnn] at HT
  clear hnn hD hx hy rx ry lx ly
  cases n
  · go_enter Try.func139, Try.ntmps139
    go_wp2_with fail
    go_region_held3 (fun w' => Below w.heap.size w w' ∧ w.heap.size + 3 ≤ w'.heap.size ∧ w'.cell? ⟨w.heap.size, 0, none⟩ = some (.bool false) ∧ w'.cell? ⟨w.heap.size, 1, none⟩ = some (.slice a len cap) ∧ w'.cell? ⟨w.heap.size + 1, 1, none⟩ = some (.slice a2 len2 cap2)) (((try dsimp only); refine ⟨?_, ?_, ?_, ?_, ?_⟩; (focus (repeat' (first | (with_reducible exact Below.refl _ _) | (with_reducible assumption) | (with_reducible refine Below.alloc ?_ ?_ _) | (with_reducible refine Below.setCell ?_ ?_ _) | (with_reducible refine Below.drew ?_) | (with_reducible refine below_drewN ?_ _) | (apply bthen2; (with_reducible assumption)) | go_size))); (focus (first | go_size | (simp; done) | (simp; omega) | (have := hba.size; simp at this ⊢; omega) | (have := hbb.size; simp at this ⊢; omega) | (have := hbc.size; simp at this ⊢; omega))); all_goals (first | assumption | (simp [*, go_sem]; done)))) ((first | (go_at_call 140; refine (HL.out _ ?_ ?_).mono ?_; (focus (first | (refine Ints.below HX.out ?_; (repeat' (first | (with_reducible exact Below.refl _ _) | (with_reducible assumption) | (with_reducible refine Below.alloc ?_ ?_ _) | (with_reducible refine Below.setCell ?_ ?_ _) | (with_reducible refine Below.drew ?_) | (with_reducible refine below_drewN ?_ _) | (apply bthen2; (with_reducible assumption)) | go_size)); done) | (refine Ints.below HY.out ?_; (repeat' (first | (with_reducible exact Below.refl _ _) | (with_reducible assumption) | (with_reducible refine Below.alloc ?_ ?_ _) | (with_reducible refine Below.setCell ?_ ?_ _) | (with_reducible refine Below.drew ?_) | (with_reducible refine below_drewN ?_ _) | (apply bthen2; (with_reducible assumption)) | go_size)); done))); (focus (first | (refine Ints.below HX.out ?_; (repeat' (first | (with_reducible exact Below.refl _ _) | (with_reducible assumption) | (with_reducible refine Below.alloc ?_ ?_ _) | (with_reducible refine Below.setCell ?_ ?_ _) | (with_reducible refine Below.drew ?_) | (with_reducible refine below_drewN ?_ _) | (apply bthen2; (with_reducible assumption)) | go_size)); done) | (refine Ints.below HY.out ?_; (repeat' (first | (with_reducible exact Below.refl _ _) | (with_reducible assumption) | (with_reducible refine Below.alloc ?_ ?_ _) | (with_reducible refine Below.setCell ?_ ?_ _) | (with_reducible refine Below.drew ?_) | (with_reducible refine below_drewN ?_ _) | (apply bthen2; (with_reducible assumption)) | go_size)); done))); rintro e wc ⟨a1, l1, c1, zs, rfl, ho, hr, hv, hl, hbc⟩; have hzc := hbc.size; (try simp only [World.size_alloc, World.size_setCell, World.size_drew, World.heap_drewN] at hzc); try (refine keepc hbc (w.heap.size) ?_ ?_; (focus (first | omega | (simp <;> omega))); intro hcc_0 hfc_0 hlc_0); try (refine keepc hbc (w.heap.size + 1) ?_ ?_; (focus (first | omega | (simp <;> omega))); intro hcc_1 hfc_1 hlc_1); try (refine keepc hbc (w.heap.size + 1 + 1) ?_ ?_; (focus (first | omega | (simp <;> omega))); intro hcc_2 hfc_2 hlc_2)) | (go_at_call 113; refine (HT.out _ _ _ _ _ ?_ hr hv hl).mono ?_; (focus (refine Ints.below ho.ints ?_; repeat' (first | (with_reducible exact Below.refl _ _) | (with_reducible assumption) | (with_reducible refine Below.alloc ?_ ?_ _) | (with_reducible refine Below.setCell ?_ ?_ _) | (with_reducible refine Below.drew ?_) | (with_reducible refine below_drewN ?_ _) | (apply bthen2; (with_reducible assumption)) | go_size))); rintro e wb ⟨a3, l3, c3, rfl, ho3, hbb⟩; have hzb := hbb.size; (try simp only [World.size_alloc, World.size_setCell, World.size_drew, World.heap_drewN] at hzb); try (refine keepc hbb (w.heap.size) ?_ ?_; (focus (first | omega | (simp <;> omega))); intro hcb_0 hfb_0 hlb_0); try (refine keepc hbb (w.heap.size + 1) ?_ ?_; (focus (first | omega | (simp <;> omega))); intro hcb_1 hfb_1 hlb_1); try (refine keepc hbb (w.heap.size + 1 + 1) ?_ ?_; (focus (first | omega | (simp <;> omega))); intro hcb_2 hfb_2 hlb_2))))
    go_wp2_with fail
    refine bodyPost_ret (v := .agg #[.bool nn, .slice a3 l3 c3]) (by simp [results, Try.results139, go_sem, hcb_2, hcc_2, hlb_2, hlc_2]) rfl ⟨_, _, _, rfl, ((ho3.set (p := ⟨w.heap.size + 1 + 1, 0, none⟩) (by first | (simp; omega) | omega) _).set (p := ⟨w.heap.size + 1 + 1, 1, none⟩) (by first | (simp; omega) | omega) _).mono (by first | (simp; omega) | omega), (by repeat' (first | (with_reducible exact Below.refl _ _) | (with_reducible assumption) | (with_reducible refine Below.alloc ?_ ?_ _) | (with_reducible refine Below.setCell ?_ ?_ _) | (with_reducible refine Below.drew ?_) | (with_reducible refine below_drewN ?_ _) | (apply bthen2; (with_reducible assumption)) | go_size))⟩
  · go_enter Try.func139, Try.ntmps139
    go_wp2_with fail
    go_region_held3 (fun w' => Below w.heap.size w w' ∧ w.heap.size + 3 ≤ w'.heap.size ∧ w'.cell? ⟨w.heap.size, 0, none⟩ = some (.bool true) ∧ w'.cell? ⟨w.heap.size, 1, none⟩ = some (.slice a len cap) ∧ w'.cell? ⟨w.heap.size + 1, 1, none⟩ = some (.slice a2 len2 cap2)) (((try dsimp only); refine ⟨?_, ?_, ?_, ?_, ?_⟩; (focus (repeat' (first | (with_reducible exact Below.refl _ _) | (with_reducible assumption) | (with_reducible refine Below.alloc ?_ ?_ _) | (with_reducible refine Below.setCell ?_ ?_ _) | (with_reducible refine Below.drew ?_) | (with_reducible refine below_drewN ?_ _) | (apply bthen2; (with_reducible assumption)) | go_size))); (focus (first | go_size | (simp; done) | (simp; omega) | (have := hba.size; simp at this ⊢; omega) | (have := hbb.size; simp at this ⊢; omega) | (have := hbc.size; simp at this ⊢; omega))); all_goals (first | assumption | (simp [*, go_sem]; done)))) ((first | (go_at_call 140; refine (HL.out _ ?_ ?_).mono ?_; (focus (first | (refine Ints.below HX.out ?_; (repeat' (first | (with_reducible exact Below.refl _ _) | (with_reducible assumption) | (with_reducible refine Below.alloc ?_ ?_ _) | (with_reducible refine Below.setCell ?_ ?_ _) | (with_reducible refine Below.drew ?_) | (with_reducible refine below_drewN ?_ _) | (apply bthen2; (with_reducible assumption)) | go_size)); done) | (refine Ints.below HY.out ?_; (repeat' (first | (with_reducible exact Below.refl _ _) | (with_reducible assumption) | (with_reducible refine Below.alloc ?_ ?_ _) | (with_reducible refine Below.setCell ?_ ?_ _) | (with_reducible refine Below.drew ?_) | (with_reducible refine below_drewN ?_ _) | (apply bthen2; (with_reducible assumption)) | go_size)); done))); (focus (first | (refine Ints.below HX.out ?_; (repeat' (first | (with_reducible exact Below.refl _ _) | (with_reducible assumption) | (with_reducible refine Below.alloc ?_ ?_ _) | (with_reducible refine Below.setCell ?_ ?_ _) | (with_reducible refine Below.drew ?_) | (with_reducible refine below_drewN ?_ _) | (apply bthen2; (with_reducible assumption)) | go_size)); done) | (refine Ints.below HY.out ?_; (repeat' (first | (with_reducible exact Below.refl _ _) | (with_reducible assumption) | (with_reducible refine Below.alloc ?_ ?_ _) | (with_reducible refine Below.setCell ?_ ?_ _) | (with_reducible refine Below.drew ?_) | (with_reducible refine below_drewN ?_ _) | (apply bthen2; (with_reducible assumption)) | go_size)); done))); rintro e wc ⟨a1, l1, c1, zs, rfl, ho, hr, hv, hl, hbc⟩; have hzc := hbc.size; (try simp only [World.size_alloc, World.size_setCell, World.size_drew, World.heap_drewN] at hzc); try (refine keepc hbc (w.heap.size) ?_ ?_; (focus (first | omega | (simp <;> omega))); intro hcc_0 hfc_0 hlc_0); try (refine keepc hbc (w.heap.size + 1) ?_ ?_; (focus (first | omega | (simp <;> omega))); intro hcc_1 hfc_1 hlc_1); try (refine keepc hbc (w.heap.size + 1 + 1) ?_ ?_; (focus (first | omega | (simp <;> omega))); intro hcc_2 hfc_2 hlc_2)) | (go_at_call 113; refine (HT.out _ _ _ _ _ ?_ hr hv hl).mono ?_; (focus (refine Ints.below ho.ints ?_; repeat' (first | (with_reducible exact Below.refl _ _) | (with_reducible assumption) | (with_reducible refine Below.alloc ?_ ?_ _) | (with_reducible refine Below.setCell ?_ ?_ _) | (with_reducible refine Below.drew ?_) | (with_reducible refine below_drewN ?_ _) | (apply bthen2; (with_reducible assumption)) | go_size))); rintro e wb ⟨a3, l3, c3, rfl, ho3, hbb⟩; have hzb := hbb.size; (try simp only [World.size_alloc, World.size_setCell, World.size_drew, World.heap_drewN] at hzb); try (refine keepc hbb (w.heap.size) ?_ ?_; (focus (first | omega | (simp <;> omega))); intro hcb_0 hfb_0 hlb_0); try (refine keepc hbb (w.heap.size + 1) ?_ ?_; (focus (first | omega | (simp <;> omega))); intro hcb_1 hfb_1 hlb_1); try (refine keepc hbb (w.heap.size + 1 + 1) ?_ ?_; (focus (first | omega | (simp <;> omega))); intro hcb_2 hfb_2 hlb_2))))
    go_wp2_with fail
    refine bodyPost_ret (v := .agg #[.bool nn, .slice a3 l3 c3]) (by simp [results, Try.results139, go_sem, hcb_2, hcc_2, hlb_2, hlc_2]) rfl ⟨_, _, _, rfl, ((ho3.set (p := ⟨w.heap.size + 1 + 1, 0, none⟩) (by first | (simp; omega) | omega) _).set (p := ⟨w.heap.size + 1 + 1, 1, none⟩) (by first | (simp; omega) | omega) _).mono (by first | (simp; omega) | omega), (by repeat' (first | (with_reducible exact Below.refl _ _) | (with_reducible assumption) | (with_reducible refine Below.alloc ?_ ?_ _) | (with_reducible refine Below.setCell ?_ ?_ _) | (with_reducible refine Below.drew ?_) | (with_reducible refine below_drewN ?_ _) | (apply bthen2; (with_reducible assumption)) | go_size))⟩
set_option maxHeartbeats 1000000 in
theorem bgAdd_ge (n : Bool) (a a2 : Option Addr) (len cap len2 cap2 : Nat) (xs ys : List Int) (w : World) (hx : Ints w (.slice a len cap) xs) (hy : Ints w (.slice a2 len2 cap2) ys) (rx : InR xs) (ry : InR ys) (lx : xs.length ≤ 1000000) (ly : ys.length ≤ 1000000) (hv : val ys ≤ val xs) :
    Calls Try.prog 139 #[.agg #[.bool n, .slice a len cap], .agg #[.bool !n, .slice a2 len2 cap2]] w (GivesW (n && decide ((val xs + -1 * val ys).toNat ≠ 0)) (dg (val xs + -1 * val ys).toNat) w) := by
  have HL := Lib.hid (fun W h1 h2 => bgCombine_any a a2 len cap len2 cap2 xs ys (-1) W h1 h2 rx ry lx ly (.inr rfl) (by omega))
  have HO := Lib.hid (fun W h h' => bgOrder_any (.slice a len cap) (.slice a2 len2 cap2) xs ys W h h' rx ry lx ly)
  have hc : ¬ cmpI (val xs) (val ys) < 0 := fun g => by have := cmpI_neg.mp g; omega
  have hc2 : 0 ≤ cmpI (val xs) (val ys) := by omega
  generalize cmpI (val xs) (val ys) = C at *
  have HX := Lib.hid hx; have HY := Lib.hid hy
  generalize val xs + -1 * val ys = T at *
  have HT := Lib.hid (fun n a len cap zs W h1 h2 h3 h4 => bgMakeD_any n a len cap zs T W h1 h2 h3 h4)
  obtain ⟨nn, hnn⟩ : ∃ nn, (n && decide (T.toNat ≠ 0)) = nn := ⟨_, rfl⟩
  obtain ⟨D, hD⟩ : ∃ D, dg T.toNat = D := ⟨_, rfl⟩
  rw [hD] at HT; rw [hnn, hD]
  have HT := Lib.hid (HT.out n); rw [hnn] at HT
  clear hnn hD hx hy rx ry lx ly hv
  cases n
  · go_enter Try.func139, Try.ntmps139
    go_wp2_with fail
    refine (HO.out _ ?_ ?_).mono ?_
    · refine Ints.below HX.out ?_; repeat' (first | (with_reducible exact Below.refl _ _) | (with_reducible assumption) | (with_reducible refine Below.alloc ?_ ?_ _) | (with_reducible refine Below.setCell ?_ ?_ _) | (with_reducible refine Below.drew ?_) | (with_reducible refine below_drewN ?_ _) | (apply bthen2; (with_reducible assumption)) | go_size)
    · refine Ints.below HY.out ?_; repeat' (first | (with_reducible exact Below.refl _ _) | (with_reducible assumption) | (with_reducible refine Below.alloc ?_ ?_ _) | (with_reducible refine Below.setCell ?_ ?_ _) | (with_reducible refine Below.drew ?_) | (with_reducible refine below_drewN ?_ _) | (apply bthen2; (with_reducible assumption)) | go_size)
    rintro e w2 ⟨rfl, rfl⟩
    go_wp2_with fail
    go_region_held3 (fun w' => Below w.heap.size w w' ∧ w.heap.size + 3 ≤ w'.heap.size ∧ w'.cell? ⟨w.heap.size, 0, none⟩ = some (.bool false) ∧ w'.cell? ⟨w.heap.size, 1, none⟩ = some (.slice a len cap) ∧ w'.cell? ⟨w.heap.size + 1, 1, none⟩ = some (.slice a2 len2 cap2)) (((try dsimp only); refine ⟨?_, ?_, ?_, ?_, ?_⟩; (focus (repeat' (first | (with_reducible exact Below.refl _ _) | (with_reducible assumption) | (with_reducible refine Below.alloc ?_ ?_ _) | (with_reducible refine Below.setCell ?_ ?_ _) | (with_reducible refine Below.drew ?_) | (with_reducible refine below_drewN ?_ _) | (apply bthen2; (with_reducible assumption)) | go_size))); (focus (first | go_size | (simp; done) | (simp; omega) | (have := hba.size; simp at this ⊢; omega) | (have := hbb.size; simp at this ⊢; omega) | (have := hbc.size; simp at this ⊢; omega))); all_goals (first | assumption | (simp [*, go_sem]; done)))) ((first | (go_at_call 140; refine (HL.out _ ?_ ?_).mono ?_; (focus (first | (refine Ints.below HX.out ?_; (repeat' (first | (with_reducible exact Below.refl _ _) | (with_reducible assumption) | (with_reducible refine Below.alloc ?_ ?_ _) | (with_reducible refine Below.setCell ?_ ?_ _) | (with_reducible refine Below.drew ?_) | (with_reducible refine below_drewN ?_ _) | (apply bthen2; (with_reducible assumption)) | go_size)); done) | (refine Ints.below HY.out ?_; (repeat' (first | (with_reducible exact Below.refl _ _) | (with_reducible assumption) | (with_reducible refine Below.alloc ?_ ?_ _) | (with_reducible refine Below.setCell ?_ ?_ _) | (with_reducible refine Below.drew ?_) | (with_reducible refine below_drewN ?_ _) | (apply bthen2; (with_reducible assumption)) | go_size)); done))); (focus (first | (refine Ints.below HX.out ?_; (repeat' (first | (with_reducible exact Below.refl _ _) | (with_reducible assumption) | (with_reducible refine Below.alloc ?_ ?_ _) | (with_reducible refine Below.setCell ?_ ?_ _) | (with_reducible refine Below.drew ?_) | (with_reducible refine below_drewN ?_ _) | (apply bthen2; (with_reducible assumption)) | go_size)); done) | (refine Ints.below HY.out ?_; (repeat' (first | (with_reducible exact Below.refl _ _) | (with_reducible assumption) | (with_reducible refine Below.alloc ?_ ?_ _) | (with_reducible refine Below.setCell ?_ ?_ _) | (with_reducible refine Below.drew ?_) | (with_reducible refine below_drewN ?_ _) | (apply bthen2; (with_reducible assumption)) | go_size)); done))); rintro e wc ⟨a1, l1, c1, zs, rfl, ho, hr, hv, hl, hbc⟩; have hzc := hbc.size; (try simp only [World.size_alloc, World.size_setCell, World.size_drew, World.heap_drewN] at hzc); try (refine keepc hbc (w.heap.size) ?_ ?_; (focus (first | omega | (simp <;> omega))); intro hcc_0 hfc_0 hlc_0); try (refine keepc hbc (w.heap.size + 1) ?_ ?_; (focus (first | omega | (simp <;> omega))); intro hcc_1 hfc_1 hlc_1); try (refine keepc hbc (w.heap.size + 1 + 1) ?_ ?_; (focus (first | omega | (simp <;> omega))); intro hcc_2 hfc_2 hlc_2)) | (go_at_call 113; refine (HT.out _ _ _ _ _ ?_ hr hv hl).mono ?_; (focus (refine Ints.below ho.ints ?_; repeat' (first | (with_reducible exact Below.refl _ _) | (with_reducible assumption) | (with_reducible refine Below.alloc ?_ ?_ _) | (with_reducible refine Below.setCell ?_ ?_ _) | (with_reducible refine Below.drew ?_) | (with_reducible refine below_drewN ?_ _) | (apply bthen2; (with_reducible assumption)) | go_size))); rintro e wb ⟨a3, l3, c3, rfl, ho3, hbb⟩; have hzb := hbb.size; (try simp only [World.size_alloc, World.size_setCell, World.size_drew, World.heap_drewN] at hzb); try (refine keepc hbb (w.heap.size) ?_ ?_; (focus (first | omega | (simp <;> omega))); intro hcb_0 hfb_0 hlb_0); try (refine keepc hbb (w.heap.size + 1) ?_ ?_; (focus (first | omega | (simp <;> omega))); intro hcb_1 hfb_1 hlb_1); try (refine keepc hbb (w.heap.size + 1 + 1) ?_ ?_; (focus (first | omega | (simp <;> omega))); intro hcb_2 hfb_2 hlb_2))))
    go_wp2_with fail
    refine bodyPost_ret (v := .agg #[.bool nn, .slice a3 l3 c3]) (by simp [results, Try.results139, go_sem, hcb_2, hcc_2, hlb_2, hlc_2]) rfl ⟨_, _, _, rfl, ((ho3.set (p := ⟨w.heap.size + 1 + 1, 0, none⟩) (by first | (simp; omega) | omega) _).set (p := ⟨w.heap.size + 1 + 1, 1, none⟩) (by first | (simp; omega) | omega) _).mono (by first | (simp; omega) | omega), (by repeat' (first | (with_reducible exact Below.refl _ _) | (with_reducible assumption) | (with_reducible refine Below.alloc ?_ ?_ _) | (with_reducible refine Below.setCell ?_ ?_ _) | (with_reducible refine Below.drew ?_) | (with_reducible refine below_drewN ?_ _) | (apply bthen2; (with_reducible assumption)) | go_size))⟩
  · go_enter Try.func139, Try.ntmps139
    go_wp2_with fail
    refine (HO.out _ ?_ ?_).mono ?_
    · refine Ints.below HX.out ?_; repeat' (first | (with_reducible exact Below.refl _ _) | (with_reducible assumption) | (with_reducible refine Below.alloc ?_ ?_ _) | (with_reducible refine Below.setCell ?_ ?_ _) | (with_reducible refine Below.drew ?_) | (with_reducible refine below_drewN ?_ _) | (apply bthen2; (with_reducible assumption)) | go_size)
    · refine Ints.below HY.out ?_; repeat' (first | (with_reducible exact Below.refl _ _) | (with_reducible assumption) | (with_reducible refine Below.alloc ?_ ?_ _) | (with_reducible refine Below.setCell ?_ ?_ _) | (with_reducible refine Below.drew ?_) | (with_reducible refine below_drewN ?_ _) | (apply bthen2; (with_reducible assumption)) | go_size)
    rintro e w2 ⟨rfl, rfl⟩
    go_wp2_with fail
    go_region_held3 (fun w' => Below w.heap.size w w' ∧ w.heap.size + 3 ≤ w'.heap.size ∧ w'.cell? ⟨w.heap.size, 0, none⟩ = some (.bool true) ∧ w'.cell? ⟨w.heap.size, 1, none⟩ = some (.slice a len cap) ∧ w'.cell? ⟨w.heap.size + 1, 1, none⟩ = some (.slice a2 len2 cap2)) (((try dsimp only); refine ⟨?_, ?_, ?_, ?_, ?_⟩; (focus (repeat' (first | (with_reducible exact Below.refl _ _) | (with_reducible assumption) | (with_reducible refine Below.alloc ?_ ?_ _) | (with_reducible refine Below.setCell ?_ ?_ _) | (with_reducible refine Below.drew ?_) | (with_reducible refine below_drewN ?_ _) | (apply bthen2; (with_reducible assumption)) | go_size))); (focus (first | go_size | (simp; done) | (simp; omega) | (have := hba.size; simp at this ⊢; omega) | (have := hbb.size; simp at this ⊢; omega) | (have := hbc.size; simp at this ⊢; omega))); all_goals (first | assumption | (simp [*, go_sem]; done)))) ((first | (go_at_call 140; refine (HL.out _ ?_ ?_).mono ?_; (focus (first | (refine Ints.below HX.out ?_; (repeat' (first | (with_reducible exact Below.refl _ _) | (with_reducible assumption) | (with_reducible refine Below.alloc ?_ ?_ _) | (with_reducible refine Below.setCell ?_ ?_ _) | (with_reducible refine Below.drew ?_) | (with_reducible refine below_drewN ?_ _) | (apply bthen2; (with_reducible assumption)) | go_size)); done) | (refine Ints.below HY.out ?_; (repeat' (first | (with_reducible exact Below.refl _ _) | (with_reducible assumption) | (with_reducible refine Below.alloc ?_ ?_ _) | (with_reducible refine Below.setCell ?_ ?_ _) | (with_reducible refine Below.drew ?_) | (with_reducible refine below_drewN ?_ _) | (apply bthen2; (with_reducible assumption)) | go_size)); done))); (focus (first | (refine Ints.below HX.out ?_; (repeat' (first | (with_reducible exact Below.refl _ _) | (with_reducible assumption) | (with_reducible refine Below.alloc ?_ ?_ _) | (with_reducible refine Below.setCell ?_ ?_ _) | (with_reducible refine Below.drew ?_) | (with_reducible refine below_drewN ?_ _) | (apply bthen2; (with_reducible assumption)) | go_size)); done) | (refine Ints.below HY.out ?_; (repeat' (first | (with_reducible exact Below.refl _ _) | (with_reducible assumption) | (with_reducible refine Below.alloc ?_ ?_ _) | (with_reducible refine Below.setCell ?_ ?_ _) | (with_reducible refine Below.drew ?_) | (with_reducible refine below_drewN ?_ _) | (apply bthen2; (with_reducible assumption)) | go_size)); done))); rintro e wc ⟨a1, l1, c1, zs, rfl, ho, hr, hv, hl, hbc⟩; have hzc := hbc.size; (try simp only [World.size_alloc, World.size_setCell, World.size_drew, World.heap_drewN] at hzc); try (refine keepc hbc (w.heap.size) ?_ ?_; (focus (first | omega | (simp <;> omega))); intro hcc_0 hfc_0 hlc_0); try (refine keepc hbc (w.heap.size + 1) ?_ ?_; (focus (first | omega | (simp <;> omega))); intro hcc_1 hfc_1 hlc_1); try (refine keepc hbc (w.heap.size + 1 + 1) ?_ ?_; (focus (first | omega | (simp <;> omega))); intro hcc_2 hfc_2 hlc_2)) | (go_at_call 113; refine (HT.out _ _ _ _ _ ?_ hr hv hl).mono ?_; (focus (refine Ints.below ho.ints ?_; repeat' (first | (with_reducible exact Below.refl _ _) | (with_reducible assumption) | (with_reducible refine Below.alloc ?_ ?_ _) | (with_reducible refine Below.setCell ?_ ?_ _) | (with_reducible refine Below.drew ?_) | (with_reducible refine below_drewN ?_ _) | (apply bthen2; (with_reducible assumption)) | go_size))); rintro e wb ⟨a3, l3, c3, rfl, ho3, hbb⟩; have hzb := hbb.size; (try simp only [World.size_alloc, World.size_setCell, World.size_drew, World.heap_drewN] at hzb); try (refine keepc hbb (w.heap.size) ?_ ?_; (focus (first | omega | (simp <;> omega))); intro hcb_0 hfb_0 hlb_0); try (refine keepc hbb (w.heap.size + 1) ?_ ?_; (focus (first | omega | (simp <;> omega))); intro hcb_1 hfb_1 hlb_1); try (refine keepc hbb (w.heap.size + 1 + 1) ?_ ?_; (focus (first | omega | (simp <;> omega))); intro hcb_2 hfb_2 hlb_2))))
    go_wp2_with fail
    refine bodyPost_ret (v := .agg #[.bool nn, .slice a3 l3 c3]) (by simp [results, Try.results139, go_sem, hcb_2, hcc_2, hlb_2, hlc_2]) rfl ⟨_, _, _, rfl, ((ho3.set (p := ⟨w.heap.size + 1 + 1, 0, none⟩) (by first | (simp; omega) | omega) _).set (p := ⟨w.heap.size + 1 + 1, 1, none⟩) (by first | (simp; omega) | omega) _).mono (by first | (simp; omega) | omega), (by repeat' (first | (with_reducible exact Below.refl _ _) | (with_reducible assumption) | (with_reducible refine Below.alloc ?_ ?_ _) | (with_reducible refine Below.setCell ?_ ?_ _) | (with_reducible refine Below.drew ?_) | (with_reducible refine below_drewN ?_ _) | (apply bthen2; (with_reducible assumption)) | go_size))⟩
set_option maxHeartbeats 1000000 in
theorem bgAdd_lt (n : Bool) (a a2 : Option Addr) (len cap len2 cap2 : Nat) (xs ys : List Int) (w : World) (hx : Ints w (.slice a len cap) xs) (hy : Ints w (.slice a2 len2 cap2) ys) (rx : InR xs) (ry : InR ys) (lx : xs.length ≤ 1000000) (ly : ys.length ≤ 1000000) (hv : val xs < val ys) :
    Calls Try.prog 139 #[.agg #[.bool n, .slice a len cap], .agg #[.bool !n, .slice a2 len2 cap2]] w (GivesW (!n && decide ((val ys + -1 * val xs).toNat ≠ 0)) (dg (val ys + -1 * val xs).toNat) w) := by
  have HL := Lib.hid (fun W h1 h2 => bgCombine_any a2 a len2 cap2 len cap ys xs (-1) W h1 h2 ry rx ly lx (.inr rfl) (by omega))
  have HO := Lib.hid (fun W h h' => bgOrder_any (.slice a len cap) (.slice a2 len2 cap2) xs ys W h h' rx ry lx ly)
  have hc : cmpI (val xs) (val ys) < 0 := cmpI_neg.mpr hv
  have hc2 : ¬ 0 ≤ cmpI (val xs) (val ys) := by omega
  generalize cmpI (val xs) (val ys) = C at *
  have HX := Lib.hid hx; have HY := Lib.hid hy
  generalize val ys + -1 * val xs = T at *
  have HT := Lib.hid (fun n a len cap zs W h1 h2 h3 h4 => bgMakeD_any n a len cap zs T W h1 h2 h3 h4)
  obtain ⟨nn, hnn⟩ : ∃ nn, (!n && decide (T.toNat ≠ 0)) = nn := ⟨_, rfl⟩
  obtain ⟨D, hD⟩ : ∃ D, dg T.toNat = D := ⟨_, rfl⟩
  rw [hD] at HT; rw [hnn, hD]
  have HT := Lib.hid (HT.out (!n)); rw [hnn] at HT
  clear hnn hD hx hy rx ry lx ly hv
  cases n
  · go_enter Try.func139, Try.ntmps139
    go_wp2_with fail
    refine (HO.out _ ?_ ?_).mono ?_
    · refine Ints.below HX.out ?_; repeat' (first | (with_reducible exact Below.refl _ _) | (with_reducible assumption) | (with_reducible refine Below.alloc ?_ ?_ _) | (with_reducible refine Below.setCell ?_ ?_ _) | (with_reducible refine Below.drew ?_) | (with_reducible refine below_drewN ?_ _) | (apply bthen2; (with_reducible assumption)) | go_size)
    · refine Ints.below HY.out ?_; repeat' (first | (with_reducible exact Below.refl _ _) | (with_reducible assumption) | (with_reducible refine Below.alloc ?_ ?_ _) | (with_reducible refine Below.setCell ?_ ?_ _) | (with_reducible refine Below.drew ?_) | (with_reducible refine below_drewN ?_ _) | (apply bthen2; (with_reducible assumption)) | go_size)
    rintro e w2 ⟨rfl, rfl⟩
    go_wp2_with fail
    go_region_held3 (fun w' => Below w.heap.size w w' ∧ w.heap.size + 3 ≤ w'.heap.size ∧ w'.cell? ⟨w.heap.size + 1, 0, none⟩ = some (.bool true) ∧ w'.cell? ⟨w.heap.size + 1, 1, none⟩ = some (.slice a2 len2 cap2) ∧ w'.cell? ⟨w.heap.size, 1, none⟩ = some (.slice a len cap)) (((try dsimp only); refine ⟨?_, ?_, ?_, ?_, ?_⟩; (focus (repeat' (first | (with_reducible exact Below.refl _ _) | (with_reducible assumption) | (with_reducible refine Below.alloc ?_ ?_ _) | (with_reducible refine Below.setCell ?_ ?_ _) | (with_reducible refine Below.drew ?_) | (with_reducible refine below_drewN ?_ _) | (apply bthen2; (with_reducible assumption)) | go_size))); (focus (first | go_size | (simp; done) | (simp; omega) | (have := hba.size; simp at this ⊢; omega) | (have := hbb.size; simp at this ⊢; omega) | (have := hbc.size; simp at this ⊢; omega))); all_goals (first | assumption | (simp [*, go_sem]; done)))) ((first | (go_at_call 140; refine (HL.out _ ?_ ?_).mono ?_; (focus (first | (refine Ints.below HX.out ?_; (repeat' (first | (with_reducible exact Below.refl _ _) | (with_reducible assumption) | (with_reducible refine Below.alloc ?_ ?_ _) | (with_reducible refine Below.setCell ?_ ?_ _) | (with_reducible refine Below.drew ?_) | (with_reducible refine below_drewN ?_ _) | (apply bthen2; (with_reducible assumption)) | go_size)); done) | (refine Ints.below HY.out ?_; (repeat' (first | (with_reducible exact Below.refl _ _) | (with_reducible assumption) | (with_reducible refine Below.alloc ?_ ?_ _) | (with_reducible refine Below.setCell ?_ ?_ _) | (with_reducible refine Below.drew ?_) | (with_reducible refine below_drewN ?_ _) | (apply bthen2; (with_reducible assumption)) | go_size)); done))); (focus (first | (refine Ints.below HX.out ?_; (repeat' (first | (with_reducible exact Below.refl _ _) | (with_reducible assumption) | (with_reducible refine Below.alloc ?_ ?_ _) | (with_reducible refine Below.setCell ?_ ?_ _) | (with_reducible refine Below.drew ?_) | (with_reducible refine below_drewN ?_ _) | (apply bthen2; (with_reducible assumption)) | go_size)); done) | (refine Ints.below HY.out ?_; (repeat' (first | (with_reducible exact Below.refl _ _) | (with_reducible assumption) | (with_reducible refine Below.alloc ?_ ?_ _) | (with_reducible refine Below.setCell ?_ ?_ _) | (with_reducible refine Below.drew ?_) | (with_reducible refine below_drewN ?_ _) | (apply bthen2; (with_reducible assumption)) | go_size)); done))); rintro e wc ⟨a1, l1, c1, zs, rfl, ho, hr, hv, hl, hbc⟩; have hzc := hbc.size; (try simp only [World.size_alloc, World.size_setCell, World.size_drew, World.heap_drewN] at hzc); try (refine keepc hbc (w.heap.size) ?_ ?_; (focus (first | omega | (simp <;> omega))); intro hcc_0 hfc_0 hlc_0); try (refine keepc hbc (w.heap.size + 1) ?_ ?_; (focus (first | omega | (simp <;> omega))); intro hcc_1 hfc_1 hlc_1); try (refine keepc hbc (w.heap.size + 1 + 1) ?_ ?_; (focus (first | omega | (simp <;> omega))); intro hcc_2 hfc_2 hlc_2)) | (go_at_call 113; refine (HT.out _ _ _ _ _ ?_ hr hv hl).mono ?_; (focus (refine Ints.below ho.ints ?_; repeat' (first | (with_reducible exact Below.refl _ _) | (with_reducible assumption) | (with_reducible refine Below.alloc ?_ ?_ _) | (with_reducible refine Below.setCell ?_ ?_ _) | (with_reducible refine Below.drew ?_) | (with_reducible refine below_drewN ?_ _) | (apply bthen2; (with_reducible assumption)) | go_size))); rintro e wb ⟨a3, l3, c3, rfl, ho3, hbb⟩; have hzb := hbb.size; (try simp only [World.size_alloc, World.size_setCell, World.size_drew, World.heap_drewN] at hzb); try (refine keepc hbb (w.heap.size) ?_ ?_; (focus (first | omega | (simp <;> omega))); intro hcb_0 hfb_0 hlb_0); try (refine keepc hbb (w.heap.size + 1) ?_ ?_; (focus (first | omega | (simp <;> omega))); intro hcb_1 hfb_1 hlb_1); try (refine keepc hbb (w.heap.size + 1 + 1) ?_ ?_; (focus (first | omega | (simp <;> omega))); intro hcb_2 hfb_2 hlb_2))))
    go_wp2_with fail
    refine bodyPost_ret (v := .agg #[.bool nn, .slice a3 l3 c3]) (by simp [results, Try.results139, go_sem, hcb_2, hcc_2, hlb_2, hlc_2]) rfl ⟨_, _, _, rfl, ((ho3.set (p := ⟨w.heap.size + 1 + 1, 0, none⟩) (by first | (simp; omega) | omega) _).set (p := ⟨w.heap.size + 1 + 1, 1, none⟩) (by first | (simp; omega) | omega) _).mono (by first | (simp; omega) | omega), (by repeat' (first | (with_reducible exact Below.refl _ _) | (with_reducible assumption) | (with_reducible refine Below.alloc ?_ ?_ _) | (with_reducible refine Below.setCell ?_ ?_ _) | (with_reducible refine Below.drew ?_) | (with_reducible refine below_drewN ?_ _) | (apply bthen2; (with_reducible assumption)) | go_size))⟩
  · go_enter Try.func139, Try.ntmps139
    go_wp2_with fail
    refine (HO.out _ ?_ ?_).mono ?_
    · refine Ints.below HX.out ?_; repeat' (first | (with_reducible exact Below.refl _ _) | (with_reducible assumption) | (with_reducible refine Below.alloc ?_ ?_ _) | (with_reducible refine Below.setCell ?_ ?_ _) | (with_reducible refine Below.drew ?_) | (with_reducible refine below_drewN ?_ _) | (apply bthen2; (with_reducible assumption)) | go_size)
    · refine Ints.below HY.out ?_; repeat' (first | (with_reducible exact Below.refl _ _) | (with_reducible assumption) | (with_reducible refine Below.alloc ?_ ?_ _) | (with_reducible refine Below.setCell ?_ ?_ _) | (with_reducible refine Below.drew ?_) | (with_reducible refine below_drewN ?_ _) | (apply bthen2; (with_reducible assumption)) | go_size)
    rintro e w2 ⟨rfl, rfl⟩
    go_wp2_with fail
    go_region_held3 (fun w' => Below w.heap.size w w' ∧ w.heap.size + 3 ≤ w'.heap.size ∧ w'.cell? ⟨w.heap.size + 1, 0, none⟩ = some (.bool false) ∧ w'.cell? ⟨w.heap.size + 1, 1, none⟩ = some (.slice a2 len2 cap2) ∧ w'.cell? ⟨w.heap.size, 1, none⟩ = some (.slice a len cap)) (((try dsimp only); refine ⟨?_, ?_, ?_, ?_, ?_⟩; (focus (repeat' (first | (with_reducible exact Below.refl _ _) | (with_reducible assumption) | (with_reducible refine Below.alloc ?_ ?_ _) | (with_reducible refine Below.setCell ?_ ?_ _) | (with_reducible refine Below.drew ?_) | (with_reducible refine below_drewN ?_ _) | (apply bthen2; (with_reducible assumption)) | go_size))); (focus (first | go_size | (simp; done) | (simp; omega) | (have := hba.size; simp at this ⊢; omega) | (have := hbb.size; simp at this ⊢; omega) | (have := hbc.size; simp at this ⊢; omega))); all_goals (first | assumption | (simp [*, go_sem]; done)))) ((first | (go_at_call 140; refine (HL.out _ ?_ ?_).mono ?_; (focus (first | (refine Ints.below HX.out ?_; (repeat' (first | (with_reducible exact Below.refl _ _) | (with_reducible assumption) | (with_reducible refine Below.alloc ?_ ?_ _) | (with_reducible refine Below.setCell ?_ ?_ _) | (with_reducible refine Below.drew ?_) | (with_reducible refine below_drewN ?_ _) | (apply bthen2; (with_reducible assumption)) | go_size)); done) | (refine Ints.below HY.out ?_; (repeat' (first | (with_reducible exact Below.refl _ _) | (with_reducible assumption) | (with_reducible refine Below.alloc ?_ ?_ _) | (with_reducible refine Below.setCell ?_ ?_ _) | (with_reducible refine Below.drew ?_) | (with_reducible refine below_drewN ?_ _) | (apply bthen2; (with_reducible assumption)) | go_size)); done))); (focus (first | (refine Ints.below HX.out ?_; (repeat' (first | (with_reducible exact Below.refl _ _) | (with_reducible assumption) | (with_reducible refine Below.alloc ?_ ?_ _) | (with_reducible refine Below.setCell ?_ ?_ _) | (with_reducible refine Below.drew ?_) | (with_reducible refine below_drewN ?_ _) | (apply bthen2; (with_reducible assumption)) | go_size)); done) | (refine Ints.below HY.out ?_; (repeat' (first | (with_reducible exact Below.refl _ _) | (with_reducible assumption) | (with_reducible refine Below.alloc ?_ ?_ _) | (with_reducible refine Below.setCell ?_ ?_ _) | (with_reducible refine Below.drew ?_) | (with_reducible refine below_drewN ?_ _) | (apply bthen2; (with_reducible assumption)) | go_size)); done))); rintro e wc ⟨a1, l1, c1, zs, rfl, ho, hr, hv, hl, hbc⟩; have hzc := hbc.size; (try simp only [World.size_alloc, World.size_setCell, World.size_drew, World.heap_drewN] at hzc); try (refine keepc hbc (w.heap.size) ?_ ?_; (focus (first | omega | (simp <;> omega))); intro hcc_0 hfc_0 hlc_0); try (refine keepc hbc (w.heap.size + 1) ?_ ?_; (focus (first | omega | (simp <;> omega))); intro hcc_1 hfc_1 hlc_1); try (refine keepc hbc (w.heap.size + 1 + 1) ?_ ?_; (focus (first | omega | (simp <;> omega))); intro hcc_2 hfc_2 hlc_2)) | (go_at_call 113; refine (HT.out _ _ _ _ _ ?_ hr hv hl).mono ?_; (focus (refine Ints.below ho.ints ?_; repeat' (first | (with_reducible exact Below.refl _ _) | (with_reducible assumption) | (with_reducible refine Below.alloc ?_ ?_ _) | (with_reducible refine Below.setCell ?_ ?_ _) | (with_reducible refine Below.drew ?_) | (with_reducible refine below_drewN ?_ _) | (apply bthen2; (with_reducible assumption)) | go_size))); rintro e wb ⟨a3, l3, c3, rfl, ho3, hbb⟩; have hzb := hbb.size; (try simp only [World.size_alloc, World.size_setCell, World.size_drew, World.heap_drewN] at hzb); try (refine keepc hbb (w.heap.size) ?_ ?_; (focus (first | omega | (simp <;> omega))); intro hcb_0 hfb_0 hlb_0); try (refine keepc hbb (w.heap.size + 1) ?_ ?_; (focus (first | omega | (simp <;> omega))); intro hcb_1 hfb_1 hlb_1); try (refine keepc hbb (w.heap.size + 1 + 1) ?_ ?_; (focus (first | omega | (simp <;> omega))); intro hcb_2 hfb_2 hlb_2))))
    go_wp2_with fail
    refine bodyPost_ret (v := .agg #[.bool nn, .slice a3 l3 c3]) (by simp [results, Try.results139, go_sem, hcb_2, hcc_2, hlb_2, hlc_2]) rfl ⟨_, _, _, rfl, ((ho3.set (p := ⟨w.heap.size + 1 + 1, 0, none⟩) (by first | (simp; omega) | omega) _).set (p := ⟨w.heap.size + 1 + 1, 1, none⟩) (by first | (simp; omega) | omega) _).mono (by first | (simp; omega) | omega), (by repeat' (first | (with_reducible exact Below.refl _ _) | (with_reducible assumption) | (with_reducible refine Below.alloc ?_ ?_ _) | (with_reducible refine Below.setCell ?_ ?_ _) | (with_reducible refine Below.drew ?_) | (with_reducible refine below_drewN ?_ _) | (apply bthen2; (with_reducible assumption)) | go_size))⟩
theorem bgAdd_any (z1 z2 : Int) (a a2 : Option Addr) (len cap len2 cap2 : Nat) (w : World) (hx : Ints w (.slice a len cap) (dg z1.natAbs)) (hy : Ints w (.slice a2 len2 cap2) (dg z2.natAbs)) (lx : (dg z1.natAbs).length ≤ 1000000) (ly : (dg z2.natAbs).length ≤ 1000000) :
    Calls Try.prog 139 #[.agg #[.bool (decide (z1 < 0)), .slice a len cap], .agg #[.bool (decide (z2 < 0)), .slice a2 len2 cap2]] w (GivesZ (z1 + z2) w) := by
  by_cases h1 : z1 < 0 <;> by_cases h2 : z2 < 0
  · have h := bgAdd_same true a a2 len cap len2 cap2 _ _ w hx hy (inR_dg _) (inR_dg _) lx ly
    rw [show decide (z1 < 0) = true by simp [h1], show decide (z2 < 0) = true by simp [h2]]
    refine h.mono fun e w' h => GivesW.cast ?_ ?_ h
    · rw [val_dg, val_dg]; simp; omega
    · rw [val_dg, val_dg]; congr 1; omega
  · rw [show decide (z1 < 0) = true by simp [h1], show decide (z2 < 0) = !true by simp [h2]]
    by_cases h3 : z2.natAbs ≤ z1.natAbs
    · have h := bgAdd_ge true a a2 len cap len2 cap2 _ _ w hx hy (inR_dg _) (inR_dg _) lx ly (by rw [val_dg, val_dg]; omega)
      refine h.mono fun e w' h => GivesW.cast ?_ ?_ h
      · rw [val_dg, val_dg]; simp; omega
      · rw [val_dg, val_dg]; congr 1; omega
    · have h := bgAdd_lt true a a2 len cap len2 cap2 _ _ w hx hy (inR_dg _) (inR_dg _) lx ly (by rw [val_dg, val_dg]; omega)
      refine h.mono fun e w' h => GivesW.cast ?_ ?_ h
      · rw [val_dg, val_dg]; simp; omega
      · rw [val_dg, val_dg]; congr 1; omega
  · rw [show decide (z1 < 0) = false by simp [h1], show decide (z2 < 0) = !false by simp [h2]]
    by_cases h3 : z2.natAbs ≤ z1.natAbs
    · have h := bgAdd_ge false a a2 len cap len2 cap2 _ _ w hx hy (inR_dg _) (inR_dg _) lx ly (by rw [val_dg, val_dg]; omega)
      refine h.mono fun e w' h => GivesW.cast ?_ ?_ h
      · rw [val_dg, val_dg]; simp; omega
      · rw [val_dg, val_dg]; congr 1; omega
    · have h := bgAdd_lt false a a2 len cap len2 cap2 _ _ w hx hy (inR_dg _) (inR_dg _) lx ly (by rw [val_dg, val_dg]; omega)
      refine h.mono fun e w' h => GivesW.cast ?_ ?_ h
      · rw [val_dg, val_dg]; simp; omega
      · rw [val_dg, val_dg]; congr 1; omega
  · have h := bgAdd_same false a a2 len cap len2 cap2 _ _ w hx hy (inR_dg _) (inR_dg _) lx ly
    rw [show decide (z1 < 0) = false by simp [h1], show decide (z2 < 0) = false by simp [h2]]
    refine h.mono fun e w' h => GivesW.cast ?_ ?_ h
    · rw [val_dg, val_dg]; simp; omega
    · rw [val_dg, val_dg]; congr 1; omega

end Go.Proofs.Ytelkmldmebdcgaa
