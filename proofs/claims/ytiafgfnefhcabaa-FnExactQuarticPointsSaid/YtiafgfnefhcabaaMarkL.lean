import Derived.Test.YtiafgfnefhcabaaMarkI
import Derived.Test.YtiafgfnefhcabaaOwnL
set_option linter.unusedSimpArgs false
set_option linter.unusedVariables false
namespace Go.Proofs.Ytiafgfnefhcabaa
open Go.RowKit
/-! ### marks in slices of slices of ints -/

/-- The slice value v reads as the rows. -/
def RdLL (w : World) (v : Value) (rows : List (List Int)) : Prop := ∃ a cap, v = .slice a rows.length cap ∧ rows.length ≤ 9223372036854775807 ∧
    ∀ i r, rows[i]? = some r → ∃ b off g, a = some ⟨b, off, none⟩ ∧ b < w.heap.size ∧ w.cell? ⟨b, off + i, none⟩ = some (rowV g r) ∧ Ints w (rowV g r) r
theorem RdLL.below {w w' : World} {v : Value} {rows : List (List Int)} (h : RdLL w v rows) (hb : Below w.heap.size w w') : RdLL w' v rows := by
  obtain ⟨a, cap, hv, hl, hc⟩ := h
  refine ⟨a, cap, hv, hl, fun i r hr => ?_⟩
  obtain ⟨b, off, g, ha, hb1, c0, hi⟩ := hc i r hr
  exact ⟨b, off, g, ha, Nat.lt_of_lt_of_le hb1 hb.size, (hb.cell (p := ⟨b, _, none⟩) hb1).trans c0, hi.below hb⟩
theorem OwnLL.row {w : World} {B g : Nat} {r : List Int} (hB : B ≤ g) (hl : r.length ≤ maxLen) (h : w.heap[g]? = some (rowO r)) : Own w B (rowV g r) r := by
  refine ⟨by simp, .inr ⟨g, r.length, (r.map (Value.int .i64)).toArray, rfl, hB, h, Nat.le_refl _, hl, by simp, ?_⟩⟩
  rw [List.take_of_length_le (by simp)]
theorem OwnLL.unrow {w : World} {B g : Nat} {r : List Int} (h : Own w B (.slice (some ⟨g, 0, none⟩) r.length r.length) r) : w.heap[g]? = some (rowO r) := by
  rcases h.2 with ⟨hv, _⟩ | ⟨g', cap, cur, hv, _, hh, hc, hm, hs, ht⟩
  · cases hv
  · simp only [Value.slice.injEq, Option.some.injEq, Addr.mk.injEq, and_true, true_and] at hv
    obtain ⟨rfl, rfl⟩ := hv
    rw [hh]
    unfold rowO
    congr 2
    rw [Nat.mul_one] at hs ht
    rw [List.take_of_length_le (by rw [Array.length_toList, hs]; exact Nat.le_refl _)] at ht
    rw [← ht]
theorem OwnLL.rd {w : World} {B : Nat} {v : Value} {rows : List (List Int)} (h : OwnLL w B v rows) (hl : ∀ r ∈ rows, r.length ≤ 1000000000000) : RdLL w v rows := by
  obtain ⟨a, cap, rfl⟩ := h.slice
  obtain ⟨h1, h2, h3⟩ := h.cell
  refine ⟨a, cap, rfl, h2, fun i r hr => ?_⟩
  obtain ⟨b, g, ha, hb, c0, hg, c1⟩ := h3 i r hr
  refine ⟨b, 0, g, ha, hb, by rw [Nat.zero_add]; exact c0, ?_⟩
  have hlr := hl r (List.mem_of_getElem? hr)
  unfold rowV
  by_cases hz : r.length = 0
  · have : r = [] := List.length_eq_zero_iff.1 hz
    subst this
    exact .inl ⟨_, _, rfl, rfl⟩
  · exact .inr ⟨g, 0, r.length, r.length, rfl, rfl, by omega, Nat.le_refl _, by unfold maxLen; omega, hg, fun j hj => by rw [Nat.zero_add]; exact c1 j hj⟩
def mkL (k0 : Int) : List (List Int) → List (List Int)
  | [] => []
  | r :: rs => mkI k0 r.length :: mkL (k0 + (r.length : Int)) rs
def totL : List (List Int) → Int
  | [] => 0
  | r :: rs => (r.length : Int) + totL rs
theorem totL_app (a b : List (List Int)) : totL (a ++ b) = totL a + totL b := by
  induction a with
  | nil => simp [totL]
  | cons r rs ih => simp [totL, ih]; omega
theorem totL_nonneg (a : List (List Int)) : 0 ≤ totL a := by
  induction a with
  | nil => simp [totL]
  | cons r rs ih => simp only [totL]; omega
theorem mkL_len (k0 : Int) (rows : List (List Int)) : (mkL k0 rows).length = rows.length := by
  induction rows generalizing k0 with
  | nil => rfl
  | cons r rs ih => simp [mkL, ih]
theorem mkL_app (k0 : Int) (a b : List (List Int)) : mkL k0 (a ++ b) = mkL k0 a ++ mkL (k0 + totL a) b := by
  induction a generalizing k0 with
  | nil => simp [mkL, totL]
  | cons r rs ih => simp only [List.cons_append, mkL, totL, ih]; rw [Int.add_assoc]
def mixL (k0 : Int) (rows : List (List Int)) (i : Nat) : List (List Int) := mkL k0 (rows.take i) ++ rows.drop i
theorem mixL_len (k0 : Int) (rows : List (List Int)) (i : Nat) (h : i ≤ rows.length) : (mixL k0 rows i).length = rows.length := by simp [mixL, mkL_len]; omega
theorem mixL_at (k0 : Int) (rows : List (List Int)) (i : Nat) (h : i < rows.length) : (mixL k0 rows i)[i]? = some rows[i] := by
  unfold mixL
  rw [List.getElem?_append_right (by rw [mkL_len, List.length_take]; omega), mkL_len, List.length_take, Nat.min_eq_left (by omega), Nat.sub_self, List.getElem?_drop, Nat.add_zero, List.getElem?_eq_getElem h]
theorem mixL_set (k0 : Int) (rows : List (List Int)) (i : Nat) (h : i < rows.length) : (mixL k0 rows i).set i (mkI (k0 + totL (rows.take i)) rows[i].length) = mixL k0 rows (i + 1) := by
  unfold mixL
  have hl : (mkL k0 (rows.take i)).length = i := by rw [mkL_len, List.length_take]; omega
  rw [List.set_append_right _ _ (by omega), hl, Nat.sub_self, List.drop_eq_getElem_cons h, List.set_cons_zero, List.take_succ_eq_append_getElem h, mkL_app]
  simp [mkL]
theorem totL_take (rows : List (List Int)) (i : Nat) (h : i < rows.length) : totL (rows.take (i + 1)) = totL (rows.take i) + (rows[i].length : Int) := by
  rw [List.take_succ_eq_append_getElem h, totL_app]; simp [totL]
theorem totL_le (rows : List (List Int)) (i : Nat) : totL (rows.take i) ≤ totL rows := by
  conv => rhs; rw [← List.take_append_drop i rows]
  rw [totL_app]; have := totL_nonneg (rows.drop i); omega
/-- with the rows' blocks told -/
def OwnLg (gs : List Nat) (w : World) (B : Nat) (v : Value) (rows : List (List Int)) : Prop := gs.length = rows.length ∧ gs.Nodup ∧ w.ownsRow B 31 1 v rows.length (List.zipWith rowV gs rows) ∧
    ∀ (i g : Nat) (r : List Int), gs[i]? = some g → rows[i]? = some r → B ≤ g ∧ w.heap[g]? = some (rowO r)
theorem zip_set {gs : List Nat} {rows : List (List Int)} {i g : Nat} {r r' : List Int} (hg : gs[i]? = some g) (hr : rows[i]? = some r) (hl : r'.length = r.length) : List.zipWith rowV gs (rows.set i r') = List.zipWith rowV gs rows := by
  apply List.ext_getElem?
  intro j
  rw [List.getElem?_zipWith, List.getElem?_zipWith, List.getElem?_set]
  by_cases e : i = j
  · subst e
    have hi : i < rows.length := by
      rcases Nat.lt_or_ge i rows.length with q | q
      · exact q
      · rw [List.getElem?_eq_none q] at hr; cases hr
    rw [hg, if_pos rfl, if_pos hi, hr]
    simp [rowV, hl]
  · rw [if_neg e]
/-- A row is written in its own block: the rows with the new one. -/
theorem OwnLg.write {w w' : World} {B : Nat} {v : Value} {rows : List (List Int)} {gs : List Nat} {i g : Nat} {r r' : List Int} (h : OwnLg gs w B v rows) (hg : gs[i]? = some g) (hr : rows[i]? = some r) (hl : r'.length = r.length)
    (ho : Only (some g) w w') (hw : w'.heap[g]? = some (rowO r')) : OwnLg gs w' B v (rows.set i r') := by
  obtain ⟨h1, hn, h2, h3⟩ := h
  have hi : i < rows.length := by
    rcases Nat.lt_or_ge i rows.length with q | q
    · exact q
    · rw [List.getElem?_eq_none q] at hr; cases hr
  obtain ⟨hBg, hhg⟩ := h3 i g r hg hr
  refine ⟨by simpa using h1, hn, ?_, fun j k q hj hq => ?_⟩
  · rw [zip_set hg hr hl, List.length_set]
    refine ownsRow_only h2 ho ?_
    rcases h2.2 with ⟨hv, _⟩ | ⟨b, cap, cur, hv, _, hh, _⟩
    · left; rw [hv]; rfl
    · right
      rw [hv]
      intro e
      simp [Value.ownBlock] at e
      subst e
      rw [hhg] at hh
      exact rowO_ne (Option.some.inj hh)
  · rw [List.getElem?_set] at hq
    by_cases e : i = j
    · subst e
      rw [if_pos rfl, if_pos hi] at hq
      rw [hg] at hj
      obtain rfl := Option.some.inj hj
      obtain rfl := Option.some.inj hq
      exact ⟨hBg, hw⟩
    · rw [if_neg e] at hq
      obtain ⟨hBk, hhk⟩ := h3 j k q hj hq
      refine ⟨hBk, (ho.block k (heap_lt hhk) ?_).trans hhk⟩
      intro hkg
      obtain rfl := Option.some.inj hkg
      have hij : i < gs.length := by omega
      have hjj : j < gs.length := by
        rcases Nat.lt_or_ge j gs.length with q | q
        · exact q
        · rw [List.getElem?_eq_none q] at hj; cases hj
      rw [List.getElem?_eq_getElem hij] at hg
      rw [List.getElem?_eq_getElem hjj] at hj
      have : gs[i] = gs[j] := by rw [Option.some.inj hg, Option.some.inj hj]
      exact e ((List.getElem_inj hn).1 this)
theorem mark_belowL {W we wd wf : World} {v : Value} {rows : List (List Int)} (own : OwnLL wd W.heap.size v rows) (hbd : Below W.heap.size W wd) (hbe : Below wd.heap.size wd we) (hon : W.heap.size ≤ we.heap.size → Below W.heap.size we wf) : Below W.heap.size W wf :=
  (hbd.trans (hbe.mono hbd.size)).trans (hon (Nat.le_trans hbd.size hbe.size))
theorem mkL_b {n : Nat} : ∀ (rows : List (List Int)) (k0 : Int), (∀ r ∈ rows, r.length ≤ n) → ∀ r ∈ mkL k0 rows, r.length ≤ n := by
  intro rows
  induction rows with
  | nil => intro k0 _ r hr; simp [mkL] at hr
  | cons q qs ih =>
    intro k0 h r hr
    simp only [mkL, List.mem_cons] at hr
    rcases hr with rfl | hr
    · rw [mkI_len]; exact h q List.mem_cons_self
    · exact ih _ (fun p hp => h p (List.mem_cons_of_mem _ hp)) r hr

set_option maxHeartbeats 2000000 in
theorem markIntSS_any (B : Nat) (v : Value) (rows : List (List Int)) (k0 : Int) (w : World) (h : OwnLL w B v rows) (hk0 : 0 ≤ k0) (hk1 : k0 + totL rows ≤ 1000000000000) :
    Calls Try.prog 43 #[v, .int .i64 k0] w (fun e w' => e = .returned (.int .i64 (k0 + totL rows)) ∧ OwnLL w' B v (mkL k0 rows) ∧ (B ≤ w.heap.size → Below B w w')) := by
  obtain ⟨a, cap, rfl⟩ := h.slice
  have hnb := h.cell.2.1
  obtain ⟨gs, h⟩ := h
  have hinit : OwnLg gs w B (.slice a rows.length cap) (mixL k0 rows 0) := by rw [show mixL k0 rows 0 = rows by simp [mixL, mkL]]; exact h
  have hend : mixL k0 rows rows.length = mkL k0 rows := by simp [mixL]
  have htot : totL (rows.take rows.length) = totL rows := by simp
  have HI := Lib.hid hinit; have HE := Lib.hid hend; have HT := Lib.hid htot
  have HS := Lib.hid (fun i hi => mixL_set k0 rows i hi); have HL := Lib.hid (fun i hi => mixL_len k0 rows i hi); have HA := Lib.hid (fun i hi => mixL_at k0 rows i hi); have HTT := Lib.hid (fun i hi => totL_take rows i hi)
  have HTL := Lib.hid (fun i => totL_le rows i); have HT0 := Lib.hid (fun i => totL_nonneg (rows.take i))
  have HM := Lib.hid (fun B v xs k0 w h a b => markIntS_any B v xs k0 w h a b)
  clear hinit hend htot h
  generalize hn : rows.length = n at HI HE HT hnb ⊢
  have HN := Lib.hid hn
  clear hn
  go_enter Try.func43, Try.ntmps43
  go_wp2
  go_loopw [1, 5] (fun v1 v5 wr => ∃ k : Nat, k ≤ n ∧ v5 = .int .i64 k ∧ v1 = .int .i64 (k0 + totL (rows.take k)) ∧ Hid (OwnLg gs wr B (.slice a n cap) (mixL k0 rows k)) ∧ (B ≤ w.heap.size → Below B w wr)) (fun _ v5 _ => n - (intOf v5).toNat)
  case atStart => exact ⟨0, by omega, rfl, by simp [totL], HI, fun _ => Below.refl _ _⟩
  case round =>
    clear HI
    obtain ⟨k, hk, rfl, rfl, HOW, hbw⟩ := hrel
    have HBW := Lib.hid hbw; clear hbw
    by_cases hlt : k < n
    · have hlt' : k < rows.length := by rw [HN.out]; exact hlt
      have how := HOW.out
      have hat := HA.out k hlt'
      obtain ⟨h1, hnd, h2, h3⟩ := how
      have hl := HL.out k (by omega)
      have hgk : gs[k]? = some gs[k] := List.getElem?_eq_getElem (by omega)
      obtain ⟨hBg, hhg⟩ := h3 k _ _ hgk hat
      have hcell := (show OwnLL wr B (.slice a n cap) (mixL k0 rows k) from ⟨gs, HOW.out⟩).cell.2.2 k _ hat
      have ht1 := HT0.out k
      have ht2 := HTL.out (k + 1)
      have ht3 := HTT.out k hlt'
      have hrb : (rows[k].length : Int) ≤ 1000000000000 := by have := HTL.out (k + 1); omega
      have hown := OwnLL.row (r := rows[k]) hBg (by unfold maxLen; omega) hhg
      have hset := HS.out k hlt'
      generalize hrk : rows[k] = r at *
      have hgk' := hgk
      generalize gs[k] = g at *
      have hzc : (List.zipWith rowV gs (mixL k0 rows k))[k]? = some (rowV g r) := by rw [List.getElem?_zipWith, hgk, hat]
      obtain ⟨b, ha⟩ : ∃ b, a = some ⟨b, 0, none⟩ := by
        obtain ⟨b, _, hb, _⟩ := hcell; exact ⟨b, hb⟩
      subst ha
      have c0 : wr.cell? ⟨b, k, none⟩ = some (rowV g r) := by
        rw [hl] at h2
        exact (_root_.Go.World.ownsRow.cellAt (HN.out ▸ h2) k (by omega)).trans hzc
      have hm := HM.out B (rowV g r) r (k0 + totL (rows.take k)) wr hown (by omega) (by omega)
      have hk1' : k0 + totL (rows.take k) + (r.length : Int) ≤ 1000000000000 := by omega
      have hnext : k0 + totL (rows.take k) + (r.length : Int) = k0 + totL (rows.take (k + 1)) := by omega
      have HNX := Lib.hid hnext
      have HM2 := Lib.hid hm
      have HSET := Lib.hid hset
      have HGK := Lib.hid hgk'
      have HAT := Lib.hid hat
      have HBG := hBg
      unfold rowV at c0 HM2
      clear h1 hnd h2 h3 hl hgk hcell ht3 hown hrk hgk' hzc hset hm hnext hat hhg
      go_wp2_with (first | (go_at_call 77; refine HM2.out.mono ?_; rintro e w1 ⟨rfl, hownr, hon⟩))
      have hrow := OwnLL.unrow (r := mkI (k0 + totL (rows.take k)) r.length) (w := w1) (B := B) (g := g) (by rw [mkI_len]; exact hownr)
      have hnew := OwnLg.write HOW.out HGK.out HAT.out (mkI_len _ _) hon hrow
      rw [HSET.out] at hnew
      go_roundw
      case rel => exact ⟨k + 1, by omega, by go_num, by rw [HNX.out], Lib.hid hnew, fun hB => (HBW.out hB).trans (hon.below (Nat.le_trans hB (HBW.out hB).size) fun q hq => by cases hq; exact HBG)⟩
      case measure => simp [intOf]; omega
    · have e : k = n := by omega
      subst e
      go_wp2
      go_ret
      refine ⟨by rw [HT.out]; rfl, ⟨gs, ?_⟩, HBW.out⟩
      have := HOW.out
      rw [HE.out] at this
      exact this

set_option maxHeartbeats 1000000 in
theorem heldIntSS_any (v : Value) (rows : List (List Int)) (k0 : Int) (w : World) (h : RdLL w v (mkL k0 rows)) (hk0 : 0 ≤ k0) (hk1 : k0 + totL rows ≤ 1000000000000) :
    Calls Try.prog 44 #[v, .int .i64 k0] w (Same (.int .i64 (k0 + totL rows)) w) := by
  obtain ⟨a, cap, rfl, hl, hc⟩ := h
  rw [mkL_len] at *
  have hrow : ∀ i (hi : i < rows.length), (mkL k0 rows)[i]? = some (mkI (k0 + totL (rows.take i)) rows[i].length) := by
    intro i hi
    have e : rows = rows.take i ++ rows[i] :: rows.drop (i + 1) := by rw [← List.drop_eq_getElem_cons hi, List.take_append_drop]
    conv => lhs; rw [e, mkL_app]
    rw [List.getElem?_append_right (by rw [mkL_len, List.length_take]; omega), mkL_len, List.length_take, Nat.min_eq_left (by omega), Nat.sub_self]
    rfl
  have HC := Lib.hid (fun i (hi : i < rows.length) => hc i _ (hrow i hi)); clear hc hrow
  have HT := Lib.hid (show totL (rows.take rows.length) = totL rows by simp)
  have HTT := Lib.hid (fun i hi => totL_take rows i hi)
  have HTL := Lib.hid (fun i => totL_le rows i); have HT0 := Lib.hid (fun i => totL_nonneg (rows.take i))
  have HH := Lib.hid (fun v n k0 w h a b => heldIntS_any v n k0 w h a b)
  generalize hn : rows.length = n at hl HT ⊢
  have HN := Lib.hid hn
  clear hn
  go_enter Try.func44, Try.ntmps44
  go_wp2
  go_loop [1, 5] (fun v1 v5 => ∃ k : Nat, k ≤ n ∧ v5 = .int .i64 k ∧ v1 = .int .i64 (k0 + totL (rows.take k))) (fun _ v5 => n - (intOf v5).toNat)
  case atStart => exact ⟨0, by omega, rfl, by simp [totL]⟩
  case round =>
    obtain ⟨k, hk, rfl, rfl⟩ := hrel
    by_cases hlt : k < n
    · have hlt' : k < rows.length := by rw [HN.out]; exact hlt
      obtain ⟨b, off, g, ha, hbl, c0, hi⟩ := HC.out k hlt'
      subst ha
      have ht1 := HT0.out k
      have ht2 := HTL.out (k + 1)
      have ht3 := HTT.out k hlt'
      have ht4 := HT0.out (k + 1)
      have hh := HH.out _ _ (k0 + totL (rows.take k)) w hi (by omega) (by omega)
      generalize hr : rows[k] = r at *
      have hnext : k0 + totL (rows.take k) + (r.length : Int) = k0 + totL (rows.take (k + 1)) := by omega
      have hpos : 0 ≤ k0 + totL (rows.take k) + (r.length : Int) := by omega
      have HNX := Lib.hid hnext
      have HH2 := Lib.hid hh
      unfold rowV at c0 HH2
      clear ht3 hh hr hnext hi
      go_wp2_with (first | (go_at_call 78; refine HH2.out.mono ?_; rintro e w1 ⟨rfl, rfl⟩))
      go_round
      case rel => exact ⟨k + 1, by omega, by go_num, by rw [HNX.out]⟩
      case measure => simp [intOf]; omega
    · have e : k = n := by omega
      subst e
      go_wp2
      go_ret
      exact same (vint (by rw [HT.out]))

set_option maxHeartbeats 1000000 in
theorem eqIntSS_same (v v2 : Value) (rows : List (List Int)) (w : World) (h1 : RdLL w v rows) (h2 : RdLL w v2 rows) : Calls Try.prog 42 #[v, v2] w (Gives (.bool true) w) := by
  obtain ⟨a, cap, rfl, hl, hc⟩ := h1
  obtain ⟨a2, cap2, rfl, -, hc2⟩ := h2
  have HC := Lib.hid hc; have HC2 := Lib.hid hc2; clear hc hc2
  generalize hn : rows.length = n at *
  have HN := Lib.hid hn; clear hn
  go_enter Try.func42, Try.ntmps42
  go_wp2
  go_loopw [5] (fun v5 wr => ∃ k : Nat, k ≤ n ∧ v5 = .int .i64 k ∧ Below w.heap.size w wr) (fun v5 _ => n - (intOf v5).toNat)
  case atStart => exact ⟨0, by omega, rfl, Below.refl _ _⟩
  case round =>
    obtain ⟨k, hk, rfl, hbw⟩ := hrel
    by_cases hlt : k < n
    · obtain ⟨r, hr⟩ : ∃ r, rows[k]? = some r := ⟨_, List.getElem?_eq_getElem (by rw [HN.out]; exact hlt)⟩
      obtain ⟨b, off, g, ha, hbl, c0, i0⟩ := HC.out k r hr
      obtain ⟨b', off', g', ha', hbl', d0, j0⟩ := HC2.out k r hr
      subst ha ha'
      clear hr
      have hsz := hbw.size
      have e0 := (hbw.cell (p := ⟨b, off + k, none⟩) hbl).trans c0
      have f0 := (hbw.cell (p := ⟨b', off' + k, none⟩) hbl').trans d0
      have i1 := i0.below hbw
      have j1 := j0.below hbw
      have q1 : b < wr.heap.size := by omega
      have q2 : b' < wr.heap.size := by omega
      have p1 : (0 : Int) ≤ (k : Int) := by omega
      have p2 : (k : Int) < (n : Int) := by omega
      unfold rowV at e0 f0 i1 j1
      clear c0 d0 i0 j0
      go_wp2_with fail
      go_region_held3 (fun w' => Below wr.heap.size wr w' ∧ w'.cell? ⟨b, off + k, none⟩ = some (.slice (some ⟨g, 0, none⟩) r.length r.length) ∧ w'.cell? ⟨b', off' + k, none⟩ = some (.slice (some ⟨g', 0, none⟩) r.length r.length)) ((refine (fun hbK => And.intro hbK (by exact ⟨(hbK.cell (p := ⟨b, off + k, none⟩) (by first | assumption | omega | (simp; omega))).trans e0, (hbK.cell (p := ⟨b', off' + k, none⟩) (by first | assumption | omega | (simp; omega))).trans f0⟩)) ?_; repeat' (first | (with_reducible exact Below.refl _ _) | (with_reducible assumption) | (with_reducible refine Below.alloc ?_ ?_ _) | (with_reducible refine Below.setCell ?_ ?_ _) | (with_reducible refine Below.drew ?_) | (with_reducible refine below_drewN ?_ _) | (apply bthen2; (with_reducible assumption)) | go_size))) ((first | (go_at_call 48; refine (eqIntS_same _ _ r _ ?_ ?_).mono ?_; (focus (refine Ints.below i1 ?_; repeat' (first | (with_reducible exact Below.refl _ _) | (with_reducible assumption) | (with_reducible refine Below.alloc ?_ ?_ _) | (with_reducible refine Below.setCell ?_ ?_ _) | (with_reducible refine Below.drew ?_) | (with_reducible refine below_drewN ?_ _) | (apply bthen2; (with_reducible assumption)) | go_size))); (focus (refine Ints.below j1 ?_; repeat' (first | (with_reducible exact Below.refl _ _) | (with_reducible assumption) | (with_reducible refine Below.alloc ?_ ?_ _) | (with_reducible refine Below.setCell ?_ ?_ _) | (with_reducible refine Below.drew ?_) | (with_reducible refine below_drewN ?_ _) | (apply bthen2; (with_reducible assumption)) | go_size))); rintro e wf ⟨rfl, hbf⟩)))
      all_goals
        go_wp2
        go_roundw
        case rel => exact ⟨k + 1, by omega, by go_num, (by repeat' (first | (with_reducible exact Below.refl _ _) | (with_reducible assumption) | (with_reducible refine Below.alloc ?_ ?_ _) | (with_reducible refine Below.setCell ?_ ?_ _) | (with_reducible refine Below.drew ?_) | (with_reducible refine below_drewN ?_ _) | (apply bthen2; (with_reducible assumption)) | go_size))⟩
        case measure => simp [intOf]; omega
    · go_wp2
      go_ret
      exact gives rfl hbw

end Go.Proofs.Ytiafgfnefhcabaa
