import Derived.Test.YtngnnkbgiligaaaPtV
set_option linter.unusedSimpArgs false
set_option linter.unusedVariables false
namespace Go.Proofs.Ytngnnkbgiligaaa
open Go.RowKit
/-! ### the greatest order -/

def gmL (A : Int) (L : List P3) (m : Int) : Int := L.foldl (fun m p => max m (ordV A p).1) m
def tmL (A : Int) (L : List P3) (b : P3 × Int) : P3 × Int := L.foldl (fun b p => if b.2 < (ordV A p).1 then (p, (ordV A p).1) else b) b
theorem gmL_take (A : Int) (L : List P3) (k : Nat) (p : P3) (m : Int) (h : L[k]? = some p) : gmL A (L.take (k + 1)) m = max (gmL A (L.take k) m) (ordV A p).1 := by
  have hk : k < L.length := by
    rcases Nat.lt_or_ge k L.length with q | q
    · exact q
    · rw [List.getElem?_eq_none q] at h; cases h
  have e : L[k] = p := by rw [List.getElem?_eq_getElem hk] at h; exact Option.some.inj h
  unfold gmL
  rw [List.take_succ_eq_append_getElem hk, List.foldl_append, e]; rfl
theorem tmL_take (A : Int) (L : List P3) (k : Nat) (p : P3) (b : P3 × Int) (h : L[k]? = some p) : tmL A (L.take (k + 1)) b = if (tmL A (L.take k) b).2 < (ordV A p).1 then (p, (ordV A p).1) else tmL A (L.take k) b := by
  have hk : k < L.length := by
    rcases Nat.lt_or_ge k L.length with q | q
    · exact q
    · rw [List.getElem?_eq_none q] at h; cases h
  have e : L[k] = p := by rw [List.getElem?_eq_getElem hk] at h; exact Option.some.inj h
  unfold tmL
  rw [List.take_succ_eq_append_getElem hk, List.foldl_append, e]; rfl
theorem tmL_gmL (A : Int) (L : List P3) : ∀ b : P3 × Int, (tmL A L b).2 = gmL A L b.2 := by
  induction L with
  | nil => intro b; rfl
  | cons p L ih =>
    intro b
    show (tmL A L (if b.2 < (ordV A p).1 then (p, (ordV A p).1) else b)).2 = gmL A L (max b.2 (ordV A p).1)
    rw [ih]
    congr 1
    split <;> (try dsimp only) <;> omega
theorem gmL_cons (A : Int) (p : P3) (L : List P3) (m : Int) : gmL A (p :: L) m = gmL A L (max m (ordV A p).1) := rfl
theorem ordV_zero (A : Int) : ordV A (0, 0, 0) = (1, true) := by
  unfold ordV
  exact ordGo_fin (q := (0, 0, 0)) (by have h : EC.PV A 0 (0, 0, 0) := .inl rfl
                                       exact sumO_zl h) rfl
theorem gmL_le (A : Int) (L : List P3) : ∀ m, m ≤ gmL A L m := by
  induction L with
  | nil => intro m; exact Int.le_refl _
  | cons p L ih => intro m; show m ≤ gmL A L (max m (ordV A p).1); have := ih (max m (ordV A p).1); omega
theorem ordGo_b {A : Int} {p : P3} : ∀ (f : Nat) (n : Int) (now : P3), 0 ≤ n → n + f ≤ 1000 → 0 ≤ (ordGo A p f n now).1 ∧ (ordGo A p f n now).1 ≤ 1000
  | 0, n, now, h, h2 => by simp [ordGo]
  | f + 1, n, now, h, h2 => by
    rcases hs : EC.sumO A now p with _ | q
    · rw [ordGo_none hs]; simp
    · by_cases h0 : q.2.2 = 0
      · rw [ordGo_fin hs h0]; simp only; omega
      · rw [ordGo_go hs h0]; exact ordGo_b f (n + 1) q (by omega) (by omega)
theorem ordV_b (A : Int) (p : P3) : 0 ≤ (ordV A p).1 ∧ (ordV A p).1 ≤ 1000 := ordGo_b 12 1 (0, 0, 0) (by omega) (by omega)
theorem gmL_b (A : Int) (L : List P3) : ∀ m, 0 ≤ m → m ≤ 1000 → 0 ≤ gmL A L m ∧ gmL A L m ≤ 1000 := by
  induction L with
  | nil => intro m h h2; exact ⟨h, h2⟩
  | cons p L ih => intro m h h2; have := ordV_b A p; exact ih (max m (ordV A p).1) (by omega) (by omega)
def gmV (a b : Int) : Int := gmL a (tps a b) 1
theorem gmV_b (a b : Int) : 1 ≤ gmV a b ∧ gmV a b ≤ 1000 := ⟨gmL_le _ _ 1, (gmL_b _ _ 1 (by omega) (by omega)).2⟩
theorem tm_gmV (a b : Int) : (tmL a (tps a b) ((0, 0, 0), 0)).2 = gmV a b := by
  rw [tmL_gmL]
  unfold gmV tps
  rw [gmL_cons, gmL_cons, ordV_zero]
  exact congrArg (gmL a ((cds a b 6001).filter fun p => (ordV a p).2)) (by decide)

set_option maxRecDepth 100000 in
set_option maxHeartbeats 4000000 in
theorem greatestOrder_any (A B : Int) (hC : isC A B = true) (L : List P3) (hL : ∀ p ∈ L, EC.PV A B p) (hL2 : L.length ≤ 1000000) (ca : Option Addr) (cl cc : Nat) (w : World) (hl : PtsR w (.slice ca cl cc) L) :
    Calls Try.prog 52 #[.agg #[.int .i64 A, .int .i64 B], .slice ca cl cc] w (Gives (.int .i64 (gmL A L 1)) w) := by
  obtain ⟨ca', cc', hsl, hml, -⟩ := id hl
  obtain ⟨rfl, rfl, rfl⟩ : ca = ca' ∧ cl = L.length ∧ cc = cc' := by simpa using hsl
  have HL := Lib.hid hl
  have HO := Lib.hid (fun x y e (h : EC.PV A B (x, y, e)) W => orderOfPoint_any A B x y e hC h W)
  have HT := Lib.hid (fun k p h => gmL_take A L k p 1 h)
  have HPV := Lib.hid hL
  have H0 := Lib.hid (show gmL A (L.take 0) 1 = 1 from rfl)
  have HE := Lib.hid (show gmL A (L.take L.length) 1 = gmL A L 1 from by rw [List.take_length])
  obtain ⟨R, hR⟩ : ∃ R, gmL A L 1 = R := ⟨_, rfl⟩
  rw [hR] at HE ⊢
  clear hR hC hL hsl hl hml
  generalize hgm : gmL A = gm at *
  clear hgm
  go_enter Try.func52, Try.ntmps52
  go_wp2_with fail
  refine name_world (fun W1 hW1 => ?_)
  have Bc : Box W1 w.heap.size [.int .i64 A, .int .i64 B] := by subst hW1; exact box_two (by first | omega | (simp; done) | (simp; omega)) (by simp [go_sem]) (by simp [go_sem]) (fun o => by simp [go_sem])
  have hB : Below w.heap.size w W1 := by subst hW1; exact (by repeat' (first | (with_reducible exact Below.refl _ _) | (with_reducible assumption) | (with_reducible refine Below.alloc ?_ ?_ _) | (with_reducible refine Below.setCell ?_ ?_ _) | (with_reducible refine Below.drew ?_) | (with_reducible refine below_drewN ?_ _) | (apply bthen2; (with_reducible assumption)) | go_size))
  have PT := HL.out.below hB
  clear hW1 HL
  go_loopw [5, 12] (fun v5 v12 wr => ∃ (k : Nat) (m : Int), v12 = .int .i64 k ∧ v5 = .int .i64 m ∧ k ≤ L.length ∧ Hid (gm (L.take k) 1 = m) ∧ Below W1.heap.size W1 wr) (fun _ v12 _ => (L.length - intOf v12).toNat)
  case atStart => exact ⟨0, 1, rfl, rfl, by omega, H0, Below.refl _ _⟩
  case round =>
    clear H0
    obtain ⟨k, m, rfl, rfl, hk, HM, hbw⟩ := hrel
    have hzw := hbw.size
    have Bw := Bc.below hbw
    have c0 := Bw.2.1 0 _ rfl; have c1 := Bw.2.1 1 _ rfl; have cl := Bw.1
    by_cases hlt : k < L.length
    · obtain ⟨⟨px, py, pe⟩, hp⟩ : ∃ p, L[k]? = some p := ⟨_, List.getElem?_eq_getElem hlt⟩
      obtain ⟨ca2, cc2, hsl, hml, hcells⟩ := PT.below hbw
      obtain ⟨b, off, ha, hbl, x0, x1, x2⟩ := hcells k _ hp
      have hca : ca = some ⟨b, off, none⟩ := by
        have : ca = ca2 := by simpa using congrArg (fun v => match v with | Value.slice a _ _ => a | _ => none) hsl
        rw [this, ha]
      subst hca
      clear hcells hsl ha
      have HOO := Lib.hid (HO.out px py pe (HPV.out _ (List.mem_of_getElem? hp)))
      have HN := HT.out k _ hp
      rw [HM.out] at HN
      simp only at x0 x1 x2
      have hlt' : (k : Int) < (L.length : Int) := by omega
      clear hp HO HPV HT
      generalize ordV A (px, py, pe) = ov at *
      have HNN := Lib.hid HN
      clear HN
      go_wp2_with fail
      refine (HOO.out _).mono ?_
      rintro e9 wb ⟨rfl, hbb⟩
      have hzb := hbb.size
      go_wp2_with fail
      go_roundw
      case rel => exact ⟨k + 1, max m ov.1, rfl, rfl, by omega, HNN, by repeat' (first | (with_reducible exact Below.refl _ _) | (with_reducible assumption) | (with_reducible refine Below.alloc ?_ ?_ _) | (with_reducible refine Below.setCell ?_ ?_ _) | (with_reducible refine Below.drew ?_) | (with_reducible refine below_drewN ?_ _) | (apply bthen2; (with_reducible assumption)) | go_size)⟩
      case measure => simp [intOf]; omega
    · obtain rfl : k = L.length := by omega
      have HV := Lib.hid (show m = R from by rw [← HM.out, HE.out])
      clear HO HPV HT
      go_wp2_with fail
      go_ret
      exact gives (show Value.int IntKind.i64 m = Value.int IntKind.i64 R from by rw [HV.out]) (bthen hB hbw)

set_option maxRecDepth 100000 in
set_option maxHeartbeats 4000000 in
theorem toMost_any (A B : Int) (hC : isC A B = true) (L : List P3) (hL : ∀ p ∈ L, EC.PV A B p) (hL2 : L.length ≤ 1000000) (ca : Option Addr) (cl cc : Nat) (w : World) (hl : PtsR w (.slice ca cl cc) L) :
    Calls Try.prog 50 #[.agg #[.int .i64 A, .int .i64 B], .slice ca cl cc] w (Gives (.tuple #[.agg #[.int .i64 (tmL A L ((0, 0, 0), 0)).1.1, .int .i64 (tmL A L ((0, 0, 0), 0)).1.2.1, .int .i64 (tmL A L ((0, 0, 0), 0)).1.2.2], .int .i64 (tmL A L ((0, 0, 0), 0)).2]) w) := by
  obtain ⟨ca', cc', hsl, hml, -⟩ := id hl
  obtain ⟨rfl, rfl, rfl⟩ : ca = ca' ∧ cl = L.length ∧ cc = cc' := by simpa using hsl
  have HL := Lib.hid hl
  have HO := Lib.hid (fun x y e (h : EC.PV A B (x, y, e)) W => toOrder_any A B x y e hC h W)
  have HT := Lib.hid (fun k p h => tmL_take A L k p ((0, 0, 0), 0) h)
  have HPV := Lib.hid hL
  have H0 := Lib.hid (show tmL A (L.take 0) ((0, 0, 0), 0) = ((0, 0, 0), 0) from rfl)
  have HE := Lib.hid (show tmL A (L.take L.length) ((0, 0, 0), 0) = tmL A L ((0, 0, 0), 0) from by rw [List.take_length])
  obtain ⟨⟨⟨R1, R2, R3⟩, R⟩, hR⟩ : ∃ R, tmL A L ((0, 0, 0), 0) = R := ⟨_, rfl⟩
  rw [hR] at HE ⊢
  clear hR hC hL hsl hl hml
  generalize hgm : tmL A = gm at *
  clear hgm
  dsimp only
  go_enter Try.func50, Try.ntmps50
  go_wp2_with fail
  refine name_world (fun W1 hW1 => ?_)
  have Bc : Box W1 w.heap.size [.int .i64 A, .int .i64 B] := by subst hW1; exact box_two (by first | omega | (simp; done) | (simp; omega)) (by simp [go_sem]) (by simp [go_sem]) (fun o => by simp [go_sem])
  have Br : Box W1 (w.heap.size + 1) [.int .i64 0, .int .i64 0, .int .i64 0] := by subst hW1; exact box_three (by first | omega | (simp; done) | (simp; omega)) (by simp [go_sem]) (by simp [go_sem]) (by simp [go_sem]) (fun o => by simp [go_sem])
  have Bb : Box W1 (w.heap.size + 1 + 1) [.int .i64 0, .int .i64 0, .int .i64 0] := by subst hW1; exact box_three (by first | omega | (simp; done) | (simp; omega)) (by simp [go_sem]) (by simp [go_sem]) (by simp [go_sem]) (fun o => by simp [go_sem])
  have hB : Below w.heap.size w W1 := by subst hW1; exact (by repeat' (first | (with_reducible exact Below.refl _ _) | (with_reducible assumption) | (with_reducible refine Below.alloc ?_ ?_ _) | (with_reducible refine Below.setCell ?_ ?_ _) | (with_reducible refine Below.drew ?_) | (with_reducible refine below_drewN ?_ _) | (apply bthen2; (with_reducible assumption)) | go_size))
  clear hW1
  go_loopw [7, 14] (fun v7 v14 wr => ∃ (k : Nat) (m x y z : Int), v14 = .int .i64 k ∧ v7 = .int .i64 m ∧ k ≤ L.length ∧ Hid (gm (L.take k) ((0, 0, 0), 0) = ((x, y, z), m)) ∧ Box wr w.heap.size [.int .i64 A, .int .i64 B] ∧ Box wr (w.heap.size + 1) [.int .i64 0, .int .i64 0, .int .i64 0] ∧ Box wr (w.heap.size + 1 + 1) [.int .i64 x, .int .i64 y, .int .i64 z] ∧ Below w.heap.size w wr) (fun _ v14 _ => (L.length - intOf v14).toNat)
  case atStart => exact ⟨0, 0, 0, 0, 0, rfl, rfl, by omega, H0, Bc, Br, Bb, hB⟩
  case round =>
    clear H0 Bc Br Bb hB
    obtain ⟨k, m, x, y, z, rfl, rfl, hk, HM, Bc, Br, Bb, hB⟩ := hrel
    have c0 := Bc.2.1 0 _ rfl; have c1 := Bc.2.1 1 _ rfl; have cl := Bc.1
    have r0 := Br.2.1 0 _ rfl; have r1 := Br.2.1 1 _ rfl; have r2 := Br.2.1 2 _ rfl; have rf := Br.2.2; have rl := Br.1
    have d0 := Bb.2.1 0 _ rfl; have d1 := Bb.2.1 1 _ rfl; have d2 := Bb.2.1 2 _ rfl; have df := Bb.2.2; have dl := Bb.1
    by_cases hlt : k < L.length
    · obtain ⟨⟨px, py, pe⟩, hp⟩ : ∃ p, L[k]? = some p := ⟨_, List.getElem?_eq_getElem hlt⟩
      obtain ⟨ca2, cc2, hsl, hml, hcells⟩ := HL.out.below hB
      obtain ⟨b, off, ha, hbl, x0, x1, x2⟩ := hcells k _ hp
      have hca : ca = some ⟨b, off, none⟩ := by
        have : ca = ca2 := by simpa using congrArg (fun v => match v with | Value.slice a _ _ => a | _ => none) hsl
        rw [this, ha]
      subst hca
      clear hcells hsl ha
      have HOO := Lib.hid (HO.out px py pe (HPV.out _ (List.mem_of_getElem? hp)))
      have HN := HT.out k _ hp
      rw [HM.out] at HN
      simp only at x0 x1 x2 HN
      have hlt' : (k : Int) < (L.length : Int) := by omega
      clear hp HO HPV HT HM
      generalize (ordV A (px, py, pe)).1 = ov at *
      by_cases hgt : m < ov
      · rw [if_pos hgt] at HN
        have HNN := Lib.hid HN
        clear HN
        go_wp2_with fail
        refine (HOO.out _).mono ?_
        rintro e9 wb ⟨rfl, hbb⟩
        have hzb := hbb.size
        have Bc2 := (Box.alloc Bc (Obj.cells #[.int .i64 px, .int .i64 py, .int .i64 pe] 30)).below hbb
        have Br2 := (Box.alloc Br (Obj.cells #[.int .i64 px, .int .i64 py, .int .i64 pe] 30)).below hbb
        have Bb2 := (Box.alloc Bb (Obj.cells #[.int .i64 px, .int .i64 py, .int .i64 pe] 30)).below hbb
        have Bp2 := Box.below (show Box _ wr.heap.size [.int .i64 px, .int .i64 py, .int .i64 pe] from box_three (by simp) (by simp) (by simp) (by simp) (fun o => by simp)) hbb
        have s0 := Bb2.2.1 0 _ rfl; have s1 := Bb2.2.1 1 _ rfl; have s2 := Bb2.2.1 2 _ rfl; have sf := Bb2.2.2; have sl := Bb2.1
        have p0 := Bp2.2.1 0 _ rfl; have p1 := Bp2.2.1 1 _ rfl; have p2 := Bp2.2.1 2 _ rfl; have pl := Bp2.1
        go_wp2_with fail
        go_roundw
        case rel => exact ⟨k + 1, ov, px, py, pe, rfl, rfl, by omega, HNN, Box.set_ne (Box.set_ne (Box.set_ne Bc2 (by first | (simp; done) | (simp; omega)) _) (by first | (simp; done) | (simp; omega)) _) (by first | (simp; done) | (simp; omega)) _, Box.set_ne (Box.set_ne (Box.set_ne Br2 (by first | (simp; done) | (simp; omega)) _) (by first | (simp; done) | (simp; omega)) _) (by first | (simp; done) | (simp; omega)) _, Box.set (Box.set (Box.set Bb2 0 (by simp) _) 1 (by simp) _) 2 (by simp) _, (by repeat' (first | (with_reducible exact Below.refl _ _) | (with_reducible assumption) | (with_reducible refine Below.alloc ?_ ?_ _) | (with_reducible refine Below.setCell ?_ ?_ _) | (with_reducible refine Below.drew ?_) | (with_reducible refine below_drewN ?_ _) | (apply bthen2; (with_reducible assumption)) | go_size))⟩
        case measure => simp [intOf]; omega
      · rw [if_neg hgt] at HN
        have HNN := Lib.hid HN
        clear HN
        go_wp2_with fail
        refine (HOO.out _).mono ?_
        rintro e9 wb ⟨rfl, hbb⟩
        have hzb := hbb.size
        have Bc2 := (Box.alloc Bc (Obj.cells #[.int .i64 px, .int .i64 py, .int .i64 pe] 30)).below hbb
        have Br2 := (Box.alloc Br (Obj.cells #[.int .i64 px, .int .i64 py, .int .i64 pe] 30)).below hbb
        have Bb2 := (Box.alloc Bb (Obj.cells #[.int .i64 px, .int .i64 py, .int .i64 pe] 30)).below hbb
        go_wp2_with fail
        go_roundw
        case rel => exact ⟨k + 1, m, x, y, z, rfl, rfl, by omega, HNN, Bc2, Br2, Bb2, (by repeat' (first | (with_reducible exact Below.refl _ _) | (with_reducible assumption) | (with_reducible refine Below.alloc ?_ ?_ _) | (with_reducible refine Below.setCell ?_ ?_ _) | (with_reducible refine Below.drew ?_) | (with_reducible refine below_drewN ?_ _) | (apply bthen2; (with_reducible assumption)) | go_size))⟩
        case measure => simp [intOf]; omega
    · obtain rfl : k = L.length := by omega
      have hv := HM.out
      rw [HE.out] at hv
      simp only [Prod.mk.injEq] at hv
      obtain ⟨⟨rfl, rfl, rfl⟩, rfl⟩ := hv
      clear HO HPV HT HL HM HE
      go_wp2_with fail
      refine bodyPost_ret (v := .tuple #[.agg #[.int .i64 R1, .int .i64 R2, .int .i64 R3], .int .i64 R]) (by simp [results, Try.results50, go_sem, r0, r1, r2, rf, rl, d0, d1, d2]) rfl (gives rfl (by repeat' (first | (with_reducible exact Below.refl _ _) | (with_reducible assumption) | (with_reducible refine Below.alloc ?_ ?_ _) | (with_reducible refine Below.setCell ?_ ?_ _) | (with_reducible refine Below.drew ?_) | (with_reducible refine below_drewN ?_ _) | (apply bthen2; (with_reducible assumption)) | go_size)))

def tsV (a b : Int) : Value := if isC a b then .tuple #[.int .i64 ((((tps a b).length : Nat) : Int).tdiv (gmV a b)), .int .i64 (gmV a b), .bool true] else .tuple #[.int .i64 0, .int .i64 0, .bool false]
set_option maxHeartbeats 2000000 in
theorem TorsionShape_any (a b : Int) (w : World) : Calls Try.prog 16 #[.agg #[.int .i64 a, .int .i64 b]] w (Gives (tsV a b) w) := by
  have HF := Lib.hid (fun w => isCurve_any a b w)
  unfold tsV
  cases g1 : isC a b
  · rw [g1] at HF
    go_enter Try.func16, Try.ntmps16
    go_wp2_with (first | (go_at_call 51; refine (HF.out _).mono ?_; rintro e wa ⟨rfl, hba⟩; have hza := hba.size; (try simp only [World.size_alloc, World.size_setCell, World.size_drew, World.heap_drewN] at hza); try (refine keepc hba (w.heap.size) ?_ ?_; (focus (first | omega | (simp <;> omega))); intro hca_0 hfa_0 hla_0); try (refine keepc hba (w.heap.size + 1) ?_ ?_; (focus (first | omega | (simp <;> omega))); intro hca_1 hfa_1 hla_1); try (refine keepc hba (w.heap.size + 1 + 1) ?_ ?_; (focus (first | omega | (simp <;> omega))); intro hca_2 hfa_2 hla_2)))
    go_ret3
    exact gives rfl (by repeat' (first | (with_reducible exact Below.refl _ _) | (with_reducible assumption) | (with_reducible refine Below.alloc ?_ ?_ _) | (with_reducible refine Below.setCell ?_ ?_ _) | (with_reducible refine Below.drew ?_) | (with_reducible refine below_drewN ?_ _) | (apply bthen2; (with_reducible assumption)) | go_size))
  · rw [g1] at HF
    rw [if_pos rfl]
    have HC := Lib.hid (fun w => torsionPoints_any a b g1 w)
    have HG := Lib.hid (fun ca cl cc W h => greatestOrder_any a b g1 (tps a b) (tps_PV g1) (by have := tps_len a b; omega) ca cl cc W h)
    have hG := gmV_b a b
    have hlen := tps_len a b
    rw [show gmL a (tps a b) 1 = gmV a b from rfl] at HG
    generalize gmV a b = G at *
    skip
    generalize tps a b = R at *
    have q0 := tdiv_bd (R.length : Int) G
    have q1 : -9223372036854775808 ≤ (R.length : Int).tdiv G := by omega
    have q2 : (R.length : Int).tdiv G ≤ 9223372036854775807 := by omega
    have k0 : (G == 0) = false := by simp; omega
    have k1 : ¬ G = 0 := by omega
    have KQ := Lib.hid (show wrap64 ((R.length : Int) / G) = (R.length : Int).tdiv G from by rw [← Int.tdiv_eq_ediv_of_nonneg (show (0 : Int) ≤ (R.length : Int) by omega)]; exact win (by omega))
    clear q0
    go_enter Try.func16, Try.ntmps16
    go_wp2_with fail
    refine (HF.out _).mono ?_
    rintro e9 wa ⟨rfl, hba⟩
    have Bc := Box.below (show Box _ w.heap.size [.int .i64 a, .int .i64 b] from box_made2 _ _ _ _) hba
    have hB := bthen2 hba (show Below w.heap.size w (w.alloc (Obj.cells #[.int .i64 a, .int .i64 b] 28)) by repeat' (first | (with_reducible exact Below.refl _ _) | (with_reducible assumption) | (with_reducible refine Below.alloc ?_ ?_ _) | (with_reducible refine Below.setCell ?_ ?_ _) | (with_reducible refine Below.drew ?_) | (with_reducible refine below_drewN ?_ _) | (apply bthen2; (with_reducible assumption)) | go_size))
    have c0 := Bc.2.1 0 _ rfl; have c1 := Bc.2.1 1 _ rfl; have cl := Bc.1
    go_wp2_with fail
    refine (HC.out _).mono ?_
    rintro e9 wb ⟨ca, cl, cc, rfl, hown, hbb⟩
    obtain ⟨ca', cc', hsl⟩ := hown.slice
    obtain ⟨rfl, rfl, rfl⟩ : ca = ca' ∧ cl = R.length ∧ cc = cc' := by simpa using hsl
    clear hsl
    have Bd := Bc.below hbb
    have PT := hown.pts
    have hB2 := bthen2 hbb hB
    have d0 := Bd.2.1 0 _ rfl; have d1 := Bd.2.1 1 _ rfl; have dl := Bd.1
    go_wp2_with fail
    refine (HG.out _ _ _ _ ?_).mono ?_
    · exact PT
    rintro e9 wd ⟨rfl, hbd⟩
    have hB3 := bthen2 hbd hB2
    clear PT hown
    go_wp2_with fail
    (try (go_quiet (fail); go_wp2_with fail))
    go_ret3
    have hz3 := hB3.size
    exact gives (show Value.tuple #[Value.int IntKind.i64 (wrap64 ((R.length : Int) / G)), Value.int IntKind.i64 G, Value.bool true] = Value.tuple #[Value.int IntKind.i64 ((R.length : Int).tdiv G), Value.int IntKind.i64 G, Value.bool true] from by rw [KQ.out]) (by repeat' (first | (with_reducible exact Below.refl _ _) | (with_reducible assumption) | (with_reducible refine Below.alloc ?_ ?_ _) | (with_reducible refine Below.setCell ?_ ?_ _) | (with_reducible refine Below.drew ?_) | (with_reducible refine below_drewN ?_ _) | (apply bthen2; (with_reducible assumption)) | go_size))
set_option maxHeartbeats 2000000 in
theorem sTorsionShape_any (a b : Int) (w : World) : Calls Try.prog 15 #[.agg #[.int .i64 a, .int .i64 b]] w (Gives (tsV a b) w) := by
  have HF := Lib.hid (fun w => ecGood_any a b w)
  unfold tsV
  cases g1 : isC a b
  · rw [g1] at HF
    go_enter Try.func15, Try.ntmps15
    go_wp2_with (first | (go_at_call 48; refine (HF.out _).mono ?_; rintro e wa ⟨rfl, hba⟩; have hza := hba.size; (try simp only [World.size_alloc, World.size_setCell, World.size_drew, World.heap_drewN] at hza); try (refine keepc hba (w.heap.size) ?_ ?_; (focus (first | omega | (simp <;> omega))); intro hca_0 hfa_0 hla_0); try (refine keepc hba (w.heap.size + 1) ?_ ?_; (focus (first | omega | (simp <;> omega))); intro hca_1 hfa_1 hla_1); try (refine keepc hba (w.heap.size + 1 + 1) ?_ ?_; (focus (first | omega | (simp <;> omega))); intro hca_2 hfa_2 hla_2)))
    go_ret3
    exact gives rfl (by repeat' (first | (with_reducible exact Below.refl _ _) | (with_reducible assumption) | (with_reducible refine Below.alloc ?_ ?_ _) | (with_reducible refine Below.setCell ?_ ?_ _) | (with_reducible refine Below.drew ?_) | (with_reducible refine below_drewN ?_ _) | (apply bthen2; (with_reducible assumption)) | go_size))
  · rw [g1] at HF
    rw [if_pos rfl]
    have HC := Lib.hid (fun w => toPoints_any a b g1 w)
    have HG := Lib.hid (fun ca cl cc W h => toMost_any a b g1 (tps a b) (tps_PV g1) (by have := tps_len a b; omega) ca cl cc W h)
    have hG := gmV_b a b
    have hlen := tps_len a b
    rw [tm_gmV] at HG
    generalize gmV a b = G at *
    generalize tmL a (tps a b) ((0, 0, 0), 0) = TM at *
    generalize tps a b = R at *
    have q0 := tdiv_bd (R.length : Int) G
    have q1 : -9223372036854775808 ≤ (R.length : Int).tdiv G := by omega
    have q2 : (R.length : Int).tdiv G ≤ 9223372036854775807 := by omega
    have k0 : (G == 0) = false := by simp; omega
    have k1 : ¬ G = 0 := by omega
    have KQ := Lib.hid (show wrap64 ((R.length : Int) / G) = (R.length : Int).tdiv G from by rw [← Int.tdiv_eq_ediv_of_nonneg (show (0 : Int) ≤ (R.length : Int) by omega)]; exact win (by omega))
    clear q0
    go_enter Try.func15, Try.ntmps15
    go_wp2_with fail
    refine (HF.out _).mono ?_
    rintro e9 wa ⟨rfl, hba⟩
    have Bc := Box.below (show Box _ w.heap.size [.int .i64 a, .int .i64 b] from box_made2 _ _ _ _) hba
    have hB := bthen2 hba (show Below w.heap.size w (w.alloc (Obj.cells #[.int .i64 a, .int .i64 b] 28)) by repeat' (first | (with_reducible exact Below.refl _ _) | (with_reducible assumption) | (with_reducible refine Below.alloc ?_ ?_ _) | (with_reducible refine Below.setCell ?_ ?_ _) | (with_reducible refine Below.drew ?_) | (with_reducible refine below_drewN ?_ _) | (apply bthen2; (with_reducible assumption)) | go_size))
    have c0 := Bc.2.1 0 _ rfl; have c1 := Bc.2.1 1 _ rfl; have cl := Bc.1
    go_wp2_with fail
    refine (HC.out _).mono ?_
    rintro e9 wb ⟨ca, cl, cc, rfl, hown, hbb⟩
    obtain ⟨ca', cc', hsl⟩ := hown.slice
    obtain ⟨rfl, rfl, rfl⟩ : ca = ca' ∧ cl = R.length ∧ cc = cc' := by simpa using hsl
    clear hsl
    have Bd := Bc.below hbb
    have PT := hown.pts
    have hB2 := bthen2 hbb hB
    have d0 := Bd.2.1 0 _ rfl; have d1 := Bd.2.1 1 _ rfl; have dl := Bd.1
    go_wp2_with fail
    refine (HG.out _ _ _ _ ?_).mono ?_
    · exact PT
    rintro e9 wd ⟨rfl, hbd⟩
    have hB3 := bthen2 hbd hB2
    clear PT hown
    go_wp2_with fail
    (try (go_quiet (fail); go_wp2_with fail))
    go_ret3
    have hz3 := hB3.size
    exact gives (show Value.tuple #[Value.int IntKind.i64 (wrap64 ((R.length : Int) / G)), Value.int IntKind.i64 G, Value.bool true] = Value.tuple #[Value.int IntKind.i64 ((R.length : Int).tdiv G), Value.int IntKind.i64 G, Value.bool true] from by rw [KQ.out]) (by repeat' (first | (with_reducible exact Below.refl _ _) | (with_reducible assumption) | (with_reducible refine Below.alloc ?_ ?_ _) | (with_reducible refine Below.setCell ?_ ?_ _) | (with_reducible refine Below.drew ?_) | (with_reducible refine below_drewN ?_ _) | (apply bthen2; (with_reducible assumption)) | go_size))

set_option maxHeartbeats 2000000 in
theorem walk_FnExactTorsionShape (a b : Int) (w : World) (_w0 : (Lit.int .i64 a).wf = true) (_w1 : (Lit.int .i64 b).wf = true) : Calls Try.prog 4 #[.agg #[.int .i64 a, .int .i64 b]] w (Gives (.bool true) w) := by
  have HS := Lib.hid (fun w => sTorsionShape_any a b w)
  have HI := Lib.hid (fun w => TorsionShape_any a b w)
  obtain ⟨r0, r1, r2, hv⟩ : ∃ r0 r1 r2, tsV a b = .tuple #[.int .i64 r0, .int .i64 r1, .bool r2] := by unfold tsV; split <;> exact ⟨_, _, _, rfl⟩
  rw [hv] at HS HI
  clear hv
  go_enter Try.func4, Try.ntmps4
  go_wp2_with fail
  (refine (toCurve_any _ _ _).mono ?_; rintro e wa ⟨rfl, hba⟩; have hza := hba.size; (try simp only [World.size_alloc, World.size_setCell, World.size_drew, World.heap_drewN] at hza); try (refine keepc hba (w.heap.size) ?_ ?_; (focus (first | omega | (simp <;> omega))); intro hca_0 hfa_0 hla_0); try (refine keepc hba (w.heap.size + 1) ?_ ?_; (focus (first | omega | (simp <;> omega))); intro hca_1 hfa_1 hla_1); try (refine keepc hba (w.heap.size + 1 + 1) ?_ ?_; (focus (first | omega | (simp <;> omega))); intro hca_2 hfa_2 hla_2))
  go_wp2_with fail
  refine (HS.out _).mono ?_
  rintro e wb ⟨rfl, hbb⟩; have hzb := hbb.size; (try simp only [World.size_alloc, World.size_setCell, World.size_drew, World.heap_drewN] at hzb); try (refine keepc hbb (w.heap.size) ?_ ?_; (focus (first | omega | (simp <;> omega))); intro hcb_0 hfb_0 hlb_0); try (refine keepc hbb (w.heap.size + 1) ?_ ?_; (focus (first | omega | (simp <;> omega))); intro hcb_1 hfb_1 hlb_1); try (refine keepc hbb (w.heap.size + 1 + 1) ?_ ?_; (focus (first | omega | (simp <;> omega))); intro hcb_2 hfb_2 hlb_2)
  go_wp2_with fail
  (refine (toCurve_any _ _ _).mono ?_; rintro e wc ⟨rfl, hbc⟩; have hzc := hbc.size; (try simp only [World.size_alloc, World.size_setCell, World.size_drew, World.heap_drewN] at hzc); try (refine keepc hbc (w.heap.size) ?_ ?_; (focus (first | omega | (simp <;> omega))); intro hcc_0 hfc_0 hlc_0); try (refine keepc hbc (w.heap.size + 1) ?_ ?_; (focus (first | omega | (simp <;> omega))); intro hcc_1 hfc_1 hlc_1); try (refine keepc hbc (w.heap.size + 1 + 1) ?_ ?_; (focus (first | omega | (simp <;> omega))); intro hcc_2 hfc_2 hlc_2))
  go_wp2_with fail
  refine (HI.out _).mono ?_
  rintro e wd ⟨rfl, hbd⟩; have hzd := hbd.size; (try simp only [World.size_alloc, World.size_setCell, World.size_drew, World.heap_drewN] at hzd); try (refine keepc hbd (w.heap.size) ?_ ?_; (focus (first | omega | (simp <;> omega))); intro hcd_0 hfd_0 hld_0); try (refine keepc hbd (w.heap.size + 1) ?_ ?_; (focus (first | omega | (simp <;> omega))); intro hcd_1 hfd_1 hld_1); try (refine keepc hbd (w.heap.size + 1 + 1) ?_ ?_; (focus (first | omega | (simp <;> omega))); intro hcd_2 hfd_2 hld_2)
  go_wp2
  go_ret
  exact gives rfl (by repeat' (first | (with_reducible exact Below.refl _ _) | (with_reducible assumption) | (with_reducible refine Below.alloc ?_ ?_ _) | (with_reducible refine Below.setCell ?_ ?_ _) | (with_reducible refine Below.drew ?_) | (with_reducible refine below_drewN ?_ _) | (apply bthen2; (with_reducible assumption)) | go_size))

end Go.Proofs.Ytngnnkbgiligaaa
