import Derived.Test.YtjgdajeoeagggaaGreatYPtV
import Derived.Test.YtjgdajeoeagggaaGreatYRegX
import Derived.Deep.Strs
set_option linter.unusedSimpArgs false
set_option linter.unusedVariables false
namespace Go.Proofs.YtjgdajeoeagggaaGreat
open Go.RowKit
/-! ### is a list the torsion points' group? -/
theorem wpAnyX_skip {P : Program} {Q : Exit → Act → World → Prop} {md : Region.Mode} {S : World → Prop} {D : Nat → Bool} {l : List Oper} {oi : Oper} {r : List Oper} {fuel : Nat} {listed : Array Bool} {a : Act} {w : World} (i : Nat) (hi : l.drop i = oi :: r)
    (hs : Region.noSelect l.toArray = true) (hf : Region.free md l.toArray listed i = true) (hr : (Region.ready md l.toArray listed).contains i = true) (hd : Region.demands md l.toArray D i = true) (hc : closedB md l.toArray listed = true)
    (hQ : ∀ c a w, Q (.panic c) (a.put oi.dst undef) w → Q (.panic c) a w) (hw : Region.wanted oi (yielded l.toArray a.tmps) = false) (hS : S w)
    (h : wpAnyX P md l.toArray Q S D fuel (listed.setIfInBounds i true) (a.put oi.dst undef) w) : wpAnyX P md l.toArray Q S D (fuel + 1) listed a w :=
  wpAnyX_first (drop_get hi) (Region.noSelect_spec hs) hQ (demands_spec hd) fuel listed a w (closed_spec hc) (Region.free_spec (drop_get hi) hf) (by simpa using hr) (Or.inr ⟨hw, rfl⟩) hS h
theorem wanted_no {b : Bool} {A B : Prop} (h : b = false) : (if b = true then A else B) = B := by rw [h]; exact if_neg (by simp)
def orI : List Int → Int
  | [] => 0
  | x :: xs => if x = 0 then orI xs else x
theorem orI_drop {xs : List Int} {k : Nat} (h : k < xs.length) : orI (xs.drop k) = if xs.getD k 0 = 0 then orI (xs.drop (k + 1)) else xs.getD k 0 := by
  rw [List.drop_eq_getElem_cons h]
  have : xs.getD k 0 = xs[k] := by simp [List.getD, h]
  rw [this]; rfl
theorem ints_made3 (W : World) (a b c : Int) (T : TypeId) : Ints (W.alloc (Obj.cells #[.int .i64 a, .int .i64 b, .int .i64 c] T)) (.slice (some ⟨W.heap.size, 0, none⟩) 3 3) [a, b, c] := by
  refine .inr ⟨W.heap.size, 0, 3, 3, rfl, rfl, by omega, by omega, by decide, by simp, fun i hi => ?_⟩
  match i, hi with
  | 0, _ => simp
  | 1, _ => simp
  | 2, _ => simp
theorem ints_made3d (W : World) (a b c : Int) (T : TypeId) : Ints (W.alloc (Obj.cells #[.int .i64 a, .int .i64 b, .int .i64 c] T)).drew (.slice (some ⟨W.heap.size, 0, none⟩) 3 3) [a, b, c] := (ints_made3 W a b c T).below (Below.drew (Below.refl _ _))
set_option maxHeartbeats 1000000 in
theorem cmpOr_any (s : Value) (xs : List Int) (w : World) (hx : Ints w s xs) : Calls Tryz.prog 129 #[s] w (Same (.int .i64 (orI xs)) w) := by
  have hsh : ∃ a cap, s = .slice a xs.length cap ∧ xs.length ≤ 9223372036854775807 ∧ ∀ i, i < xs.length → ∃ b off, a = some ⟨b, off, none⟩ ∧ b < w.heap.size ∧ w.cell? ⟨b, off + i, none⟩ = some (.int .i64 (xs.getD i 0)) := by
    rcases hx with ⟨a, cap, rfl, rfl⟩ | ⟨b, off, len, cap, rfl, rfl, h0, hc, hm, hbl, hcell⟩
    · exact ⟨a, cap, rfl, by simp, fun i h => by simp at h⟩
    · exact ⟨_, cap, rfl, by unfold maxLen at hm; omega, fun i h => ⟨b, off, rfl, hbl, hcell i h⟩⟩
  obtain ⟨a, cap, rfl, hlen, hcell⟩ := hsh
  have HC := Lib.hid hcell
  have HD := Lib.hid (fun k (h : k < xs.length) => orI_drop h)
  obtain ⟨R, hR⟩ : ∃ R, orI xs = R := ⟨_, rfl⟩
  rw [hR]
  have H0 := Lib.hid (show orI (xs.drop 0) = R from by rw [List.drop_zero, hR])
  have HE := Lib.hid (show orI (xs.drop xs.length) = 0 from by rw [List.drop_length]; rfl)
  clear hcell hx hR
  generalize hF : (fun k => orI (xs.drop k)) = F at *
  have HF := Lib.hid (show ∀ k, orI (xs.drop k) = F k from fun k => by rw [← hF])
  clear hF
  go_enter Tryz.func129, Tryz.ntmps129
  go_wp2_with fail
  go_loop [8] (fun v8 => ∃ k : Nat, k ≤ xs.length ∧ v8 = .int .i64 k ∧ Hid (F k = R)) (fun v8 => xs.length - (intOf v8).toNat)
  case atStart => exact ⟨0, by omega, rfl, Lib.hid (by rw [← HF.out]; exact H0.out)⟩
  case round =>
    obtain ⟨k, hk, rfl, HK⟩ := hrel
    by_cases hlt : k < xs.length
    · obtain ⟨b, off, rfl, hbl, hc⟩ := HC.out k hlt
      have hd := HD.out k hlt
      rw [HF.out, HF.out, HK.out] at hd
      have hlt' : (k : Int) < (xs.length : Int) := by omega
      clear H0 HE HC HD HF
      generalize xs.getD k 0 = x at *
      by_cases hx0 : x = 0
      · rw [if_pos hx0] at hd
        have HN := Lib.hid hd.symm
        subst hx0
        clear hd
        go_wp2_with fail
        go_round
        case rel => exact ⟨k + 1, by omega, by go_num, HN⟩
        case measure => simp [intOf]; omega
      · rw [if_neg hx0] at hd
        have HN := Lib.hid hd
        have q : (x == 0) = false := by simpa using hx0
        clear hd
        go_wp2_with fail
        go_ret
        exact same (vint HN.out.symm)
    · obtain rfl : k = xs.length := by omega
      have HN := Lib.hid (show R = 0 from by rw [← HK.out, ← HF.out]; exact HE.out)
      clear H0 HE HC HD HF HK
      go_wp2_with fail
      go_ret
      exact same (vint HN.out.symm)
def cpI (p q : P3) : Int := orI [cmpI (min p.2.2 1) (min q.2.2 1), cmpI p.1 q.1, cmpI p.2.1 q.2.1]
theorem cmpI_cases (x y : Int) : (x < y ∧ cmpI x y = -1) ∨ (x = y ∧ cmpI x y = 0) ∨ (y < x ∧ cmpI x y = 1) := by
  rcases Int.lt_trichotomy x y with h | h | h
  · exact .inl ⟨h, cmpI_lt h⟩
  · exact .inr (.inl ⟨h, cmpI_eq h⟩)
  · exact .inr (.inr ⟨h, cmpI_gt h⟩)
set_option maxRecDepth 100000 in
set_option maxHeartbeats 4000000 in
theorem comparePoints_any (x y e u v t : Int) (w : World) : Calls Tryz.prog 96 #[.agg #[.int .i64 x, .int .i64 y, .int .i64 e], .agg #[.int .i64 u, .int .i64 v, .int .i64 t]] w (Gives (.int .i64 (cpI (x, y, e) (u, v, t))) w) := by
  have HK := Lib.hid (show cpI (x, y, e) (u, v, t) = orI [cmpI (min e 1) (min t 1), cmpI x u, cmpI y v] from rfl)
  have HC := Lib.hid (fun a b w => cmpCompare_any a b w)
  generalize cpI (x, y, e) (u, v, t) = R at *
  go_enter Tryz.func96, Tryz.ntmps96
  go_upto_region 1 with fail
  refine name_world (fun V0 hV0 => ?_)
  have B1 : Box V0 (w.heap.size) [.int .i64 x, .int .i64 y, .int .i64 e] := by subst hV0; exact box_three (by first | omega | (simp; done) | (simp; omega)) (by simp [go_sem]) (by simp [go_sem]) (by simp [go_sem]) (fun o => by simp [go_sem])
  have B2 : Box V0 (w.heap.size + 1) [.int .i64 u, .int .i64 v, .int .i64 t] := by subst hV0; exact box_three (by first | omega | (simp; done) | (simp; omega)) (by simp [go_sem]) (by simp [go_sem]) (by simp [go_sem]) (fun o => by simp [go_sem])
  have hB : Below w.heap.size w V0 := by subst hV0; exact gr
  clear hV0
  have z0 := B1.2.1 0 _ rfl; have z1 := B1.2.1 1 _ rfl; have z2 := B1.2.1 2 _ rfl; have zl := B1.1
  have y0 := B2.2.1 0 _ rfl; have y1 := B2.2.1 1 _ rfl; have y2 := B2.2.1 2 _ rfl; have yl := B2.1
  go_region_held3 (fun w' => Below V0.heap.size V0 w' ∧ w'.cell? ⟨w.heap.size, 0, none⟩ = some (.int .i64 x) ∧ w'.cell? ⟨w.heap.size, 1, none⟩ = some (.int .i64 y) ∧ w'.cell? ⟨w.heap.size, 2, none⟩ = some (.int .i64 e) ∧ w'.cell? ⟨w.heap.size + 1, 0, none⟩ = some (.int .i64 u) ∧ w'.cell? ⟨w.heap.size + 1, 1, none⟩ = some (.int .i64 v) ∧ w'.cell? ⟨w.heap.size + 1, 2, none⟩ = some (.int .i64 t)) ((refine (fun hbK => And.intro hbK (by exact ⟨(hbK.cell (p := ⟨w.heap.size, 0, none⟩) (by first | assumption | omega | (simp; omega))).trans z0, (hbK.cell (p := ⟨w.heap.size, 1, none⟩) (by first | assumption | omega | (simp; omega))).trans z1, (hbK.cell (p := ⟨w.heap.size, 2, none⟩) (by first | assumption | omega | (simp; omega))).trans z2, (hbK.cell (p := ⟨w.heap.size + 1, 0, none⟩) (by first | assumption | omega | (simp; omega))).trans y0, (hbK.cell (p := ⟨w.heap.size + 1, 1, none⟩) (by first | assumption | omega | (simp; omega))).trans y1, (hbK.cell (p := ⟨w.heap.size + 1, 2, none⟩) (by first | assumption | omega | (simp; omega))).trans y2⟩)) ?_; repeat' (first | (with_reducible first | exact bq1 _ _ | assumption | refine bq2 ?_ ?_ _ | refine bq3 ?_ ?_ _ | refine bq4 ?_ | refine bq5 ?_ _) | (apply bthen2; (with_reducible assumption)) | go_size))) ((first | (go_at_call 130; refine (HC.out _ _ _).mono ?_; rintro e9 wf ⟨rfl, rfl⟩) | (go_at_call 129; refine (cmpOr_any _ [cmpI (min e 1) (min t 1), cmpI x u, cmpI y v] _ ?_).mono ?_; (focus (first | (with_reducible first | exact ints_made3 _ _ _ _ _ | exact ints_made3d _ _ _ _ _))); rintro e9 wg ⟨rfl, rfl⟩)))
  all_goals
    go_wp2
    go_ret
    exact gives (vint HK.out.symm) (by apply bthen hB; repeat' (first | (with_reducible first | exact bq1 _ _ | assumption | refine bq2 ?_ ?_ _ | refine bq3 ?_ ?_ _ | refine bq4 ?_ | refine bq5 ?_ _) | (apply bthen2; (with_reducible assumption)) | go_size))
def befB (p q : P3) : Bool := if p.2.2 = 0 ∨ q.2.2 = 0 then decide (q.2.2 ≠ 0) else if p.1 = q.1 then decide (p.2.1 < q.2.1) else decide (p.1 < q.1)
theorem cp_bef {A B : Int} {p q : P3} (hp : EC.PV A B p) (hq : EC.PV A B q) : befB p q = decide (cpI p q < 0) := by
  have ep : p.2.2 = 0 ∨ 1 ≤ p.2.2 := by
    rcases hp with rfl | ⟨-, -, h, -⟩
    · exact .inl rfl
    · exact .inr h
  have eq : q.2.2 = 0 ∨ 1 ≤ q.2.2 := by
    rcases hq with rfl | ⟨-, -, h, -⟩
    · exact .inl rfl
    · exact .inr h
  have zp : p.2.2 = 0 → p = (0, 0, 0) := PV.zero hp
  have zq : q.2.2 = 0 → q = (0, 0, 0) := PV.zero hq
  unfold befB cpI
  rcases ep with ep | ep
  · obtain rfl := zp ep
    rcases eq with eq | eq
    · obtain rfl := zq eq
      decide
    · rw [if_pos (.inl rfl)]
      have h1 : cmpI (min (0, 0, 0).2.2 1) (min q.2.2 1) = -1 := cmpI_lt (by simp only; omega)
      simp only [orI, h1]
      simp; omega
  · rcases eq with eq | eq
    · obtain rfl := zq eq
      rw [if_pos (.inr rfl)]
      have h1 : cmpI (min p.2.2 1) (min (0, 0, 0).2.2 1) = 1 := cmpI_gt (by simp only; omega)
      simp only [orI, h1]
      simp
    · rw [if_neg (by omega)]
      have h1 : cmpI (min p.2.2 1) (min q.2.2 1) = 0 := cmpI_eq (by omega)
      simp only [orI, h1, if_true]
      rcases cmpI_cases p.1 q.1 with ⟨g, h⟩ | ⟨g, h⟩ | ⟨g, h⟩
      · rw [h, if_neg (by omega)]; simp [g]
      · rw [h, if_pos g]
        rcases cmpI_cases p.2.1 q.2.1 with ⟨g2, h2⟩ | ⟨g2, h2⟩ | ⟨g2, h2⟩
        · rw [h2]; simp [g2]
        · rw [h2]; simp [g2]
        · rw [h2]; simp; omega
      · rw [h, if_neg (by omega)]; simp; omega
def rowB (A : Int) (L : List P3) (i : Nat) : Bool := (i == 0 || befB (L.getD (i - 1) (0, 0, 0)) (L.getD i (0, 0, 0))) && (ordV A (L.getD i (0, 0, 0))).2
def rowsB (A : Int) (L : List P3) (k : Nat) : Bool := (List.range k).all (rowB A L)
theorem rowsB_succ (A : Int) (L : List P3) (k : Nat) : rowsB A L (k + 1) = (rowsB A L k && rowB A L k) := by
  unfold rowsB; rw [List.range_succ, List.all_append]; simp
theorem rowsB_no {A : Int} {L : List P3} {i : Nat} (hi : i < L.length) (h : rowB A L i = false) : rowsB A L L.length = false := by
  rw [Bool.eq_false_iff]
  intro hh
  unfold rowsB at hh
  rw [List.all_eq_true] at hh
  have := hh i (List.mem_range.2 hi)
  rw [h] at this; cases this
def sumB (A : Int) (L : List P3) (p q : P3) : Bool := match EC.sumO A p q with
  | some s => decide (s ∈ L)
  | none => false
def sumsB (A : Int) (L : List P3) (p : P3) (l : List P3) : Bool := l.all (sumB A L p)
def allsB (A : Int) (L : List P3) (l : List P3) : Bool := l.all fun p => sumsB A L p L
def ckB (A : Int) (L : List P3) : Bool := decide ((0, 0, 0) ∈ L) && rowsB A L L.length && allsB A L L
theorem take_all {α : Type} (f : α → Bool) (L : List α) (k : Nat) (p : α) (h : L[k]? = some p) : (L.take (k + 1)).all f = ((L.take k).all f && f p) := by
  have hk : k < L.length := by
    rcases Nat.lt_or_ge k L.length with q | q
    · exact q
    · rw [List.getElem?_eq_none q] at h; cases h
  have e : L[k] = p := by rw [List.getElem?_eq_getElem hk] at h; exact Option.some.inj h
  rw [List.take_succ_eq_append_getElem hk, List.all_append, e]
  simp
theorem all_no {α : Type} {f : α → Bool} {L : List α} {k : Nat} {p : α} (h : L[k]? = some p) (hf : f p = false) : L.all f = false := by
  rw [Bool.eq_false_iff]
  intro hh
  rw [List.all_eq_true] at hh
  have := hh p (List.mem_of_getElem? h)
  rw [hf] at this; cases this
theorem getD_at {L : List P3} {k : Nat} {p : P3} (h : L[k]? = some p) : L.getD k (0, 0, 0) = p := by simp [List.getD, h]
def onB (a b : Int) (p : P3) : Bool := ptB a b p.1 p.2.1 p.2.2
def ckV (a b : Int) (L : List P3) : Value := if (isC a b && decide (L.length ≤ 16) && L.all (onB a b)) = true then .tuple #[.bool (ckB a L), .bool true] else .tuple #[.bool false, .bool false]
theorem onB_PV {a b : Int} {p : P3} (h : onB a b p = true) : EC.PV a b p := (ptB_PV h).2
set_option maxRecDepth 100000 in
set_option maxHeartbeats 8000000 in
theorem checkTorsion_any (A B : Int) (hC : isC A B = true) (L : List P3) (hL : ∀ p ∈ L, EC.PV A B p) (hL2 : L.length ≤ 16) (ca : Option Addr) (cl cc : Nat) (w : World) (hl : PtsR w (.slice ca cl cc) L) :
    Calls Tryz.prog 51 #[.agg #[.int .i64 A, .int .i64 B], .slice ca cl cc] w (Gives (.bool (ckB A L)) w) := by
  obtain ⟨ca', cc', hsl, hml, -⟩ := id hl
  obtain ⟨rfl, rfl, rfl⟩ : ca = ca' ∧ cl = L.length ∧ cc = cc' := by simpa using hsl
  have HL := Lib.hid hl
  have HT := Lib.hid (fun w => torsionPoints_any A B hC w)
  have HA := Lib.hid (fun u v t x y e (h : EC.PV A B (u, v, t)) (h2 : EC.PV A B (x, y, e)) W => addPoints_any A B u v t x y e hC h h2 W)
  have HPV := Lib.hid hL
  have HK := Lib.hid (fun x y e ca cl cc W h => ContainsP_any x y e (tps A B) (by have := tps_len A B; omega) ca cl cc W h)
  have HK2 := Lib.hid (fun x y e ca cl cc W h => ContainsP_any x y e L (by omega) ca cl cc W h)
  have HM := Lib.hid (fun p (hp : EC.PV A B p) => show decide (p ∈ tps A B) = (ordV A p).2 from by rw [Bool.eq_iff_iff, decide_eq_true_eq]; exact mem_tps hC hp)
  have HCP := Lib.hid (fun x y e u v t w => comparePoints_any x y e u v t w)
  have HBF := Lib.hid (fun p q (hp : EC.PV A B p) (hq : EC.PV A B q) => cp_bef hp hq)
  obtain ⟨R, hR⟩ : ∃ R, ckB A L = R := ⟨_, rfl⟩
  rw [hR]
  have HR := Lib.hid hR
  have hRows := Lib.hid (fun k => rowsB_succ A L k)
  clear hsl hl hml hL hR hC
  go_enter Tryz.func51, Tryz.ntmps51
  go_wp2_with fail
  refine (HT.out _).mono ?_
  rintro e9 W1 ⟨ta, tl, tc, rfl, ownt, hba⟩
  have Bk := Box.below (show Box _ w.heap.size [.int .i64 A, .int .i64 B] from box_made2 _ _ _ _) hba
  have hB1 : Below w.heap.size w W1 := bthen2 hba gr
  have PL := HL.out.below hB1
  have PT := ownt.pts
  have hz1 := hB1.size
  clear ownt hba HT HL
  go_wp2_with fail
  go_loopw [16] (fun v16 wr => ∃ k : Nat, v16 = .int .i64 k ∧ k ≤ L.length ∧ Hid (rowsB A L k = true) ∧ Hid (allsB A L (L.take k) = true) ∧ Below W1.heap.size W1 wr) (fun v16 _ => (L.length - intOf v16).toNat)
  case atStart => exact ⟨0, rfl, by omega, Lib.hid rfl, Lib.hid rfl, Below.refl _ _⟩
  case round =>
    obtain ⟨k, rfl, hk, HR1, HR2, hbw⟩ := hrel
    have hzw := hbw.size
    have Bw := Bk.below hbw
    have c0 := Bw.2.1 0 _ rfl; have c1 := Bw.2.1 1 _ rfl; have cl := Bw.1
    have PLr := PL.below hbw; have PTr := PT.below hbw
    by_cases hlt : k < L.length
    · obtain ⟨⟨px, py, pe⟩, hp⟩ : ∃ p, L[k]? = some p := ⟨_, List.getElem?_eq_getElem hlt⟩
      obtain ⟨ca2, cc2, hsl, hml, hcells⟩ := id PLr
      obtain ⟨b9, off, ha, hbl, x0, x1, x2⟩ := hcells k _ hp
      have hca : ca = some ⟨b9, off, none⟩ := by
        have : ca = ca2 := by simpa using congrArg (fun v => match v with | Value.slice a _ _ => a | _ => none) hsl
        rw [this, ha]
      subst hca
      clear hsl
      have hpp := HPV.out (px, py, pe) (List.mem_of_getElem? hp)
      have hlt' : (k : Int) < (L.length : Int) := by omega
      simp only at x0 x1 x2
      have hrs := hRows.out k
      rw [HR1.out, Bool.true_and] at hrs
      have hR := HR.out
      have hat := getD_at hp
      have hmm := HM.out _ hpp
      have HCN := Lib.hid (fun ca cl cc W h => HK.out px py pe ca cl cc W h)
      generalize tps A B = TL at *
      obtain ⟨inT, hin⟩ : ∃ t, decide ((px, py, pe) ∈ TL) = t := ⟨_, rfl⟩
      rw [hin] at hmm HCN
      have hrow : rowB A L k = ((k == 0 || befB (L.getD (k - 1) (0, 0, 0)) (px, py, pe)) && inT) := by unfold rowB; rw [hat, hmm]
      cases hrb : rowB A L k
      · -- the row does not hold
        have HRF := Lib.hid (show R = false from by rw [← hR]; unfold ckB; rw [rowsB_no hlt hrb]; simp)
        rw [hrb] at hrow
        rcases Nat.eq_zero_or_pos k with h0 | h0
        · subst h0
          simp only [Nat.zero_mul, Nat.add_zero] at x0 x1 x2
          rw [show ((0 : Nat) : Int) = 0 from rfl]
          have hin2 : inT = false := by
            cases inT with
            | false => rfl
            | true => simp at hrow
          subst hin2
          clear HR HR1 HR2 HK HK2 HM HCP HBF hRows HA HPV hrs hR hat hmm hrow hrb hin hp
          go_upto_region 5 with fail
          refine name_world (fun V1 hV1 => ?_)
          have hbV : Below wr.heap.size wr V1 := by subst hV1; repeat' (first | (with_reducible first | exact bq1 _ _ | assumption | refine bq2 ?_ ?_ _ | refine bq3 ?_ ?_ _ | refine bq4 ?_ | refine bq5 ?_ _) | (apply bthen2; (with_reducible assumption)) | go_size)
          have Bp1 : Box V1 wr.heap.size [.int .i64 px, .int .i64 py, .int .i64 pe] := by subst hV1; exact box_three (by simp) (by simp [go_sem]) (by simp [go_sem]) (by simp [go_sem]) (fun o => by simp [go_sem])
          have Bc1 := Bw.below hbV
          have PL1 := PLr.below hbV; have PT1 := PTr.below hbV
          have hzV := hbV.size
          have p0 := Bp1.2.1 0 _ rfl; have p1 := Bp1.2.1 1 _ rfl; have p2 := Bp1.2.1 2 _ rfl; have pl := Bp1.1
          clear hV1
          refine wp_region_x (fun w' => Below V1.heap.size V1 w' ∧ w'.cell? ⟨wr.heap.size, 0, none⟩ = some (.int .i64 px) ∧ w'.cell? ⟨wr.heap.size, 1, none⟩ = some (.int .i64 py) ∧ w'.cell? ⟨wr.heap.size, 2, none⟩ = some (.int .i64 pe)) (fun i => decide (i < 18)) (by kernel_rfl) ?_ (fun hHeld => ?_)
          focus ((try dsimp only); (refine (fun hbK => And.intro hbK (by exact ⟨(hbK.cell (p := ⟨wr.heap.size, 0, none⟩) (by first | assumption | omega | (simp; omega))).trans p0, (hbK.cell (p := ⟨wr.heap.size, 1, none⟩) (by first | assumption | omega | (simp; omega))).trans p1, (hbK.cell (p := ⟨wr.heap.size, 2, none⟩) (by first | assumption | omega | (simp; omega))).trans p2⟩)) ?_; repeat' (first | (with_reducible first | exact bq1 _ _ | assumption | refine bq2 ?_ ?_ _ | refine bq3 ?_ ?_ _ | refine bq4 ?_ | refine bq5 ?_ _) | (apply bthen2; (with_reducible assumption)) | go_size)))
          refine wtk (v := ?_) 0 rfl ?_ (by assumption) ?_
          rotate_left
          focus (intro w hSw; (try dsimp only at hSw); go_simp; (try with_reducible rfl))
          (try simp only [Act.put, wz5, wz6, wz7])
          refine wtk (v := ?_) 1 rfl ?_ (by assumption) ?_
          rotate_left
          focus (intro w hSw; (try dsimp only at hSw); go_simp; (try with_reducible rfl))
          (try simp only [Act.put, wz5, wz6, wz7])
          refine wtk (v := ?_) 2 rfl ?_ (by assumption) ?_
          rotate_left
          focus (intro w hSw; (try dsimp only at hSw); go_simp; (try with_reducible rfl))
          (try simp only [Act.put, wz5, wz6, wz7])
          refine wpAnyX_skip 3 rfl (by kernel_rfl) (by kernel_rfl) (by kernel_rfl) (by kernel_rfl) (by kernel_rfl) (fun _ _ _ h => h) (by rfl) (by assumption) ?_
          (try simp only [Act.put, wz5, wz6, wz7])
          refine wpAnyX_skip 4 rfl (by kernel_rfl) (by kernel_rfl) (by kernel_rfl) (by kernel_rfl) (by kernel_rfl) (fun _ _ _ h => h) (by rfl) (by assumption) ?_
          (try simp only [Act.put, wz5, wz6, wz7])
          refine wpAnyX_skip 5 rfl (by kernel_rfl) (by kernel_rfl) (by kernel_rfl) (by kernel_rfl) (by kernel_rfl) (fun _ _ _ h => h) (by rfl) (by assumption) ?_
          (try simp only [Act.put, wz5, wz6, wz7])
          refine wpAnyX_skip 6 rfl (by kernel_rfl) (by kernel_rfl) (by kernel_rfl) (by kernel_rfl) (by kernel_rfl) (fun _ _ _ h => h) (by rfl) (by assumption) ?_
          (try simp only [Act.put, wz5, wz6, wz7])
          refine wpAnyX_skip 7 rfl (by kernel_rfl) (by kernel_rfl) (by kernel_rfl) (by kernel_rfl) (by kernel_rfl) (fun _ _ _ h => h) (by rfl) (by assumption) ?_
          (try simp only [Act.put, wz5, wz6, wz7])
          refine wpAnyX_skip 8 rfl (by kernel_rfl) (by kernel_rfl) (by kernel_rfl) (by kernel_rfl) (by kernel_rfl) (fun _ _ _ h => h) (by rfl) (by assumption) ?_
          (try simp only [Act.put, wz5, wz6, wz7])
          refine wpAnyX_one 9 rfl (by kernel_rfl) (fun K hK => ?_)
          rw [wanted_no (by rfl)]
          refine hK.out _ _ (by assumption) (fun hHeld => ?_)
          clear hK K
          (try simp only [Act.put, wz5, wz6, wz7])
          refine wpAnyX_skip 10 rfl (by kernel_rfl) (by kernel_rfl) (by kernel_rfl) (by kernel_rfl) (by kernel_rfl) (fun _ _ _ h => h) (by rfl) (by assumption) ?_
          (try simp only [Act.put, wz5, wz6, wz7])
          refine wtk (v := ?_) 11 rfl ?_ (by assumption) ?_
          rotate_left
          focus (intro w hSw; (try dsimp only at hSw); go_simp; (try with_reducible rfl))
          (try simp only [Act.put, wz5, wz6, wz7])
          refine wtk (v := ?_) 12 rfl ?_ (by assumption) ?_
          rotate_left
          focus (intro w hSw; (try dsimp only at hSw); go_simp; (try with_reducible rfl))
          (try simp only [Act.put, wz5, wz6, wz7])
          refine wtk (v := ?_) 13 rfl ?_ (by assumption) ?_
          rotate_left
          focus (intro w hSw; (try dsimp only at hSw); go_simp; (try with_reducible rfl))
          (try simp only [Act.put, wz5, wz6, wz7])
          refine wtk (v := ?_) 14 rfl ?_ (by assumption) ?_
          rotate_left
          focus (intro w hSw; (try dsimp only at hSw); go_simp; (try with_reducible rfl))
          (try simp only [Act.put, wz5, wz6, wz7])
          refine wpAnyX_one 15 rfl (by kernel_rfl) (fun K hK => ?_)
          go_simp
          (go_at_call 65; refine (HCN.out _ _ _ _ ?_).mono ?_; (focus (refine PtsR.below PT1 ?_; repeat' (first | (with_reducible first | exact bq1 _ _ | assumption | refine bq2 ?_ ?_ _ | refine bq3 ?_ ?_ _ | refine bq4 ?_ | refine bq5 ?_ _) | (apply bthen2; (with_reducible assumption)) | go_size))); rintro e9 wg ⟨rfl, hbg⟩)
          go_wp2_with fail
          clear hHeld
          refine hK.out _ _ ?_ (fun hHeld => ?_)
          focus ((try dsimp only); (refine (fun hbK => And.intro hbK (by exact ⟨(hbK.cell (p := ⟨wr.heap.size, 0, none⟩) (by first | assumption | omega | (simp; omega))).trans p0, (hbK.cell (p := ⟨wr.heap.size, 1, none⟩) (by first | assumption | omega | (simp; omega))).trans p1, (hbK.cell (p := ⟨wr.heap.size, 2, none⟩) (by first | assumption | omega | (simp; omega))).trans p2⟩)) ?_; repeat' (first | (with_reducible first | exact bq1 _ _ | assumption | refine bq2 ?_ ?_ _ | refine bq3 ?_ ?_ _ | refine bq4 ?_ | refine bq5 ?_ _) | (apply bthen2; (with_reducible assumption)) | go_size)))
          clear hK K
          (try simp only [Act.put, wz5, wz6, wz7])
          refine wtk (v := ?_) 16 rfl ?_ (by assumption) ?_
          rotate_left
          focus (intro w hSw; (try dsimp only at hSw); go_simp; (try with_reducible rfl))
          (try simp only [Act.put, wz5, wz6, wz7])
          refine wtk (v := ?_) 17 rfl ?_ (by assumption) ?_
          rotate_left
          focus (intro w hSw; (try dsimp only at hSw); go_simp; (try with_reducible rfl))
          (try simp only [Act.put, wz5, wz6, wz7])
          refine wpAnyX_done (by kernel_rfl) ?_ _
          refine NoPanic.normal ?_
          go_wp2_with fail
          go_ret
          exact gives (show Value.bool _ = Value.bool R from by rw [HRF.out]) (by apply bthen hB1; apply bthen hbw; apply bthen hbV; repeat' (first | (with_reducible first | exact bq1 _ _ | assumption | refine bq2 ?_ ?_ _ | refine bq3 ?_ ?_ _ | refine bq4 ?_ | refine bq5 ?_ _) | (apply bthen2; (with_reducible assumption)) | go_size))
        · obtain ⟨j, rfl⟩ : ∃ j, k = j + 1 := ⟨k - 1, by omega⟩
          obtain ⟨⟨ux, uy, ue⟩, hu⟩ : ∃ p, L[j]? = some p := ⟨_, List.getElem?_eq_getElem (by omega)⟩
          obtain ⟨b8, off8, ha8, hbl8, y0, y1, y2⟩ := hcells j _ hu
          obtain ⟨rfl, rfl⟩ : b9 = b8 ∧ off = off8 := by rw [ha] at ha8; simpa using ha8
          have hb9 := HBF.out (ux, uy, ue) (px, py, pe) (HPV.out _ (List.mem_of_getElem? hu)) hpp
          have e8 : j + 1 - 1 = j := by omega
          rw [e8, getD_at hu] at hrow
          have hj0 : ((j + 1 == 0) = false) := by simp
          rw [hj0, Bool.false_or] at hrow
          simp only at y0 y1 y2
          clear e8 hj0 ha8
          rw [show ((j + 1 : Nat) : Int) = (j : Int) + 1 from rfl]
          have kwa : IntKind.i64.wrap ((j : Int) + 1 - 1) = (j : Int) := by rw [Int.add_sub_cancel]; exact IntWalk.i64_in _ (by omega)
          have kwb : IntKind.i64.wrap (j : Int) = (j : Int) := IntWalk.i64_in _ (by omega)
          have kwc : (j : Int) < (L.length : Int) := by omega
          have kwd : decide ((0 : Int) < (j : Int) + 1) = true := decide_eq_true (by omega)
          by_cases hc : 0 ≤ cpI (ux, uy, ue) (px, py, pe)
          · have HCC := Lib.hid (fun w => HCP.out ux uy ue px py pe w)
            generalize cpI (ux, uy, ue) (px, py, pe) = cc9 at *
            have kwe : decide (0 ≤ cc9) = true := by simpa using hc
            clear HR HR1 HR2 HK HK2 HM HCP HBF hRows HA HPV hrs hR hat hmm hrow hrb hin hp hb9 hu
            go_upto_region 5 with fail
            refine name_world (fun V1 hV1 => ?_)
            have hbV : Below wr.heap.size wr V1 := by subst hV1; repeat' (first | (with_reducible first | exact bq1 _ _ | assumption | refine bq2 ?_ ?_ _ | refine bq3 ?_ ?_ _ | refine bq4 ?_ | refine bq5 ?_ _) | (apply bthen2; (with_reducible assumption)) | go_size)
            have Bp1 : Box V1 wr.heap.size [.int .i64 px, .int .i64 py, .int .i64 pe] := by subst hV1; exact box_three (by simp) (by simp [go_sem]) (by simp [go_sem]) (by simp [go_sem]) (fun o => by simp [go_sem])
            have Bc1 := Bw.below hbV
            have u0 := (hbV.cell (p := ⟨b9, off + j * 3, none⟩) hbl).trans y0
            have u1 := (hbV.cell (p := ⟨b9, off + j * 3 + 1, none⟩) hbl).trans y1
            have u2 := (hbV.cell (p := ⟨b9, off + j * 3 + 2, none⟩) hbl).trans y2
            have PL1 := PLr.below hbV; have PT1 := PTr.below hbV
            have hzV := hbV.size
            have p0 := Bp1.2.1 0 _ rfl; have p1 := Bp1.2.1 1 _ rfl; have p2 := Bp1.2.1 2 _ rfl; have pl := Bp1.1
            clear hV1
            refine wp_region_x (fun w' => Below V1.heap.size V1 w' ∧ w'.cell? ⟨wr.heap.size, 0, none⟩ = some (.int .i64 px) ∧ w'.cell? ⟨wr.heap.size, 1, none⟩ = some (.int .i64 py) ∧ w'.cell? ⟨wr.heap.size, 2, none⟩ = some (.int .i64 pe) ∧ w'.cell? ⟨b9, off + j * 3, none⟩ = some (.int .i64 ux) ∧ w'.cell? ⟨b9, off + j * 3 + 1, none⟩ = some (.int .i64 uy) ∧ w'.cell? ⟨b9, off + j * 3 + 2, none⟩ = some (.int .i64 ue)) (fun i => decide (i < 18)) (by kernel_rfl) ?_ (fun hHeld => ?_)
            focus ((try dsimp only); (refine (fun hbK => And.intro hbK (by exact ⟨(hbK.cell (p := ⟨wr.heap.size, 0, none⟩) (by first | assumption | omega | (simp; omega))).trans p0, (hbK.cell (p := ⟨wr.heap.size, 1, none⟩) (by first | assumption | omega | (simp; omega))).trans p1, (hbK.cell (p := ⟨wr.heap.size, 2, none⟩) (by first | assumption | omega | (simp; omega))).trans p2, (hbK.cell (p := ⟨b9, off + j * 3, none⟩) (by first | assumption | omega | (simp; omega))).trans u0, (hbK.cell (p := ⟨b9, off + j * 3 + 1, none⟩) (by first | assumption | omega | (simp; omega))).trans u1, (hbK.cell (p := ⟨b9, off + j * 3 + 2, none⟩) (by first | assumption | omega | (simp; omega))).trans u2⟩)) ?_; repeat' (first | (with_reducible first | exact bq1 _ _ | assumption | refine bq2 ?_ ?_ _ | refine bq3 ?_ ?_ _ | refine bq4 ?_ | refine bq5 ?_ _) | (apply bthen2; (with_reducible assumption)) | go_size)))
            refine wtk (v := ?_) 0 rfl ?_ (by assumption) ?_
            rotate_left
            focus (intro w hSw; (try dsimp only at hSw); go_simp; (try with_reducible rfl))
            (try simp only [Act.put, wz5, wz6, wz7])
            refine wtk (v := ?_) 1 rfl ?_ (by assumption) ?_
            rotate_left
            focus (intro w hSw; (try dsimp only at hSw); go_simp; (try with_reducible rfl))
            (try simp only [Act.put, wz5, wz6, wz7])
            refine wtk (v := ?_) 2 rfl ?_ (by assumption) ?_
            rotate_left
            focus (intro w hSw; (try dsimp only at hSw); go_simp; (try with_reducible rfl))
            (try simp only [Act.put, wz5, wz6, wz7])
            refine wtk (v := ?_) 3 rfl ?_ (by assumption) ?_
            rotate_left
            focus (intro w hSw; (try dsimp only at hSw); go_simp; (try with_reducible rfl))
            (try simp only [Act.put, wz5, wz6, wz7])
            refine wtk (v := ?_) 4 rfl ?_ (by assumption) ?_
            rotate_left
            focus (intro w hSw; (try dsimp only at hSw); go_simp; (try with_reducible rfl))
            (try simp only [Act.put, wz5, wz6, wz7])
            refine wtk (v := ?_) 5 rfl ?_ (by assumption) ?_
            rotate_left
            focus (intro w hSw; (try dsimp only at hSw); go_simp; (try with_reducible rfl))
            (try simp only [Act.put, wz5, wz6, wz7])
            refine wtk (v := ?_) 6 rfl ?_ (by assumption) ?_
            rotate_left
            focus (intro w hSw; (try dsimp only at hSw); go_simp; (try with_reducible rfl))
            (try simp only [Act.put, wz5, wz6, wz7])
            refine wtk (v := ?_) 7 rfl ?_ (by assumption) ?_
            rotate_left
            focus (intro w hSw; (try dsimp only at hSw); go_simp; (try with_reducible rfl))
            (try simp only [Act.put, wz5, wz6, wz7])
            refine wtk (v := ?_) 8 rfl ?_ (by assumption) ?_
            rotate_left
            focus (intro w hSw; (try dsimp only at hSw); go_simp; (try with_reducible rfl))
            (try simp only [Act.put, wz5, wz6, wz7])
            refine wpAnyX_one 9 rfl (by kernel_rfl) (fun K hK => ?_)
            go_simp
            (go_at_call 96; refine (HCC.out _).mono ?_; rintro e9 wf ⟨rfl, hbf⟩)
            go_wp2_with fail
            clear hHeld
            refine hK.out _ _ ?_ (fun hHeld => ?_)
            focus ((try dsimp only); (refine (fun hbK => And.intro hbK (by exact ⟨(hbK.cell (p := ⟨wr.heap.size, 0, none⟩) (by first | assumption | omega | (simp; omega))).trans p0, (hbK.cell (p := ⟨wr.heap.size, 1, none⟩) (by first | assumption | omega | (simp; omega))).trans p1, (hbK.cell (p := ⟨wr.heap.size, 2, none⟩) (by first | assumption | omega | (simp; omega))).trans p2, (hbK.cell (p := ⟨b9, off + j * 3, none⟩) (by first | assumption | omega | (simp; omega))).trans u0, (hbK.cell (p := ⟨b9, off + j * 3 + 1, none⟩) (by first | assumption | omega | (simp; omega))).trans u1, (hbK.cell (p := ⟨b9, off + j * 3 + 2, none⟩) (by first | assumption | omega | (simp; omega))).trans u2⟩)) ?_; repeat' (first | (with_reducible first | exact bq1 _ _ | assumption | refine bq2 ?_ ?_ _ | refine bq3 ?_ ?_ _ | refine bq4 ?_ | refine bq5 ?_ _) | (apply bthen2; (with_reducible assumption)) | go_size)))
            clear hK K
            (try simp only [Act.put, wz5, wz6, wz7])
            refine wtk (v := ?_) 10 rfl ?_ (by assumption) ?_
            rotate_left
            focus (intro w hSw; (try dsimp only at hSw); go_simp; (try with_reducible rfl))
            (try simp only [Act.put, wz5, wz6, wz7])
            refine wtk (v := ?_) 11 rfl ?_ (by assumption) ?_
            rotate_left
            focus (intro w hSw; (try dsimp only at hSw); go_simp; (try with_reducible rfl))
            (try simp only [Act.put, wz5, wz6, wz7])
            refine wtk (v := ?_) 12 rfl ?_ (by assumption) ?_
            rotate_left
            focus (intro w hSw; (try dsimp only at hSw); go_simp; (try with_reducible rfl))
            (try simp only [Act.put, wz5, wz6, wz7])
            refine wpAnyX_skip 13 rfl (by kernel_rfl) (by kernel_rfl) (by kernel_rfl) (by kernel_rfl) (by kernel_rfl) (fun _ _ _ h => h) (by rfl) (by assumption) ?_
            (try simp only [Act.put, wz5, wz6, wz7])
            refine wpAnyX_skip 14 rfl (by kernel_rfl) (by kernel_rfl) (by kernel_rfl) (by kernel_rfl) (by kernel_rfl) (fun _ _ _ h => h) (by rfl) (by assumption) ?_
            (try simp only [Act.put, wz5, wz6, wz7])
            refine wpAnyX_one 15 rfl (by kernel_rfl) (fun K hK => ?_)
            rw [wanted_no (by rfl)]
            refine hK.out _ _ (by assumption) (fun hHeld => ?_)
            clear hK K
            (try simp only [Act.put, wz5, wz6, wz7])
            refine wpAnyX_skip 16 rfl (by kernel_rfl) (by kernel_rfl) (by kernel_rfl) (by kernel_rfl) (by kernel_rfl) (fun _ _ _ h => h) (by rfl) (by assumption) ?_
            (try simp only [Act.put, wz5, wz6, wz7])
            refine wtk (v := ?_) 17 rfl ?_ (by assumption) ?_
            rotate_left
            focus (intro w hSw; (try dsimp only at hSw); go_simp; (try with_reducible rfl))
            (try simp only [Act.put, wz5, wz6, wz7])
            refine wpAnyX_done (by kernel_rfl) ?_ _
            refine NoPanic.normal ?_
            go_wp2_with fail
            go_ret
            exact gives (show Value.bool _ = Value.bool R from by rw [HRF.out]) (by apply bthen hB1; apply bthen hbw; apply bthen hbV; repeat' (first | (with_reducible first | exact bq1 _ _ | assumption | refine bq2 ?_ ?_ _ | refine bq3 ?_ ?_ _ | refine bq4 ?_ | refine bq5 ?_ _) | (apply bthen2; (with_reducible assumption)) | go_size))
          · have hin2 : inT = false := by
              rw [hb9, decide_eq_true (show cpI (ux, uy, ue) (px, py, pe) < 0 by omega)] at hrow
              cases inT with
              | false => rfl
              | true => simp at hrow
            subst hin2
            have HCC := Lib.hid (fun w => HCP.out ux uy ue px py pe w)
            generalize cpI (ux, uy, ue) (px, py, pe) = cc9 at *
            have kwe : decide (0 ≤ cc9) = false := by simpa using hc
            clear HR HR1 HR2 HK HK2 HM HCP HBF hRows HA HPV hrs hR hat hmm hrow hrb hin hp hb9 hu
            go_upto_region 5 with fail
            refine name_world (fun V1 hV1 => ?_)
            have hbV : Below wr.heap.size wr V1 := by subst hV1; repeat' (first | (with_reducible first | exact bq1 _ _ | assumption | refine bq2 ?_ ?_ _ | refine bq3 ?_ ?_ _ | refine bq4 ?_ | refine bq5 ?_ _) | (apply bthen2; (with_reducible assumption)) | go_size)
            have Bp1 : Box V1 wr.heap.size [.int .i64 px, .int .i64 py, .int .i64 pe] := by subst hV1; exact box_three (by simp) (by simp [go_sem]) (by simp [go_sem]) (by simp [go_sem]) (fun o => by simp [go_sem])
            have Bc1 := Bw.below hbV
            have u0 := (hbV.cell (p := ⟨b9, off + j * 3, none⟩) hbl).trans y0
            have u1 := (hbV.cell (p := ⟨b9, off + j * 3 + 1, none⟩) hbl).trans y1
            have u2 := (hbV.cell (p := ⟨b9, off + j * 3 + 2, none⟩) hbl).trans y2
            have PL1 := PLr.below hbV; have PT1 := PTr.below hbV
            have hzV := hbV.size
            have p0 := Bp1.2.1 0 _ rfl; have p1 := Bp1.2.1 1 _ rfl; have p2 := Bp1.2.1 2 _ rfl; have pl := Bp1.1
            clear hV1
            refine wp_region_x (fun w' => Below V1.heap.size V1 w' ∧ w'.cell? ⟨wr.heap.size, 0, none⟩ = some (.int .i64 px) ∧ w'.cell? ⟨wr.heap.size, 1, none⟩ = some (.int .i64 py) ∧ w'.cell? ⟨wr.heap.size, 2, none⟩ = some (.int .i64 pe) ∧ w'.cell? ⟨b9, off + j * 3, none⟩ = some (.int .i64 ux) ∧ w'.cell? ⟨b9, off + j * 3 + 1, none⟩ = some (.int .i64 uy) ∧ w'.cell? ⟨b9, off + j * 3 + 2, none⟩ = some (.int .i64 ue)) (fun i => decide (i < 18)) (by kernel_rfl) ?_ (fun hHeld => ?_)
            focus ((try dsimp only); (refine (fun hbK => And.intro hbK (by exact ⟨(hbK.cell (p := ⟨wr.heap.size, 0, none⟩) (by first | assumption | omega | (simp; omega))).trans p0, (hbK.cell (p := ⟨wr.heap.size, 1, none⟩) (by first | assumption | omega | (simp; omega))).trans p1, (hbK.cell (p := ⟨wr.heap.size, 2, none⟩) (by first | assumption | omega | (simp; omega))).trans p2, (hbK.cell (p := ⟨b9, off + j * 3, none⟩) (by first | assumption | omega | (simp; omega))).trans u0, (hbK.cell (p := ⟨b9, off + j * 3 + 1, none⟩) (by first | assumption | omega | (simp; omega))).trans u1, (hbK.cell (p := ⟨b9, off + j * 3 + 2, none⟩) (by first | assumption | omega | (simp; omega))).trans u2⟩)) ?_; repeat' (first | (with_reducible first | exact bq1 _ _ | assumption | refine bq2 ?_ ?_ _ | refine bq3 ?_ ?_ _ | refine bq4 ?_ | refine bq5 ?_ _) | (apply bthen2; (with_reducible assumption)) | go_size)))
            refine wtk (v := ?_) 0 rfl ?_ (by assumption) ?_
            rotate_left
            focus (intro w hSw; (try dsimp only at hSw); go_simp; (try with_reducible rfl))
            (try simp only [Act.put, wz5, wz6, wz7])
            refine wtk (v := ?_) 1 rfl ?_ (by assumption) ?_
            rotate_left
            focus (intro w hSw; (try dsimp only at hSw); go_simp; (try with_reducible rfl))
            (try simp only [Act.put, wz5, wz6, wz7])
            refine wtk (v := ?_) 2 rfl ?_ (by assumption) ?_
            rotate_left
            focus (intro w hSw; (try dsimp only at hSw); go_simp; (try with_reducible rfl))
            (try simp only [Act.put, wz5, wz6, wz7])
            refine wtk (v := ?_) 3 rfl ?_ (by assumption) ?_
            rotate_left
            focus (intro w hSw; (try dsimp only at hSw); go_simp; (try with_reducible rfl))
            (try simp only [Act.put, wz5, wz6, wz7])
            refine wtk (v := ?_) 4 rfl ?_ (by assumption) ?_
            rotate_left
            focus (intro w hSw; (try dsimp only at hSw); go_simp; (try with_reducible rfl))
            (try simp only [Act.put, wz5, wz6, wz7])
            refine wtk (v := ?_) 5 rfl ?_ (by assumption) ?_
            rotate_left
            focus (intro w hSw; (try dsimp only at hSw); go_simp; (try with_reducible rfl))
            (try simp only [Act.put, wz5, wz6, wz7])
            refine wtk (v := ?_) 6 rfl ?_ (by assumption) ?_
            rotate_left
            focus (intro w hSw; (try dsimp only at hSw); go_simp; (try with_reducible rfl))
            (try simp only [Act.put, wz5, wz6, wz7])
            refine wtk (v := ?_) 7 rfl ?_ (by assumption) ?_
            rotate_left
            focus (intro w hSw; (try dsimp only at hSw); go_simp; (try with_reducible rfl))
            (try simp only [Act.put, wz5, wz6, wz7])
            refine wtk (v := ?_) 8 rfl ?_ (by assumption) ?_
            rotate_left
            focus (intro w hSw; (try dsimp only at hSw); go_simp; (try with_reducible rfl))
            (try simp only [Act.put, wz5, wz6, wz7])
            refine wpAnyX_one 9 rfl (by kernel_rfl) (fun K hK => ?_)
            go_simp
            (go_at_call 96; refine (HCC.out _).mono ?_; rintro e9 wf ⟨rfl, hbf⟩)
            go_wp2_with fail
            clear hHeld
            refine hK.out _ _ ?_ (fun hHeld => ?_)
            focus ((try dsimp only); (refine (fun hbK => And.intro hbK (by exact ⟨(hbK.cell (p := ⟨wr.heap.size, 0, none⟩) (by first | assumption | omega | (simp; omega))).trans p0, (hbK.cell (p := ⟨wr.heap.size, 1, none⟩) (by first | assumption | omega | (simp; omega))).trans p1, (hbK.cell (p := ⟨wr.heap.size, 2, none⟩) (by first | assumption | omega | (simp; omega))).trans p2, (hbK.cell (p := ⟨b9, off + j * 3, none⟩) (by first | assumption | omega | (simp; omega))).trans u0, (hbK.cell (p := ⟨b9, off + j * 3 + 1, none⟩) (by first | assumption | omega | (simp; omega))).trans u1, (hbK.cell (p := ⟨b9, off + j * 3 + 2, none⟩) (by first | assumption | omega | (simp; omega))).trans u2⟩)) ?_; repeat' (first | (with_reducible first | exact bq1 _ _ | assumption | refine bq2 ?_ ?_ _ | refine bq3 ?_ ?_ _ | refine bq4 ?_ | refine bq5 ?_ _) | (apply bthen2; (with_reducible assumption)) | go_size)))
            clear hK K
            (try simp only [Act.put, wz5, wz6, wz7])
            refine wtk (v := ?_) 10 rfl ?_ (by assumption) ?_
            rotate_left
            focus (intro w hSw; (try dsimp only at hSw); go_simp; (try with_reducible rfl))
            (try simp only [Act.put, wz5, wz6, wz7])
            refine wtk (v := ?_) 11 rfl ?_ (by assumption) ?_
            rotate_left
            focus (intro w hSw; (try dsimp only at hSw); go_simp; (try with_reducible rfl))
            (try simp only [Act.put, wz5, wz6, wz7])
            refine wtk (v := ?_) 12 rfl ?_ (by assumption) ?_
            rotate_left
            focus (intro w hSw; (try dsimp only at hSw); go_simp; (try with_reducible rfl))
            (try simp only [Act.put, wz5, wz6, wz7])
            refine wtk (v := ?_) 13 rfl ?_ (by assumption) ?_
            rotate_left
            focus (intro w hSw; (try dsimp only at hSw); go_simp; (try with_reducible rfl))
            (try simp only [Act.put, wz5, wz6, wz7])
            refine wtk (v := ?_) 14 rfl ?_ (by assumption) ?_
            rotate_left
            focus (intro w hSw; (try dsimp only at hSw); go_simp; (try with_reducible rfl))
            (try simp only [Act.put, wz5, wz6, wz7])
            refine wpAnyX_one 15 rfl (by kernel_rfl) (fun K hK => ?_)
            go_simp
            (go_at_call 65; refine (HCN.out _ _ _ _ ?_).mono ?_; (focus (refine PtsR.below PT1 ?_; repeat' (first | (with_reducible first | exact bq1 _ _ | assumption | refine bq2 ?_ ?_ _ | refine bq3 ?_ ?_ _ | refine bq4 ?_ | refine bq5 ?_ _) | (apply bthen2; (with_reducible assumption)) | go_size))); rintro e9 wg ⟨rfl, hbg⟩)
            go_wp2_with fail
            clear hHeld
            refine hK.out _ _ ?_ (fun hHeld => ?_)
            focus ((try dsimp only); (refine (fun hbK => And.intro hbK (by exact ⟨(hbK.cell (p := ⟨wr.heap.size, 0, none⟩) (by first | assumption | omega | (simp; omega))).trans p0, (hbK.cell (p := ⟨wr.heap.size, 1, none⟩) (by first | assumption | omega | (simp; omega))).trans p1, (hbK.cell (p := ⟨wr.heap.size, 2, none⟩) (by first | assumption | omega | (simp; omega))).trans p2, (hbK.cell (p := ⟨b9, off + j * 3, none⟩) (by first | assumption | omega | (simp; omega))).trans u0, (hbK.cell (p := ⟨b9, off + j * 3 + 1, none⟩) (by first | assumption | omega | (simp; omega))).trans u1, (hbK.cell (p := ⟨b9, off + j * 3 + 2, none⟩) (by first | assumption | omega | (simp; omega))).trans u2⟩)) ?_; repeat' (first | (with_reducible first | exact bq1 _ _ | assumption | refine bq2 ?_ ?_ _ | refine bq3 ?_ ?_ _ | refine bq4 ?_ | refine bq5 ?_ _) | (apply bthen2; (with_reducible assumption)) | go_size)))
            clear hK K
            (try simp only [Act.put, wz5, wz6, wz7])
            refine wtk (v := ?_) 16 rfl ?_ (by assumption) ?_
            rotate_left
            focus (intro w hSw; (try dsimp only at hSw); go_simp; (try with_reducible rfl))
            (try simp only [Act.put, wz5, wz6, wz7])
            refine wtk (v := ?_) 17 rfl ?_ (by assumption) ?_
            rotate_left
            focus (intro w hSw; (try dsimp only at hSw); go_simp; (try with_reducible rfl))
            (try simp only [Act.put, wz5, wz6, wz7])
            refine wpAnyX_done (by kernel_rfl) ?_ _
            refine NoPanic.normal ?_
            go_wp2_with fail
            go_ret
            exact gives (show Value.bool _ = Value.bool R from by rw [HRF.out]) (by apply bthen hB1; apply bthen hbw; apply bthen hbV; repeat' (first | (with_reducible first | exact bq1 _ _ | assumption | refine bq2 ?_ ?_ _ | refine bq3 ?_ ?_ _ | refine bq4 ?_ | refine bq5 ?_ _) | (apply bthen2; (with_reducible assumption)) | go_size))
      · rw [hrb] at hrow hrs
        have hin2 : inT = true := by
          cases inT with
          | true => rfl
          | false => simp at hrow
        subst hin2
        have HRS := Lib.hid hrs
        have HNX := Lib.hid (take_all (fun p => sumsB A L p L) L k (px, py, pe) hp)
        have HNO := Lib.hid (show sumsB A L (px, py, pe) L = false → R = false from fun h => by
          rw [← hR]; unfold ckB allsB; rw [all_no hp h]; simp)
        rcases Nat.eq_zero_or_pos k with h0 | h0
        case' inl =>
          subst h0
          simp only [Nat.zero_mul, Nat.add_zero] at x0 x1 x2
          rw [show ((0 : Nat) : Int) = 0 from rfl]
          clear HR HR1 HK HM HCP HBF hRows hrs hR hat hmm hrow hrb hin hp
          go_upto_region 5 with fail
          refine name_world (fun V1 hV1 => ?_)
          have hbV : Below wr.heap.size wr V1 := by subst hV1; repeat' (first | (with_reducible first | exact bq1 _ _ | assumption | refine bq2 ?_ ?_ _ | refine bq3 ?_ ?_ _ | refine bq4 ?_ | refine bq5 ?_ _) | (apply bthen2; (with_reducible assumption)) | go_size)
          have Bp1 : Box V1 wr.heap.size [.int .i64 px, .int .i64 py, .int .i64 pe] := by subst hV1; exact box_three (by simp) (by simp [go_sem]) (by simp [go_sem]) (by simp [go_sem]) (fun o => by simp [go_sem])
          have Bc1 := Bw.below hbV
          have PL1 := PLr.below hbV; have PT1 := PTr.below hbV
          have hzV := hbV.size
          have p0 := Bp1.2.1 0 _ rfl; have p1 := Bp1.2.1 1 _ rfl; have p2 := Bp1.2.1 2 _ rfl; have pl := Bp1.1
          clear hV1
          refine wp_region_x (fun w' => Below V1.heap.size V1 w' ∧ w'.cell? ⟨wr.heap.size, 0, none⟩ = some (.int .i64 px) ∧ w'.cell? ⟨wr.heap.size, 1, none⟩ = some (.int .i64 py) ∧ w'.cell? ⟨wr.heap.size, 2, none⟩ = some (.int .i64 pe)) (fun i => decide (i < 18)) (by kernel_rfl) ?_ (fun hHeld => ?_)
          focus ((try dsimp only); (refine (fun hbK => And.intro hbK (by exact ⟨(hbK.cell (p := ⟨wr.heap.size, 0, none⟩) (by first | assumption | omega | (simp; omega))).trans p0, (hbK.cell (p := ⟨wr.heap.size, 1, none⟩) (by first | assumption | omega | (simp; omega))).trans p1, (hbK.cell (p := ⟨wr.heap.size, 2, none⟩) (by first | assumption | omega | (simp; omega))).trans p2⟩)) ?_; repeat' (first | (with_reducible first | exact bq1 _ _ | assumption | refine bq2 ?_ ?_ _ | refine bq3 ?_ ?_ _ | refine bq4 ?_ | refine bq5 ?_ _) | (apply bthen2; (with_reducible assumption)) | go_size)))
          refine wtk (v := ?_) 0 rfl ?_ (by assumption) ?_
          rotate_left
          focus (intro w hSw; (try dsimp only at hSw); go_simp; (try with_reducible rfl))
          (try simp only [Act.put, wz5, wz6, wz7])
          refine wtk (v := ?_) 1 rfl ?_ (by assumption) ?_
          rotate_left
          focus (intro w hSw; (try dsimp only at hSw); go_simp; (try with_reducible rfl))
          (try simp only [Act.put, wz5, wz6, wz7])
          refine wtk (v := ?_) 2 rfl ?_ (by assumption) ?_
          rotate_left
          focus (intro w hSw; (try dsimp only at hSw); go_simp; (try with_reducible rfl))
          (try simp only [Act.put, wz5, wz6, wz7])
          refine wpAnyX_skip 3 rfl (by kernel_rfl) (by kernel_rfl) (by kernel_rfl) (by kernel_rfl) (by kernel_rfl) (fun _ _ _ h => h) (by rfl) (by assumption) ?_
          (try simp only [Act.put, wz5, wz6, wz7])
          refine wpAnyX_skip 4 rfl (by kernel_rfl) (by kernel_rfl) (by kernel_rfl) (by kernel_rfl) (by kernel_rfl) (fun _ _ _ h => h) (by rfl) (by assumption) ?_
          (try simp only [Act.put, wz5, wz6, wz7])
          refine wpAnyX_skip 5 rfl (by kernel_rfl) (by kernel_rfl) (by kernel_rfl) (by kernel_rfl) (by kernel_rfl) (fun _ _ _ h => h) (by rfl) (by assumption) ?_
          (try simp only [Act.put, wz5, wz6, wz7])
          refine wpAnyX_skip 6 rfl (by kernel_rfl) (by kernel_rfl) (by kernel_rfl) (by kernel_rfl) (by kernel_rfl) (fun _ _ _ h => h) (by rfl) (by assumption) ?_
          (try simp only [Act.put, wz5, wz6, wz7])
          refine wpAnyX_skip 7 rfl (by kernel_rfl) (by kernel_rfl) (by kernel_rfl) (by kernel_rfl) (by kernel_rfl) (fun _ _ _ h => h) (by rfl) (by assumption) ?_
          (try simp only [Act.put, wz5, wz6, wz7])
          refine wpAnyX_skip 8 rfl (by kernel_rfl) (by kernel_rfl) (by kernel_rfl) (by kernel_rfl) (by kernel_rfl) (fun _ _ _ h => h) (by rfl) (by assumption) ?_
          (try simp only [Act.put, wz5, wz6, wz7])
          refine wpAnyX_one 9 rfl (by kernel_rfl) (fun K hK => ?_)
          rw [wanted_no (by rfl)]
          refine hK.out _ _ (by assumption) (fun hHeld => ?_)
          clear hK K
          (try simp only [Act.put, wz5, wz6, wz7])
          refine wpAnyX_skip 10 rfl (by kernel_rfl) (by kernel_rfl) (by kernel_rfl) (by kernel_rfl) (by kernel_rfl) (fun _ _ _ h => h) (by rfl) (by assumption) ?_
          (try simp only [Act.put, wz5, wz6, wz7])
          refine wtk (v := ?_) 11 rfl ?_ (by assumption) ?_
          rotate_left
          focus (intro w hSw; (try dsimp only at hSw); go_simp; (try with_reducible rfl))
          (try simp only [Act.put, wz5, wz6, wz7])
          refine wtk (v := ?_) 12 rfl ?_ (by assumption) ?_
          rotate_left
          focus (intro w hSw; (try dsimp only at hSw); go_simp; (try with_reducible rfl))
          (try simp only [Act.put, wz5, wz6, wz7])
          refine wtk (v := ?_) 13 rfl ?_ (by assumption) ?_
          rotate_left
          focus (intro w hSw; (try dsimp only at hSw); go_simp; (try with_reducible rfl))
          (try simp only [Act.put, wz5, wz6, wz7])
          refine wtk (v := ?_) 14 rfl ?_ (by assumption) ?_
          rotate_left
          focus (intro w hSw; (try dsimp only at hSw); go_simp; (try with_reducible rfl))
          (try simp only [Act.put, wz5, wz6, wz7])
          refine wpAnyX_one 15 rfl (by kernel_rfl) (fun K hK => ?_)
          go_simp
          (go_at_call 65; refine (HCN.out _ _ _ _ ?_).mono ?_; (focus (refine PtsR.below PT1 ?_; repeat' (first | (with_reducible first | exact bq1 _ _ | assumption | refine bq2 ?_ ?_ _ | refine bq3 ?_ ?_ _ | refine bq4 ?_ | refine bq5 ?_ _) | (apply bthen2; (with_reducible assumption)) | go_size))); rintro e9 wg ⟨rfl, hbg⟩)
          go_wp2_with fail
          clear hHeld
          refine hK.out _ _ ?_ (fun hHeld => ?_)
          focus ((try dsimp only); (refine (fun hbK => And.intro hbK (by exact ⟨(hbK.cell (p := ⟨wr.heap.size, 0, none⟩) (by first | assumption | omega | (simp; omega))).trans p0, (hbK.cell (p := ⟨wr.heap.size, 1, none⟩) (by first | assumption | omega | (simp; omega))).trans p1, (hbK.cell (p := ⟨wr.heap.size, 2, none⟩) (by first | assumption | omega | (simp; omega))).trans p2⟩)) ?_; repeat' (first | (with_reducible first | exact bq1 _ _ | assumption | refine bq2 ?_ ?_ _ | refine bq3 ?_ ?_ _ | refine bq4 ?_ | refine bq5 ?_ _) | (apply bthen2; (with_reducible assumption)) | go_size)))
          clear hK K
          (try simp only [Act.put, wz5, wz6, wz7])
          refine wtk (v := ?_) 16 rfl ?_ (by assumption) ?_
          rotate_left
          focus (intro w hSw; (try dsimp only at hSw); go_simp; (try with_reducible rfl))
          (try simp only [Act.put, wz5, wz6, wz7])
          refine wtk (v := ?_) 17 rfl ?_ (by assumption) ?_
          rotate_left
          focus (intro w hSw; (try dsimp only at hSw); go_simp; (try with_reducible rfl))
          (try simp only [Act.put, wz5, wz6, wz7])
          refine wpAnyX_done (by kernel_rfl) ?_ _
          refine NoPanic.normal ?_
        case' inr =>
          obtain ⟨j, rfl⟩ : ∃ j, k = j + 1 := ⟨k - 1, by omega⟩
          obtain ⟨⟨ux, uy, ue⟩, hu⟩ : ∃ p, L[j]? = some p := ⟨_, List.getElem?_eq_getElem (by omega)⟩
          obtain ⟨b8, off8, ha8, hbl8, y0, y1, y2⟩ := hcells j _ hu
          obtain ⟨rfl, rfl⟩ : b9 = b8 ∧ off = off8 := by rw [ha] at ha8; simpa using ha8
          have hb9 := HBF.out (ux, uy, ue) (px, py, pe) (HPV.out _ (List.mem_of_getElem? hu)) hpp
          have e8 : j + 1 - 1 = j := by omega
          rw [e8, getD_at hu] at hrow
          have hj0 : ((j + 1 == 0) = false) := by simp
          rw [hj0, Bool.false_or] at hrow
          simp only at y0 y1 y2
          clear e8 hj0 ha8
          rw [show ((j + 1 : Nat) : Int) = (j : Int) + 1 from rfl]
          have kwa : IntKind.i64.wrap ((j : Int) + 1 - 1) = (j : Int) := by rw [Int.add_sub_cancel]; exact IntWalk.i64_in _ (by omega)
          have kwb : IntKind.i64.wrap (j : Int) = (j : Int) := IntWalk.i64_in _ (by omega)
          have kwc : (j : Int) < (L.length : Int) := by omega
          have kwd : decide ((0 : Int) < (j : Int) + 1) = true := decide_eq_true (by omega)
          have hc : ¬ 0 ≤ cpI (ux, uy, ue) (px, py, pe) := by
            intro h
            rw [hb9, decide_eq_false (show ¬ cpI (ux, uy, ue) (px, py, pe) < 0 by omega)] at hrow
            simp at hrow
          have HCC := Lib.hid (fun w => HCP.out ux uy ue px py pe w)
          generalize cpI (ux, uy, ue) (px, py, pe) = cc9 at *
          have kwe : decide (0 ≤ cc9) = false := by simpa using hc
          clear HR HR1 HK HM HCP HBF hRows hrs hR hat hmm hrow hrb hin hp hb9 hu
          go_upto_region 5 with fail
          refine name_world (fun V1 hV1 => ?_)
          have hbV : Below wr.heap.size wr V1 := by subst hV1; repeat' (first | (with_reducible first | exact bq1 _ _ | assumption | refine bq2 ?_ ?_ _ | refine bq3 ?_ ?_ _ | refine bq4 ?_ | refine bq5 ?_ _) | (apply bthen2; (with_reducible assumption)) | go_size)
          have Bp1 : Box V1 wr.heap.size [.int .i64 px, .int .i64 py, .int .i64 pe] := by subst hV1; exact box_three (by simp) (by simp [go_sem]) (by simp [go_sem]) (by simp [go_sem]) (fun o => by simp [go_sem])
          have Bc1 := Bw.below hbV
          have u0 := (hbV.cell (p := ⟨b9, off + j * 3, none⟩) hbl).trans y0
          have u1 := (hbV.cell (p := ⟨b9, off + j * 3 + 1, none⟩) hbl).trans y1
          have u2 := (hbV.cell (p := ⟨b9, off + j * 3 + 2, none⟩) hbl).trans y2
          have PL1 := PLr.below hbV; have PT1 := PTr.below hbV
          have hzV := hbV.size
          have p0 := Bp1.2.1 0 _ rfl; have p1 := Bp1.2.1 1 _ rfl; have p2 := Bp1.2.1 2 _ rfl; have pl := Bp1.1
          clear hV1
          refine wp_region_x (fun w' => Below V1.heap.size V1 w' ∧ w'.cell? ⟨wr.heap.size, 0, none⟩ = some (.int .i64 px) ∧ w'.cell? ⟨wr.heap.size, 1, none⟩ = some (.int .i64 py) ∧ w'.cell? ⟨wr.heap.size, 2, none⟩ = some (.int .i64 pe) ∧ w'.cell? ⟨b9, off + j * 3, none⟩ = some (.int .i64 ux) ∧ w'.cell? ⟨b9, off + j * 3 + 1, none⟩ = some (.int .i64 uy) ∧ w'.cell? ⟨b9, off + j * 3 + 2, none⟩ = some (.int .i64 ue)) (fun i => decide (i < 18)) (by kernel_rfl) ?_ (fun hHeld => ?_)
          focus ((try dsimp only); (refine (fun hbK => And.intro hbK (by exact ⟨(hbK.cell (p := ⟨wr.heap.size, 0, none⟩) (by first | assumption | omega | (simp; omega))).trans p0, (hbK.cell (p := ⟨wr.heap.size, 1, none⟩) (by first | assumption | omega | (simp; omega))).trans p1, (hbK.cell (p := ⟨wr.heap.size, 2, none⟩) (by first | assumption | omega | (simp; omega))).trans p2, (hbK.cell (p := ⟨b9, off + j * 3, none⟩) (by first | assumption | omega | (simp; omega))).trans u0, (hbK.cell (p := ⟨b9, off + j * 3 + 1, none⟩) (by first | assumption | omega | (simp; omega))).trans u1, (hbK.cell (p := ⟨b9, off + j * 3 + 2, none⟩) (by first | assumption | omega | (simp; omega))).trans u2⟩)) ?_; repeat' (first | (with_reducible first | exact bq1 _ _ | assumption | refine bq2 ?_ ?_ _ | refine bq3 ?_ ?_ _ | refine bq4 ?_ | refine bq5 ?_ _) | (apply bthen2; (with_reducible assumption)) | go_size)))
          refine wtk (v := ?_) 0 rfl ?_ (by assumption) ?_
          rotate_left
          focus (intro w hSw; (try dsimp only at hSw); go_simp; (try with_reducible rfl))
          (try simp only [Act.put, wz5, wz6, wz7])
          refine wtk (v := ?_) 1 rfl ?_ (by assumption) ?_
          rotate_left
          focus (intro w hSw; (try dsimp only at hSw); go_simp; (try with_reducible rfl))
          (try simp only [Act.put, wz5, wz6, wz7])
          refine wtk (v := ?_) 2 rfl ?_ (by assumption) ?_
          rotate_left
          focus (intro w hSw; (try dsimp only at hSw); go_simp; (try with_reducible rfl))
          (try simp only [Act.put, wz5, wz6, wz7])
          refine wtk (v := ?_) 3 rfl ?_ (by assumption) ?_
          rotate_left
          focus (intro w hSw; (try dsimp only at hSw); go_simp; (try with_reducible rfl))
          (try simp only [Act.put, wz5, wz6, wz7])
          refine wtk (v := ?_) 4 rfl ?_ (by assumption) ?_
          rotate_left
          focus (intro w hSw; (try dsimp only at hSw); go_simp; (try with_reducible rfl))
          (try simp only [Act.put, wz5, wz6, wz7])
          refine wtk (v := ?_) 5 rfl ?_ (by assumption) ?_
          rotate_left
          focus (intro w hSw; (try dsimp only at hSw); go_simp; (try with_reducible rfl))
          (try simp only [Act.put, wz5, wz6, wz7])
          refine wtk (v := ?_) 6 rfl ?_ (by assumption) ?_
          rotate_left
          focus (intro w hSw; (try dsimp only at hSw); go_simp; (try with_reducible rfl))
          (try simp only [Act.put, wz5, wz6, wz7])
          refine wtk (v := ?_) 7 rfl ?_ (by assumption) ?_
          rotate_left
          focus (intro w hSw; (try dsimp only at hSw); go_simp; (try with_reducible rfl))
          (try simp only [Act.put, wz5, wz6, wz7])
          refine wtk (v := ?_) 8 rfl ?_ (by assumption) ?_
          rotate_left
          focus (intro w hSw; (try dsimp only at hSw); go_simp; (try with_reducible rfl))
          (try simp only [Act.put, wz5, wz6, wz7])
          refine wpAnyX_one 9 rfl (by kernel_rfl) (fun K hK => ?_)
          go_simp
          (go_at_call 96; refine (HCC.out _).mono ?_; rintro e9 wf ⟨rfl, hbf⟩)
          go_wp2_with fail
          clear hHeld
          refine hK.out _ _ ?_ (fun hHeld => ?_)
          focus ((try dsimp only); (refine (fun hbK => And.intro hbK (by exact ⟨(hbK.cell (p := ⟨wr.heap.size, 0, none⟩) (by first | assumption | omega | (simp; omega))).trans p0, (hbK.cell (p := ⟨wr.heap.size, 1, none⟩) (by first | assumption | omega | (simp; omega))).trans p1, (hbK.cell (p := ⟨wr.heap.size, 2, none⟩) (by first | assumption | omega | (simp; omega))).trans p2, (hbK.cell (p := ⟨b9, off + j * 3, none⟩) (by first | assumption | omega | (simp; omega))).trans u0, (hbK.cell (p := ⟨b9, off + j * 3 + 1, none⟩) (by first | assumption | omega | (simp; omega))).trans u1, (hbK.cell (p := ⟨b9, off + j * 3 + 2, none⟩) (by first | assumption | omega | (simp; omega))).trans u2⟩)) ?_; repeat' (first | (with_reducible first | exact bq1 _ _ | assumption | refine bq2 ?_ ?_ _ | refine bq3 ?_ ?_ _ | refine bq4 ?_ | refine bq5 ?_ _) | (apply bthen2; (with_reducible assumption)) | go_size)))
          clear hK K
          (try simp only [Act.put, wz5, wz6, wz7])
          refine wtk (v := ?_) 10 rfl ?_ (by assumption) ?_
          rotate_left
          focus (intro w hSw; (try dsimp only at hSw); go_simp; (try with_reducible rfl))
          (try simp only [Act.put, wz5, wz6, wz7])
          refine wtk (v := ?_) 11 rfl ?_ (by assumption) ?_
          rotate_left
          focus (intro w hSw; (try dsimp only at hSw); go_simp; (try with_reducible rfl))
          (try simp only [Act.put, wz5, wz6, wz7])
          refine wtk (v := ?_) 12 rfl ?_ (by assumption) ?_
          rotate_left
          focus (intro w hSw; (try dsimp only at hSw); go_simp; (try with_reducible rfl))
          (try simp only [Act.put, wz5, wz6, wz7])
          refine wtk (v := ?_) 13 rfl ?_ (by assumption) ?_
          rotate_left
          focus (intro w hSw; (try dsimp only at hSw); go_simp; (try with_reducible rfl))
          (try simp only [Act.put, wz5, wz6, wz7])
          refine wtk (v := ?_) 14 rfl ?_ (by assumption) ?_
          rotate_left
          focus (intro w hSw; (try dsimp only at hSw); go_simp; (try with_reducible rfl))
          (try simp only [Act.put, wz5, wz6, wz7])
          refine wpAnyX_one 15 rfl (by kernel_rfl) (fun K hK => ?_)
          go_simp
          (go_at_call 65; refine (HCN.out _ _ _ _ ?_).mono ?_; (focus (refine PtsR.below PT1 ?_; repeat' (first | (with_reducible first | exact bq1 _ _ | assumption | refine bq2 ?_ ?_ _ | refine bq3 ?_ ?_ _ | refine bq4 ?_ | refine bq5 ?_ _) | (apply bthen2; (with_reducible assumption)) | go_size))); rintro e9 wg ⟨rfl, hbg⟩)
          go_wp2_with fail
          clear hHeld
          refine hK.out _ _ ?_ (fun hHeld => ?_)
          focus ((try dsimp only); (refine (fun hbK => And.intro hbK (by exact ⟨(hbK.cell (p := ⟨wr.heap.size, 0, none⟩) (by first | assumption | omega | (simp; omega))).trans p0, (hbK.cell (p := ⟨wr.heap.size, 1, none⟩) (by first | assumption | omega | (simp; omega))).trans p1, (hbK.cell (p := ⟨wr.heap.size, 2, none⟩) (by first | assumption | omega | (simp; omega))).trans p2, (hbK.cell (p := ⟨b9, off + j * 3, none⟩) (by first | assumption | omega | (simp; omega))).trans u0, (hbK.cell (p := ⟨b9, off + j * 3 + 1, none⟩) (by first | assumption | omega | (simp; omega))).trans u1, (hbK.cell (p := ⟨b9, off + j * 3 + 2, none⟩) (by first | assumption | omega | (simp; omega))).trans u2⟩)) ?_; repeat' (first | (with_reducible first | exact bq1 _ _ | assumption | refine bq2 ?_ ?_ _ | refine bq3 ?_ ?_ _ | refine bq4 ?_ | refine bq5 ?_ _) | (apply bthen2; (with_reducible assumption)) | go_size)))
          clear hK K
          (try simp only [Act.put, wz5, wz6, wz7])
          refine wtk (v := ?_) 16 rfl ?_ (by assumption) ?_
          rotate_left
          focus (intro w hSw; (try dsimp only at hSw); go_simp; (try with_reducible rfl))
          (try simp only [Act.put, wz5, wz6, wz7])
          refine wtk (v := ?_) 17 rfl ?_ (by assumption) ?_
          rotate_left
          focus (intro w hSw; (try dsimp only at hSw); go_simp; (try with_reducible rfl))
          (try simp only [Act.put, wz5, wz6, wz7])
          refine wpAnyX_done (by kernel_rfl) ?_ _
          refine NoPanic.normal ?_
        all_goals
          go_wp2_with fail
          refine name_world (fun V2 hV2 => ?_)
          have hb2 : Below V1.heap.size V1 V2 := by subst hV2; repeat' (first | (with_reducible first | exact bq1 _ _ | assumption | refine bq2 ?_ ?_ _ | refine bq3 ?_ ?_ _ | refine bq4 ?_ | refine bq5 ?_ _) | (apply bthen2; (with_reducible assumption)) | go_size)
          have Bp2 := Bp1.below hb2; have Bc2 := Bc1.below hb2; have PL2 := PL1.below hb2
          have hz2 := hb2.size
          clear hV2 hbg p0 p1 p2 pl c0 c1 cl
          go_loopw [41] (fun v41 w3 => ∃ j : Nat, v41 = .int .i64 j ∧ j ≤ L.length ∧ Hid (sumsB A L (px, py, pe) (L.take j) = true) ∧ Below V2.heap.size V2 w3) (fun v41 _ => (L.length - intOf v41).toNat)
          case atStart => exact ⟨0, rfl, by omega, Lib.hid rfl, Below.refl _ _⟩
          case round =>
            obtain ⟨j9, rfl, hj9, HJ, hb3⟩ := hrel
            have hz3 := hb3.size
            have Bp3 := Bp2.below hb3; have Bc3 := Bc2.below hb3; have PL3 := PL2.below hb3
            have c0 := Bc3.2.1 0 _ rfl; have c1 := Bc3.2.1 1 _ rfl; have cl := Bc3.1
            have p0 := Bp3.2.1 0 _ rfl; have p1 := Bp3.2.1 1 _ rfl; have p2 := Bp3.2.1 2 _ rfl; have pl := Bp3.1
            by_cases hj2 : j9 < L.length
            · obtain ⟨⟨qx, qy, qe⟩, hq⟩ : ∃ p, L[j9]? = some p := ⟨_, List.getElem?_eq_getElem hj2⟩
              obtain ⟨ca3, cc3, hsl3, hml3, hcells3⟩ := id PL3
              obtain ⟨b7, off7, ha7, hbl7, s0, s1, s2⟩ := hcells3 j9 _ hq
              obtain ⟨rfl, rfl⟩ : b9 = b7 ∧ off = off7 := by
                rw [ha7] at hsl3
                simp only [Value.slice.injEq, Option.some.injEq, Addr.mk.injEq, and_true] at hsl3
                exact ⟨hsl3.1.1, hsl3.1.2⟩
              simp only at s0 s1 s2
              clear hcells3 hsl3 hml3 ha7
              have hqq := HPV.out (qx, qy, qe) (List.mem_of_getElem? hq)
              have HAA := HA.out px py pe qx qy qe hpp hqq
              have hj3 : (j9 : Int) < (L.length : Int) := by omega
              rcases hs : EC.sumO A (px, py, pe) (qx, qy, qe) with _ | ⟨sx, sy, se⟩
              · have HRF := Lib.hid (HNO.out (all_no hq (show sumB A L (px, py, pe) (qx, qy, qe) = false from by unfold sumB; rw [hs])))
                rw [sumV_none hs] at HAA
                have HAA := Lib.hid HAA
                clear HNO HNX HRS HJ HPV HA HR2 HK2 hq hs
                go_wp2_with fail
                refine (HAA.out _).mono ?_
                rintro e9 wd ⟨rfl, hbd⟩
                have hzd := hbd.size
                (try simp only [wz1, wz2, wz3, wz4] at hzd)
                go_wp2_with fail
                go_ret
                exact gives (show Value.bool _ = Value.bool R from by rw [HRF.out]) (by apply bthen hB1; apply bthen hbw; apply bthen hbV; apply bthen hb2; apply bthen hb3; repeat' (first | (with_reducible first | exact bq1 _ _ | assumption | refine bq2 ?_ ?_ _ | refine bq3 ?_ ?_ _ | refine bq4 ?_ | refine bq5 ?_ _) | (apply bthen2; (with_reducible assumption)) | go_size))
              · rw [sumV_some hs] at HAA
                have HCN2 := fun ca cl cc W h => HK2.out sx sy se ca cl cc W h
                obtain ⟨inL, hinL⟩ : ∃ t, decide ((sx, sy, se) ∈ L) = t := ⟨_, rfl⟩
                rw [hinL] at HCN2
                have hsb : sumB A L (px, py, pe) (qx, qy, qe) = inL := by unfold sumB; rw [hs]; exact hinL
                have HAA := Lib.hid HAA
                have HCN2 := Lib.hid HCN2
                cases inL
                · have HRF := Lib.hid (HNO.out (all_no hq hsb))
                  clear HNO HNX HRS HJ HPV HA HR2 HK2 hq hs hinL hsb
                  go_wp2_with fail
                  refine (HAA.out _).mono ?_
                  rintro e9 wd ⟨rfl, hbd⟩
                  have hzd := hbd.size
                  (try simp only [wz1, wz2, wz3, wz4] at hzd)
                  have hbd3 : Below wr.heap.size wr wd := bthen2 hbd (Below.alloc (Below.refl _ _) (Nat.le_refl _) _)
                  go_wp2_with fail
                  refine (HCN2.out _ _ _ _ ?_).mono ?_
                  · refine PtsR.below (PL3.below hbd3) ?_; repeat' (first | (with_reducible first | exact bq1 _ _ | assumption | refine bq2 ?_ ?_ _ | refine bq3 ?_ ?_ _ | refine bq4 ?_ | refine bq5 ?_ _) | (apply bthen2; (with_reducible assumption)) | go_size)
                  rintro e9 we ⟨rfl, hbe⟩
                  have hze := hbe.size
                  (try simp only [wz1, wz2, wz3, wz4] at hze)
                  go_wp2_with fail
                  go_ret
                  exact gives (show Value.bool _ = Value.bool R from by rw [HRF.out]) (by apply bthen hB1; apply bthen hbw; apply bthen hbV; apply bthen hb2; apply bthen hb3; apply bthen hbd3; repeat' (first | (with_reducible first | exact bq1 _ _ | assumption | refine bq2 ?_ ?_ _ | refine bq3 ?_ ?_ _ | refine bq4 ?_ | refine bq5 ?_ _) | (apply bthen2; (with_reducible assumption)) | go_size))
                · have HJ2 := Lib.hid (show sumsB A L (px, py, pe) (L.take (j9 + 1)) = true from by
                    have h1 := take_all (sumB A L (px, py, pe)) L j9 _ hq
                    unfold sumsB
                    rw [h1, hsb]
                    have h2 := HJ.out
                    unfold sumsB at h2
                    rw [h2]; rfl)
                  clear HNO HNX HRS HJ HPV HA HR2 HK2 hq hs hinL hsb
                  go_wp2_with fail
                  refine (HAA.out _).mono ?_
                  rintro e9 wd ⟨rfl, hbd⟩
                  have hzd := hbd.size
                  (try simp only [wz1, wz2, wz3, wz4] at hzd)
                  have hbd3 : Below wr.heap.size wr wd := bthen2 hbd (Below.alloc (Below.refl _ _) (Nat.le_refl _) _)
                  go_wp2_with fail
                  refine (HCN2.out _ _ _ _ ?_).mono ?_
                  · refine PtsR.below (PL3.below hbd3) ?_; repeat' (first | (with_reducible first | exact bq1 _ _ | assumption | refine bq2 ?_ ?_ _ | refine bq3 ?_ ?_ _ | refine bq4 ?_ | refine bq5 ?_ _) | (apply bthen2; (with_reducible assumption)) | go_size)
                  rintro e9 we ⟨rfl, hbe⟩
                  have hze := hbe.size
                  (try simp only [wz1, wz2, wz3, wz4] at hze)
                  go_wp2_with fail
                  go_roundw
                  case rel => exact ⟨j9 + 1, rfl, by omega, HJ2, by apply bthen hb3; apply bthen hbd3; repeat' (first | (with_reducible first | exact bq1 _ _ | assumption | refine bq2 ?_ ?_ _ | refine bq3 ?_ ?_ _ | refine bq4 ?_ | refine bq5 ?_ _) | (apply bthen2; (with_reducible assumption)) | go_size)⟩
                  case measure => simp [intOf]; omega
            · obtain rfl : j9 = L.length := by omega
              have HAL := Lib.hid (show allsB A L _ = true from by
                have h1 := HNX.out
                have h2 := HR2.out
                have h3 := HJ.out
                rw [List.take_length] at h3
                unfold allsB at h2 ⊢
                rw [h1, h2, h3]; rfl)
              clear HNO HNX HJ HPV HA HR2 HK2
              go_wp2_with fail
              go_roundw
              case rel => exact ⟨_, by first | rfl | go_num, by omega, HRS, HAL, by apply bthen hbw; apply bthen hbV; apply bthen hb2; repeat' (first | (with_reducible first | exact bq1 _ _ | assumption | refine bq2 ?_ ?_ _ | refine bq3 ?_ ?_ _ | refine bq4 ?_ | refine bq5 ?_ _) | (apply bthen2; (with_reducible assumption)) | go_size)⟩
              case measure => simp [intOf]; omega
    · obtain rfl : k = L.length := by omega
      have HKK := Lib.hid (fun ca cl cc W h => HK2.out 0 0 0 ca cl cc W h)
      have HRR := Lib.hid (show R = decide ((0, 0, 0) ∈ L) from by
        rw [← HR.out]; unfold ckB
        have h2 := HR2.out
        rw [List.take_length] at h2
        rw [HR1.out, h2]; simp)
      clear HR HR1 HR2 HK HK2 HPV HA HM HCP HBF hRows
      go_wp2_with fail
      refine (HKK.out _ _ _ _ ?_).mono ?_
      · exact PLr
      rintro e9 wd ⟨rfl, hbd⟩
      go_wp2_with fail
      go_ret
      exact gives (show Value.bool _ = Value.bool R from by rw [HRR.out]) (bthen2 hbd (bthen hB1 hbw))
set_option maxRecDepth 100000 in
set_option maxHeartbeats 4000000 in
theorem CheckTorsion_any (A B : Int) (L : List P3) (ca : Option Addr) (cl cc : Nat) (w : World) (hl : PtsR w (.slice ca cl cc) L) :
    Calls Tryz.prog 14 #[.agg #[.int .i64 A, .int .i64 B], .slice ca cl cc] w (Gives (ckV A B L) w) := by
  obtain ⟨ca', cc', hsl, hml, -⟩ := id hl
  obtain ⟨rfl, rfl, rfl⟩ : ca = ca' ∧ cl = L.length ∧ cc = cc' := by simpa using hsl
  have HL := Lib.hid hl
  have HF := Lib.hid (fun w => isCurve_any A B w)
  clear hsl hl
  cases g1 : isC A B
  · rw [g1] at HF
    have HV := Lib.hid (show ckV A B L = .tuple #[.bool false, .bool false] from by unfold ckV; rw [g1]; simp)
    rw [HV.out]
    go_enter Tryz.func14, Tryz.ntmps14
    go_wp2_with (first | (go_at_call 42; refine (HF.out _).mono ?_; rintro e wa ⟨rfl, hba⟩; have hza := hba.size; (try simp only [wz1, wz2, wz3, wz4] at hza); try (refine keepc hba (w.heap.size) ?_ ?_; (focus (first | omega | (simp <;> omega))); intro hca_0 hfa_0 hla_0); try (refine keepc hba (w.heap.size + 1) ?_ ?_; (focus (first | omega | (simp <;> omega))); intro hca_1 hfa_1 hla_1); try (refine keepc hba (w.heap.size + 1 + 1) ?_ ?_; (focus (first | omega | (simp <;> omega))); intro hca_2 hfa_2 hla_2)))
    go_ret2
    exact gives rfl gr
  rw [g1] at HF
  by_cases h16 : L.length ≤ 16
  case neg =>
    have HV := Lib.hid (show ckV A B L = .tuple #[.bool false, .bool false] from by unfold ckV; rw [decide_eq_false h16]; simp)
    rw [HV.out]
    have h17 : 16 < (L.length : Int) := by omega
    have h18 : 16 < L.length := by omega
    go_enter Tryz.func14, Tryz.ntmps14
    go_wp2_with (first | (go_at_call 42; refine (HF.out _).mono ?_; rintro e wa ⟨rfl, hba⟩; have hza := hba.size; (try simp only [wz1, wz2, wz3, wz4] at hza); try (refine keepc hba (w.heap.size) ?_ ?_; (focus (first | omega | (simp <;> omega))); intro hca_0 hfa_0 hla_0); try (refine keepc hba (w.heap.size + 1) ?_ ?_; (focus (first | omega | (simp <;> omega))); intro hca_1 hfa_1 hla_1); try (refine keepc hba (w.heap.size + 1 + 1) ?_ ?_; (focus (first | omega | (simp <;> omega))); intro hca_2 hfa_2 hla_2)))
    go_ret2
    exact gives rfl gr
  have h17 : ¬ 16 < (L.length : Int) := by omega
  have h18 : ¬ 16 < L.length := by omega
  have HP := Lib.hid (fun x y e w => isPoint_any A B x y e w)
  have HK := Lib.hid (fun (h : ∀ p ∈ L, EC.PV A B p) ca cl cc W hl => checkTorsion_any A B g1 L h h16 ca cl cc W hl)
  have HVF := Lib.hid (show L.all (onB A B) = false → ckV A B L = .tuple #[.bool false, .bool false] from fun h => by unfold ckV; rw [h]; simp)
  have HVT := Lib.hid (show L.all (onB A B) = true → ckV A B L = .tuple #[.bool (ckB A L), .bool true] from fun h => by unfold ckV; rw [g1, decide_eq_true h16, h]; rfl)
  obtain ⟨R, hR⟩ : ∃ R, ckV A B L = R := ⟨_, rfl⟩
  rw [hR] at HVF HVT ⊢
  clear hR g1
  go_enter Tryz.func14, Tryz.ntmps14
  go_wp2_with fail
  refine (HF.out _).mono ?_
  rintro e9 W1 ⟨rfl, hba⟩
  have Bk := Box.below (show Box _ w.heap.size [.int .i64 A, .int .i64 B] from box_made2 _ _ _ _) hba
  have hB1 : Below w.heap.size w W1 := bthen2 hba gr
  have PL := HL.out.below hB1
  have hz1 := hB1.size
  clear hba HL HF
  go_wp2_with fail
  go_loopw [18] (fun v18 wr => ∃ k : Nat, v18 = .int .i64 k ∧ k ≤ L.length ∧ Hid ((L.take k).all (onB A B) = true) ∧ Below W1.heap.size W1 wr) (fun v18 _ => (L.length - intOf v18).toNat)
  case atStart => exact ⟨0, rfl, by omega, Lib.hid rfl, Below.refl _ _⟩
  case round =>
    obtain ⟨k, rfl, hk, HR1, hbw⟩ := hrel
    have hzw := hbw.size
    have Bw := Bk.below hbw
    have c0 := Bw.2.1 0 _ rfl; have c1 := Bw.2.1 1 _ rfl; have cl := Bw.1
    have PLr := PL.below hbw
    by_cases hlt : k < L.length
    · obtain ⟨⟨px, py, pe⟩, hp⟩ : ∃ p, L[k]? = some p := ⟨_, List.getElem?_eq_getElem hlt⟩
      obtain ⟨ca2, cc2, hsl, hml, hcells⟩ := id PLr
      obtain ⟨b9, off, ha, hbl, x0, x1, x2⟩ := hcells k _ hp
      have hca : ca = some ⟨b9, off, none⟩ := by
        have : ca = ca2 := by simpa using congrArg (fun v => match v with | Value.slice a _ _ => a | _ => none) hsl
        rw [this, ha]
      subst hca
      have hlt' : (k : Int) < (L.length : Int) := by omega
      simp only at x0 x1 x2
      clear hcells hsl ha
      have HPP := HP.out px py pe
      have ht := take_all (onB A B) L k _ hp
      have hn := fun h => all_no (f := onB A B) hp h
      obtain ⟨q, hq⟩ : ∃ q, ptB A B px py pe = q := ⟨_, rfl⟩
      rw [hq] at HPP
      have HPP := Lib.hid HPP
      cases q
      · have HRF := Lib.hid (HVF.out (hn hq))
        clear HR1 HVF HVT HP HK ht hn hp hq
        go_wp2_with fail
        refine (HPP.out _).mono ?_
        rintro e9 wd ⟨rfl, hbd⟩
        have hzd := hbd.size
        (try simp only [wz1, wz2, wz3, wz4] at hzd)
        go_wp2_with fail
        go_ret2
        exact gives (show _ = R from by rw [HRF.out]; rfl) (by apply bthen hB1; apply bthen hbw; repeat' (first | (with_reducible first | exact bq1 _ _ | assumption | refine bq2 ?_ ?_ _ | refine bq3 ?_ ?_ _ | refine bq4 ?_ | refine bq5 ?_ _) | (apply bthen2; (with_reducible assumption)) | go_size))
      · have HN := Lib.hid (show (L.take (k + 1)).all (onB A B) = true from by rw [ht, HR1.out]; exact hq)
        clear HR1 HVF HVT HP HK ht hn hp hq
        go_wp2_with fail
        refine (HPP.out _).mono ?_
        rintro e9 wd ⟨rfl, hbd⟩
        have hzd := hbd.size
        (try simp only [wz1, wz2, wz3, wz4] at hzd)
        go_wp2_with fail
        go_roundw
        case rel => exact ⟨k + 1, rfl, by omega, HN, by apply bthen hbw; repeat' (first | (with_reducible first | exact bq1 _ _ | assumption | refine bq2 ?_ ?_ _ | refine bq3 ?_ ?_ _ | refine bq4 ?_ | refine bq5 ?_ _) | (apply bthen2; (with_reducible assumption)) | go_size)⟩
        case measure => simp [intOf]; omega
    · obtain rfl : k = L.length := by omega
      have hall : L.all (onB A B) = true := by have := HR1.out; rwa [List.take_length] at this
      have HKK := Lib.hid (HK.out (fun p hp => onB_PV (by rw [List.all_eq_true] at hall; exact hall p hp)))
      have HRT := Lib.hid (HVT.out hall)
      generalize ckB A L = ck at *
      clear HR1 HVF HVT HP HK hall
      go_wp2_with fail
      refine (HKK.out _ _ _ _ ?_).mono ?_
      · exact PLr
      rintro e9 wd ⟨rfl, hbd⟩
      have hzd := hbd.size
      (try simp only [wz1, wz2, wz3, wz4] at hzd)
      go_wp2_with fail
      go_ret2
      exact gives (show _ = R from by rw [HRT.out]; rfl) (bthen2 hbd (bthen hB1 hbw))
/-! ### parts of a function's code: a long walk is parted into theorems over them -/
def cS : Code → Code
  | .seq _ b => b
  | .cond _ _ b => b
  | c => c
def cB (f : Func) : Code := f.body.getD .skip
end Go.Proofs.YtjgdajeoeagggaaGreat
