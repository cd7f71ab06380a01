import Derived.Test.YtjgdajeoeagggaaGreatZPtV
set_option linter.unusedSimpArgs false
set_option linter.unusedVariables false
namespace Go.Proofs.YtjgdajeoeagggaaGreat
open Go.RowKit
/-! ### generators of the torsion points -/
theorem OwnP.set_ne3 {w : World} {B : Nat} {s : Value} {ps : List P3} {b : Nat} (h : OwnP w B s ps) (hp : s.ownBlock ≠ some b) (i j k : Nat) {u v x : Value} : OwnP (((w.setCell ⟨b, i, none⟩ u).setCell ⟨b, j, none⟩ v).setCell ⟨b, k, none⟩ x) B s ps := by
  have one : ∀ {w : World} (i : Nat) (u : Value), OwnP w B s ps → OwnP (w.setCell ⟨b, i, none⟩ u) B s ps := by
    intro w i u h
    refine ownsRow_only h (only_setCell w ⟨b, i, none⟩ u) ?_
    cases hb : s.ownBlock with
    | none => exact .inl rfl
    | some c => exact .inr (fun e => hp (by rw [hb]; exact e))
  exact one _ _ (one _ _ (one _ _ h))
def lenS : Value → Nat
  | .slice _ l _ => l
  | _ => 0
set_option maxRecDepth 100000 in
set_option maxHeartbeats 4000000 in
theorem toMultiples_any (A B x y e : Int) (n : Nat) (hC : isC A B = true) (hT : Tor A B (x, y, e) n) (w : World) :
    Calls Tryz.prog 69 #[.agg #[.int .i64 A, .int .i64 B], .agg #[.int .i64 x, .int .i64 y, .int .i64 e]] w (GivesP ((0, 0, 0) :: mlL A (x, y, e) (n - 1)) w) := by
  have HA := Lib.hid (fun u v t (h : EC.PV A B (u, v, t)) W => ptAdd_any A B u v t x y e hC h hT.pv W)
  have HTT := Lib.hid hT
  obtain ⟨p, hpe⟩ : ∃ p : P3, p = (x, y, e) := ⟨_, rfl⟩
  rw [← hpe]
  rw [← hpe] at HTT
  have HPE := Lib.hid hpe
  have HAD := Lib.hid (show ∀ u v t, EC.PV A B (u, v, t) → ∀ W, Calls Tryz.prog 81 #[.agg #[.int .i64 A, .int .i64 B], .agg #[.int .i64 u, .int .i64 v, .int .i64 t], .agg #[.int .i64 x, .int .i64 y, .int .i64 e]] W (Gives (sumV A (u, v, t) p) W) from fun u v t h W => by rw [HPE.out]; exact HA.out u v t h W)
  have hn1 := hT.lo; have hn2 := hT.hi
  have HP1 := Lib.hid (show mulO A p (0 + 1) = some (x, y, e) from by
    rw [mulO_succ (show mulO A p 0 = some (0, 0, 0) from rfl)]
    have h1 : EC.sumO A (0, 0, 0) p = EC.rep (EC.add (A : Rat) (EC.toQ (0, 0, 0)) (EC.toQ p)) := rfl
    rw [h1, toQ_none (p := (0, 0, 0)) rfl, EC.zero_add, EC.rep_toQ HTT.out.pv, HPE.out])
  have hPV0 : EC.PV A B (x, y, e) := hT.pv
  clear hC hT HA hpe
  go_enter Tryz.func69, Tryz.ntmps69
  go_wp2_with fail
  refine name_world (fun W1 hW1 => ?_)
  have Bc : Box W1 w.heap.size [.int .i64 A, .int .i64 B] := by subst hW1; exact box_two (by first | omega | (simp; done) | (simp; omega)) (by simp [go_sem]) (by simp [go_sem]) (fun o => by simp [go_sem])
  have Bp : Box W1 (w.heap.size + 1) [.int .i64 x, .int .i64 y, .int .i64 e] := by subst hW1; exact box_three (by first | omega | (simp; done) | (simp; omega)) (by simp [go_sem]) (by simp [go_sem]) (by simp [go_sem]) (fun o => by simp [go_sem])
  have Bq : Box W1 (w.heap.size + 1 + 1 + 1) [.int .i64 x, .int .i64 y, .int .i64 e] := by subst hW1; exact box_three (by first | omega | (simp; done) | (simp; omega)) (by simp [go_sem]) (by simp [go_sem]) (by simp [go_sem]) (fun o => by simp [go_sem])
  have OO : OwnP W1 (w.heap.size + 1 + 1) (.slice (some ⟨w.heap.size + 1 + 1, 0, none⟩) 1 1) [(0, 0, 0)] := by
    have h1 := ownP_lit1 ((w.alloc (Obj.cells #[.int .i64 A, .int .i64 B] 25)).alloc (Obj.cells #[.int .i64 x, .int .i64 y, .int .i64 e] 34)) (0, 0, 0)
    simp only [World.size_alloc] at h1
    subst hW1
    refine OwnP.below h1 ?_
    repeat' (first | (with_reducible first | exact bq1 _ _ | assumption | refine bq2 ?_ ?_ _ | refine bq3 ?_ ?_ _ | refine bq4 ?_ | refine bq5 ?_ _) | (apply bthen2; (with_reducible assumption)) | go_size)
  have hB : Below w.heap.size w W1 := by subst hW1; exact gr
  have hsz : w.heap.size + 1 + 1 + 1 < W1.heap.size := by subst hW1; simp
  clear hW1
  go_loopw [5, 6] (fun v5 v6 wr => ∃ (k g m c3 bq : Nat) (u v t : Int), v5 = .slice (some ⟨g, 0, none⟩) m c3 ∧ v6 = .pointer (some ⟨bq, 0, none⟩) ∧ k + 1 ≤ n ∧ m = k + 1 ∧ EC.PV A B (u, v, t) ∧ Hid (mulO A p (k + 1) = some (u, v, t)) ∧ OwnP wr (w.heap.size + 1 + 1) v5 ((0, 0, 0) :: mlL A p k) ∧ Box wr w.heap.size [.int .i64 A, .int .i64 B] ∧ Box wr (w.heap.size + 1) [.int .i64 x, .int .i64 y, .int .i64 e] ∧ Box wr bq [.int .i64 u, .int .i64 v, .int .i64 t] ∧ bq ≠ g ∧ g < wr.heap.size ∧ w.heap.size + 1 + 1 ≤ g ∧ w.heap.size + 1 + 1 ≤ bq ∧ Below w.heap.size w wr) (fun v5 _ _ => 13 - lenS v5)
  case atStart => exact ⟨0, w.heap.size + 1 + 1, 1, 1, w.heap.size + 1 + 1 + 1, x, y, e, rfl, rfl, by omega, rfl, hPV0, HP1, OO, Bc, Bp, Bq, by omega, by omega, by omega, by omega, hB⟩
  case round =>
    clear Bc Bp Bq OO hB HP1 hPV0 hsz
    obtain ⟨k, g, m, c3, bq, u, v, t, rfl, rfl, hk, hm, hPV, HG, OO, Bc, Bp, Bq, hqg, hg, hg1, hq1, hB⟩ := hrel
    have c0 := Bc.2.1 0 _ rfl; have c1 := Bc.2.1 1 _ rfl; have cl := Bc.1
    have p0 := Bp.2.1 0 _ rfl; have p1 := Bp.2.1 1 _ rfl; have p2 := Bp.2.1 2 _ rfl; have pl := Bp.1
    have q0 := Bq.2.1 0 _ rfl; have q1 := Bq.2.1 1 _ rfl; have q2 := Bq.2.1 2 _ rfl; have ql := Bq.1
    by_cases ht : t = 0
    · have hkn : k + 1 = n := by
        rcases Nat.lt_or_ge (k + 1) n with h | h
        · obtain ⟨q, h1, h2⟩ := HTT.out.mid (k + 1) (by omega) h
          rw [HG.out] at h1
          obtain rfl := Option.some.inj h1
          exact absurd ht h2
        · omega
      have HK := Lib.hid (show mlL A p (n - 1) = mlL A p k by rw [← hkn]; rfl)
      subst ht
      clear hkn HAD HTT HG hPV hm
      go_wp2_with fail
      go_ret
      exact ⟨_, _, _, rfl, by rw [HK.out]; exact OO.mono (by omega), hB⟩
    · have hkn : k + 1 < n := by
        rcases Nat.lt_or_ge (k + 1) n with h | h
        · exact h
        · exfalso
          have h1 := HTT.out.fin
          rw [show n = k + 1 by omega, HG.out] at h1
          have := Option.some.inj h1
          simp only [Prod.mk.injEq] at this
          exact ht this.2.2
      have hq : (t == 0) = false := by simpa using ht
      obtain ⟨⟨a, b, c⟩, hs, hPV2, -⟩ := HTT.out.some_ (j := k + 1 + 1) (by omega)
      have hs1 : EC.sumO A (u, v, t) p = some (a, b, c) := by rw [← mulO_succ HG.out]; exact hs
      have HAA := HAD.out u v t hPV
      rw [sumV_some hs1] at HAA
      have HAA := Lib.hid HAA
      have HG2 := Lib.hid hs
      have HML := Lib.hid (show (0, 0, 0) :: mlL A p (k + 1) = ((0, 0, 0) :: mlL A p k) ++ [(u, v, t)] by rw [mlL_succ HG.out]; rfl)
      have hal : ((0, 0, 0) :: mlL A p k).length = k + 1 := by
        rw [HTT.out.ml k (by omega)]; simp
      clear hs hs1 HAD HTT HG
      generalize ((0, 0, 0) :: mlL A p k) = P at *
      have hal2 : P.length ≤ 1000 := by omega
      obtain rfl : m = P.length := by omega
      have HPL := Lib.hid hal
      clear hal hm
      go_wp2_with (first | (at_builtin; refine wpl_appPG rfl _ _ rfl (w.heap.size + 1 + 1) (.slice (some ⟨g, 0, none⟩) P.length c3) P rfl (OO.alloc _) wr.heap.size 1 (u, v, t) rfl (by simp) (by simp) (by simp) (by omega) (by simp; omega) ?_; intro g' cap' wp hownp hon hgg hgl; have X1 := (Box.alloc Bc (Obj.cells #[.int .i64 u, .int .i64 v, .int .i64 t] 34)).chg (ChgS.of hon) (fun e => absurd (show g = w.heap.size from by simpa [Value.ownBlock] using e) (by omega)); have X2 := (Box.alloc Bp (Obj.cells #[.int .i64 u, .int .i64 v, .int .i64 t] 34)).chg (ChgS.of hon) (fun e => absurd (show g = w.heap.size + 1 from by simpa [Value.ownBlock] using e) (by omega)); have X3 := (Box.alloc Bq (Obj.cells #[.int .i64 u, .int .i64 v, .int .i64 t] 34)).chg (ChgS.of hon) (fun e => absurd (show g = bq from by simpa [Value.ownBlock] using e) (by omega)); have c0' := X1.2.1 0 _ rfl; have c1' := X1.2.1 1 _ rfl; have cl' := X1.1; have p0' := X2.2.1 0 _ rfl; have p1' := X2.2.1 1 _ rfl; have p2' := X2.2.1 2 _ rfl; have pl' := X2.1; have q0' := X3.2.1 0 _ rfl; have q1' := X3.2.1 1 _ rfl; have q2' := X3.2.1 2 _ rfl; have ql' := X3.1))
      have hwp := hon.size
      have hBp : Below w.heap.size w wp := by
        have h1 : Below w.heap.size w (wr.alloc (Obj.cells #[.int .i64 u, .int .i64 v, .int .i64 t] 34)) := Below.alloc hB (by have := hB.size; omega) _
        exact h1.trans (hon.below (by simp; omega) (fun q hq => by have h9 : g = q := (by simpa [Value.ownBlock] using hq); omega))
      have hgg1 : w.heap.size + 1 + 1 ≤ g' := by
        rcases hgg with h | h
        · obtain rfl : g = g' := by simpa [Value.ownBlock] using h
          exact hg1
        · simp at h; omega
      have hws : w.heap.size + 1 + 1 ≤ wp.heap.size := by omega
      clear hon hgg
      refine (HAA.out _).mono ?_
      rintro e9 wa ⟨rfl, hba⟩
      have hza := hba.size
      have Y1 := (Box.alloc X1 (Obj.cells #[.int .i64 u, .int .i64 v, .int .i64 t] 34)).below hba
      have Y2 := (Box.alloc X2 (Obj.cells #[.int .i64 u, .int .i64 v, .int .i64 t] 34)).below hba
      have Y3 := Box.below (show Box _ wp.heap.size [.int .i64 u, .int .i64 v, .int .i64 t] from box_three (by simp) (by simp) (by simp) (by simp) (fun o => by simp)) hba
      have OP := (hownp.alloc (Obj.cells #[.int .i64 u, .int .i64 v, .int .i64 t] 34)).below hba
      have hBa : Below w.heap.size w wa := by repeat' (first | (with_reducible first | exact bq1 _ _ | assumption | refine bq2 ?_ ?_ _ | refine bq3 ?_ ?_ _ | refine bq4 ?_ | refine bq5 ?_ _) | (apply bthen2; (with_reducible assumption)) | go_size)
      have y0 := Y3.2.1 0 _ rfl; have y1 := Y3.2.1 1 _ rfl; have y2 := Y3.2.1 2 _ rfl; have yf := Y3.2.2; have yl := Y3.1
      clear X1 X2 X3 c0' c1' cl' p0' p1' p2' pl' q0' q1' q2' ql'
      have hgl2 : g' < wa.heap.size := by first | omega | (simp at hza; omega)
      go_wp2_with fail
      go_roundw
      case rel => exact ⟨k + 1, g', _, cap', wp.heap.size, a, b, c, rfl, rfl, by omega, by rw [HPL.out], hPV2, HG2, by rw [HML.out]; exact OwnP.set_ne3 OP (by simp [Value.ownBlock]; omega) _ _ _, Box.set_ne (Box.set_ne (Box.set_ne Y1 (by first | (simp; done) | (simp; omega)) _) (by first | (simp; done) | (simp; omega)) _) (by first | (simp; done) | (simp; omega)) _, Box.set_ne (Box.set_ne (Box.set_ne Y2 (by first | (simp; done) | (simp; omega)) _) (by first | (simp; done) | (simp; omega)) _) (by first | (simp; done) | (simp; omega)) _, Box.set (Box.set (Box.set Y3 0 (by simp) _) 1 (by simp) _) 2 (by simp) _, by omega, by simp; omega, hgg1, hws, gr⟩
      case measure => have := HPL.out; simp [lenS]; omega
theorem find_take {α : Type} (f : α → Bool) (L : List α) (k : Nat) (p : α) (h : L[k]? = some p) : (L.take (k + 1)).find? f = ((L.take k).find? f).or (if f p = true then some p else none) := by
  have hk : k < L.length := by
    rcases Nat.lt_or_ge k L.length with q | q
    · exact q
    · rw [List.getElem?_eq_none q] at h; cases h
  have e : L[k] = p := by rw [List.getElem?_eq_getElem hk] at h; exact Option.some.inj h
  rw [List.take_succ_eq_append_getElem hk, List.find?_append, e]
  congr 1
  by_cases g : f p = true <;> simp [g]
theorem find_first {α : Type} {f : α → Bool} {L : List α} {k : Nat} {p q : α} (h : L[k]? = some p) (h0 : (L.take k).find? f = none) (hp : f p = true) (hL : L.find? f = some q) : p = q := by
  have h1 := find_take f L k p h
  rw [h0, if_pos hp] at h1
  have h2 : L.find? f = (L.take (k + 1) ++ L.drop (k + 1)).find? f := by rw [List.take_append_drop]
  rw [List.find?_append, h1] at h2
  rw [hL] at h2
  exact (Option.some.inj h2).symm
def tgH (A : Int) (M : List P3) (p : P3) : Bool := decide ((ordV A p).1 = 2) && !decide (p ∈ M)
def tgPs (A B : Int) : List P3 := if gmV A B = 1 then [] else tgF A B :: (if gmV A B < ((tps A B).length : Int) then ((tps A B).find? (tgH A (mlL A (tgF A B) (gmV A B).toNat))).toList else [])
def tgPP (a b : Int) : List P3 := if isC a b then tgPs a b else []
/-- What the first loop has found. -/
def TG (N : Nat) (F : P3 → Bool) (f : P3) (M : List P3) (l : List P3) (v6 v7 : Value) (wr : World) : Prop :=
  (l.find? F = none ∧ v6 = .slice none 0 0 ∧ v7 = .slice none 0 0) ∨ (l.find? F = some f ∧ ∃ a6 c6 a7 c7, v6 = .slice a6 1 c6 ∧ v7 = .slice a7 M.length c7 ∧ OwnP wr N (.slice a6 1 c6) [f] ∧ PtsR wr (.slice a7 M.length c7) M)
set_option maxRecDepth 100000 in
set_option maxHeartbeats 8000000 in
theorem TorsionGenerators_any (a b : Int) (w : World) : Calls Tryz.prog 22 #[.agg #[.int .i64 a, .int .i64 b]] w (GivesPB (tgPP a b) (isC a b) w) := by
  have HF := Lib.hid (fun w => isCurve_any a b w)
  unfold tgPP
  cases g1 : isC a b
  · rw [g1] at HF
    rw [if_neg (by simp)]
    go_enter Tryz.func22, Tryz.ntmps22
    go_wp2_with (first | (go_at_call 42; refine (HF.out _).mono ?_; rintro e wa ⟨rfl, hba⟩; have hza := hba.size; (try simp only [wz1, wz2, wz3, wz4] at hza); try (refine keepc hba (w.heap.size) ?_ ?_; (focus (first | omega | (simp <;> omega))); intro hca_0 hfa_0 hla_0); try (refine keepc hba (w.heap.size + 1) ?_ ?_; (focus (first | omega | (simp <;> omega))); intro hca_1 hfa_1 hla_1); try (refine keepc hba (w.heap.size + 1 + 1) ?_ ?_; (focus (first | omega | (simp <;> omega))); intro hca_2 hfa_2 hla_2)))
    go_ret2
    exact ⟨none, 0, 0, rfl, OwnP.nil _ _, gr⟩
  · rw [g1] at HF
    rw [if_pos rfl]
    unfold tgPs
    have HC := Lib.hid (fun w => torsionPoints_any a b g1 w)
    have HG := Lib.hid (fun ca cl cc W h => greatestOrder_any a b g1 (tps a b) (tps_PV g1) (by have := tps_len a b; omega) ca cl cc W h)
    have hGb := gmV_b a b
    have hlen := tps_len a b
    rw [show gmL a (tps a b) 1 = gmV a b from rfl] at HG
    obtain ⟨n, hT⟩ := tps_tor g1 (List.mem_of_find?_eq_some (tg_find (A := a) (B := b)))
    have hGn : gmV a b = n := by
      have h1 := List.find?_some (tg_find (A := a) (B := b))
      have h2 := hT.ord
      simp only [beq_iff_eq] at h1
      omega
    by_cases hn1 : n = 1
    · rw [if_pos (by omega)]
      rw [hGn, hn1] at HG
      clear hT hGb hGn hn1
      generalize tps a b = L at *
      go_enter Tryz.func22, Tryz.ntmps22
      go_wp2_with fail
      refine (HF.out _).mono ?_
      rintro e9 wa ⟨rfl, hba⟩
      have Bc := Box.below (show Box _ w.heap.size [.int .i64 a, .int .i64 b] from box_made2 _ _ _ _) hba
      have hB := bthen2 hba (show Below w.heap.size w (w.alloc (Obj.cells #[.int .i64 a, .int .i64 b] 25)) by repeat' (first | (with_reducible first | exact bq1 _ _ | assumption | refine bq2 ?_ ?_ _ | refine bq3 ?_ ?_ _ | refine bq4 ?_ | refine bq5 ?_ _) | (apply bthen2; (with_reducible assumption)) | go_size))
      have c0 := Bc.2.1 0 _ rfl; have c1 := Bc.2.1 1 _ rfl; have cl := Bc.1
      go_wp2_with fail
      refine (HC.out _).mono ?_
      rintro e9 wb ⟨ca, cl, cc, rfl, hown, hbb⟩
      obtain ⟨ca', cc', hsl⟩ := hown.slice
      obtain ⟨rfl, rfl, rfl⟩ : ca = ca' ∧ cl = L.length ∧ cc = cc' := by simpa using hsl
      clear hsl
      have Bd := Bc.below hbb
      have PT := hown.pts
      have hB2 := bthen2 hbb hB
      have d0 := Bd.2.1 0 _ rfl; have d1 := Bd.2.1 1 _ rfl; have dl := Bd.1
      go_wp2_with fail
      refine (HG.out _ _ _ _ ?_).mono ?_
      · exact PT
      rintro e9 wd ⟨rfl, hbd⟩
      have hB3 := bthen2 hbd hB2
      clear PT hown
      go_wp2_with fail
      go_ret2
      exact ⟨none, 0, 0, rfl, OwnP.nil _ _, gr⟩
    · rw [if_neg (by omega)]
      have hn2 := hT.lo
      have hn3 := hT.hi
      have hqn : ((n : Int) == 1) = false := by simp; omega
      have hqn' : ¬ (n : Int) = 1 := by omega
      have hfind := tg_find (A := a) (B := b)
      rw [hGn] at HG hfind ⊢
      obtain ⟨⟨fx, fy, fe⟩, hf⟩ : ∃ f, tgF a b = f := ⟨_, rfl⟩
      rw [hf] at hT hfind ⊢
      have HM := Lib.hid (fun W => multiples_any a b fx fy fe n (by omega) g1 hT.pv W)
      have HFIN := Lib.hid (show ¬ mulO a (fx, fy, fe) n = none from by rw [hT.fin]; simp)
      have hml := hT.ml_len
      have hml2 := hT.le_tps g1
      rw [show ((n : Int)).toNat = n from Int.toNat_natCast n]
      have HO := Lib.hid (fun x y e (h : EC.PV a b (x, y, e)) W => orderOfPoint_any a b x y e g1 h W)
      have HPV := Lib.hid (tps_PV g1)
      have HCN := Lib.hid (fun x y e ca cl cc W h => ContainsP_any x y e (mlL a (fx, fy, fe) n) (by omega) ca cl cc W h)
      have HTH := Lib.hid (show ∀ p, tgH a (mlL a (fx, fy, fe) n) p = (decide ((ordV a p).1 = 2) && !decide (p ∈ mlL a (fx, fy, fe) n)) from fun p => rfl)
      clear hGb hGn hn1 hf g1 hT
      generalize hmlM : mlL a (fx, fy, fe) n = M at *
      have HMLE := Lib.hid hmlM
      clear hmlM
      generalize tgH a M = F2 at *
      generalize hF1 : (fun p => (ordV a p).1 == (n : Int)) = F1 at *
      have HF1 := Lib.hid (show ∀ p, F1 p = ((ordV a p).1 == (n : Int)) from fun p => by rw [← hF1])
      generalize tps a b = L at *
      obtain ⟨S, hS⟩ : ∃ S, (if (n : Int) < (L.length : Int) then (L.find? F2).toList else []) = S := ⟨_, rfl⟩
      rw [hS]
      have HS := Lib.hid hS
      have HFD := Lib.hid hfind
      have HML := Lib.hid hml
      clear hS hF1 hfind hml
      go_enter Tryz.func22, Tryz.ntmps22
      go_wp2_with fail
      refine (HF.out _).mono ?_
      rintro e9 wa ⟨rfl, hba⟩
      have Bc := Box.below (show Box _ w.heap.size [.int .i64 a, .int .i64 b] from box_made2 _ _ _ _) hba
      have hB := bthen2 hba (show Below w.heap.size w (w.alloc (Obj.cells #[.int .i64 a, .int .i64 b] 25)) by repeat' (first | (with_reducible first | exact bq1 _ _ | assumption | refine bq2 ?_ ?_ _ | refine bq3 ?_ ?_ _ | refine bq4 ?_ | refine bq5 ?_ _) | (apply bthen2; (with_reducible assumption)) | go_size))
      have c0 := Bc.2.1 0 _ rfl; have c1 := Bc.2.1 1 _ rfl; have cl := Bc.1
      go_wp2_with fail
      refine (HC.out _).mono ?_
      rintro e9 wb ⟨ca, cl, cc, rfl, hown, hbb⟩
      obtain ⟨ca', cc', hsl⟩ := hown.slice
      obtain ⟨rfl, rfl, rfl⟩ : ca = ca' ∧ cl = L.length ∧ cc = cc' := by simpa using hsl
      clear hsl
      have Bd := Bc.below hbb
      have PT1 := hown.pts
      have hB2 := bthen2 hbb hB
      have d0 := Bd.2.1 0 _ rfl; have d1 := Bd.2.1 1 _ rfl; have dl := Bd.1
      go_wp2_with fail
      refine (HG.out _ _ _ _ ?_).mono ?_
      · exact PT1
      rintro e9 W1 ⟨rfl, hbd⟩
      have hB3 := bthen2 hbd hB2
      have PT := PT1.below hbd
      have Bk := Bd.below hbd
      have hz3 := hB3.size
      have hcl := Bk.1
      clear PT1 hown HG HC HF hba hbb hbd Bc Bd c0 c1 cl d0 d1 dl hB hB2
      go_wp2_with fail
      go_loopw [6, 7, 28] (fun v6 v7 v28 wr => ∃ k : Nat, v28 = .int .i64 k ∧ k ≤ L.length ∧ TG w.heap.size F1 (fx, fy, fe) M (L.take k) v6 v7 wr ∧ Below W1.heap.size W1 wr) (fun _ _ v28 _ => (L.length - intOf v28).toNat)
      case atStart => exact ⟨0, rfl, by omega, .inl ⟨rfl, rfl, rfl⟩, Below.refl _ _⟩
      case round =>
        obtain ⟨k, rfl, hk, HTG, hbw⟩ := hrel
        have hzw := hbw.size
        have Bw := Bk.below hbw
        have c0 := Bw.2.1 0 _ rfl; have c1 := Bw.2.1 1 _ rfl; have cl := Bw.1
        by_cases hlt : k < L.length
        · obtain ⟨⟨px, py, pe⟩, hp⟩ : ∃ p, L[k]? = some p := ⟨_, List.getElem?_eq_getElem hlt⟩
          obtain ⟨ca2, cc2, hsl, hml2, hcells⟩ := PT.below hbw
          obtain ⟨b9, off, ha, hbl, x0, x1, x2⟩ := hcells k _ hp
          have hca : ca = some ⟨b9, off, none⟩ := by
            have : ca = ca2 := by simpa using congrArg (fun v => match v with | Value.slice a _ _ => a | _ => none) hsl
            rw [this, ha]
          subst hca
          clear hcells hsl ha
          have HOO := HO.out px py pe (HPV.out _ (List.mem_of_getElem? hp))
          simp only at x0 x1 x2
          have hlt' : (k : Int) < (L.length : Int) := by omega
          have hft := find_take F1 L k _ hp
          have hfp := HF1.out (px, py, pe)
          generalize ordV a (px, py, pe) = ov at *
          rcases HTG with ⟨h0, rfl, rfl⟩ | ⟨h0, a6, c6, a7, c7, rfl, rfl, o6, p7⟩
          · by_cases ho : ov.1 = n
            · have hfe := find_first hp h0 (by rw [hfp]; simpa using ho) HFD.out
              simp only [Prod.mk.injEq] at hfe
              obtain ⟨rfl, rfl, rfl⟩ := hfe
              rw [ho] at HOO
              have HNF := Lib.hid (show (L.take (k + 1)).find? F1 = some (px, py, pe) from by rw [hft, h0, hfp]; simp [ho])
              have HOO := Lib.hid HOO
              clear hft hfp h0 hp ho HO HPV HF1 HFD HCN HTH
              go_wp2_with fail
              refine (HOO.out _).mono ?_
              rintro e9 wb ⟨rfl, hbb⟩
              have hzb := hbb.size
              have Bp2 := Box.below (show Box _ wr.heap.size [.int .i64 px, .int .i64 py, .int .i64 pe] from box_three (by simp) (by simp) (by simp) (by simp) (fun o => by simp)) hbb
              have Bc2 := (Box.alloc Bw (Obj.cells #[.int .i64 px, .int .i64 py, .int .i64 pe] 34)).below hbb
              have s0 := Bp2.2.1 0 _ rfl; have s1 := Bp2.2.1 1 _ rfl; have s2 := Bp2.2.1 2 _ rfl; have sl := Bp2.1
              have hBb : Below W1.heap.size W1 wb := by repeat' (first | (with_reducible first | exact bq1 _ _ | assumption | refine bq2 ?_ ?_ _ | refine bq3 ?_ ?_ _ | refine bq4 ?_ | refine bq5 ?_ _) | (apply bthen2; (with_reducible assumption)) | go_size)
              have hzb2 := hBb.size
              clear hzb
              go_wp2_with (first | (at_builtin; refine wpl_appP rfl _ _ rfl (wb.heap.size + 1) (.slice none 0 0) [] rfl (OwnP.nil _ _) wb.heap.size 1 (px, py, pe) rfl (by simp) (by simp) (by simp) (by simp) (Below.refl _ _) (by simp) ?_; intro ap cp wp hownp hbwp hszp; have X1 := (Box.alloc Bc2 (Obj.cells #[.int .i64 px, .int .i64 py, .int .i64 pe] 34)).belowN hbwp (by omega); have X2 := (Box.alloc Bp2 (Obj.cells #[.int .i64 px, .int .i64 py, .int .i64 pe] 34)).belowN hbwp (by omega); have u0 := X1.2.1 0 _ rfl; have u1 := X1.2.1 1 _ rfl; have ul := X1.1; have v0 := X2.2.1 0 _ rfl; have v1 := X2.2.1 1 _ rfl; have v2 := X2.2.1 2 _ rfl; have vl := X2.1))
              have hBp : Below W1.heap.size W1 wp := by
                have h1 : Below W1.heap.size W1 (wb.alloc (Obj.cells #[.int .i64 px, .int .i64 py, .int .i64 pe] 34)) := Below.alloc hBb (by omega) _
                exact h1.trans (hbwp.mono (by omega))
              refine (HM.out _).mono ?_
              rintro e9 wm ⟨(⟨hno, -⟩ | ⟨-, a7, l7, c7, rfl, o7⟩), hbm⟩
              · exact absurd hno HFIN.out
              rw [HMLE.out] at o7
              have h7 := o7.slice
              obtain ⟨a7', c7', hsl7⟩ := h7
              obtain ⟨rfl, rfl, rfl⟩ : a7 = a7' ∧ l7 = M.length ∧ c7 = c7' := by simpa using hsl7
              clear hsl7
              have o6 := (hownp.below hbm).mono (show w.heap.size ≤ wb.heap.size + 1 by omega)
              simp only [List.nil_append, List.length_nil, Nat.zero_add] at o6
              have hBm : Below W1.heap.size W1 wm := by repeat' (first | (with_reducible first | exact bq1 _ _ | assumption | refine bq2 ?_ ?_ _ | refine bq3 ?_ ?_ _ | refine bq4 ?_ | refine bq5 ?_ _) | (apply bthen2; (with_reducible assumption)) | go_size)
              have p7 := o7.pts
              clear X1 X2 u0 u1 ul v0 v1 v2 vl hownp hbwp o7
              go_wp2_with fail
              go_roundw
              case rel => exact ⟨k + 1, rfl, by omega, .inr ⟨HNF.out, _, _, _, _, rfl, rfl, o6, p7⟩, hBm⟩
              case measure => simp [intOf]; omega
            · have HNF := Lib.hid (show (L.take (k + 1)).find? F1 = none from by rw [hft, h0, hfp]; simp [ho])
              have hq : (ov.1 == (n : Int)) = false := by simpa using ho
              have HOO := Lib.hid HOO
              clear hft hfp h0 hp HO HPV HF1 HFD HCN HTH
              go_wp2_with fail
              refine (HOO.out _).mono ?_
              rintro e9 wb ⟨rfl, hbb⟩
              have hzb := hbb.size
              go_wp2_with fail
              go_roundw
              case rel => exact ⟨k + 1, rfl, by omega, .inl ⟨HNF.out, rfl, rfl⟩, gr⟩
              case measure => simp [intOf]; omega
          · have HNF := Lib.hid (show (L.take (k + 1)).find? F1 = some (fx, fy, fe) from by rw [hft, h0]; rfl)
            have HOO := Lib.hid HOO
            clear hft hfp h0 hp HO HPV HF1 HFD HCN HTH
            by_cases ho : ov.1 = n
            all_goals
              have hq := Lib.hid ho
              first | (have hq1 : (ov.1 == (n : Int)) = true := by simpa using ho) | (have hq1 : (ov.1 == (n : Int)) = false := by simpa using ho)
              clear hq
              (try clear ho)
              go_wp2_with fail
              refine (HOO.out _).mono ?_
              rintro e9 wb ⟨rfl, hbb⟩
              have hzb := hbb.size
              have hbb2 : Below wr.heap.size wr wb := by repeat' (first | (with_reducible first | exact bq1 _ _ | assumption | refine bq2 ?_ ?_ _ | refine bq3 ?_ ?_ _ | refine bq4 ?_ | refine bq5 ?_ _) | (apply bthen2; (with_reducible assumption)) | go_size)
              go_wp2_with fail
              go_roundw
              case rel => exact ⟨k + 1, rfl, by omega, .inr ⟨HNF.out, _, _, _, _, rfl, rfl, o6.below hbb2, p7.below hbb2⟩, gr⟩
              case measure => simp [intOf]; omega
        · obtain rfl : k = L.length := by omega
          have htk : L.take L.length = L := List.take_length
          rcases HTG with ⟨h0, -, -⟩ | ⟨-, a6, c6, a7, c7, rfl, rfl, o6, p7⟩
          · exfalso
            rw [htk, HFD.out] at h0
            cases h0
          have PT2 := PT.below hbw
          have hBw := bthen hB3 hbw
          have hz4 := hBw.size
          have HML2 := Lib.hid (show (M.length : Int) = n by rw [HML.out])
          clear htk HF1 HFD HM HMLE HFIN c0 c1 cl Bk PT hB3 hbw hqn hqn' hlt HML
          go_wp2_with fail
          go_loopw [60] (fun v60 wr2 => ∃ k : Nat, v60 = .int .i64 k ∧ k ≤ L.length ∧ Hid ((n : Int) < (L.length : Int) → (L.take k).find? F2 = none) ∧ Below wr.heap.size wr wr2) (fun v60 _ => (L.length - intOf v60).toNat)
          case atStart => exact ⟨0, rfl, by omega, Lib.hid (fun _ => rfl), Below.refl _ _⟩
          case round =>
            obtain ⟨k, rfl, hk, HN, hbr⟩ := hrel
            have hzr := hbr.size
            have Br := Bw.below hbr
            have o6r := o6.below hbr; have p7r := p7.below hbr
            have c0 := Br.2.1 0 _ rfl; have c1 := Br.2.1 1 _ rfl; have cl := Br.1
            by_cases hlt : k < L.length
            · obtain ⟨⟨px, py, pe⟩, hp⟩ : ∃ p, L[k]? = some p := ⟨_, List.getElem?_eq_getElem hlt⟩
              obtain ⟨ca2, cc2, hsl, hml3, hcells⟩ := PT2.below hbr
              obtain ⟨b9, off, ha, hbl, x0, x1, x2⟩ := hcells k _ hp
              have hca : ca = some ⟨b9, off, none⟩ := by
                have : ca = ca2 := by simpa using congrArg (fun v => match v with | Value.slice a _ _ => a | _ => none) hsl
                rw [this, ha]
              subst hca
              clear hcells hsl ha
              have HOO := HO.out px py pe (HPV.out _ (List.mem_of_getElem? hp))
              simp only at x0 x1 x2
              have hlt' : (k : Int) < (L.length : Int) := by omega
              have hft := find_take F2 L k _ hp
              have hfp := HTH.out (px, py, pe)
              have HCC := Lib.hid (fun ca cl cc W h => HCN.out px py pe ca cl cc W h)
              generalize decide ((px, py, pe) ∈ M) = inM at *
              generalize ordV a (px, py, pe) = ov at *
              by_cases hnl : n < M.length + (L.length - n) ∧ n < L.length
              · have hlt2 : (M.length : Int) < (L.length : Int) := by have := HML2.out; omega
                have hnl2 : (n : Int) < (L.length : Int) := by omega
                have h0 := HN.out hnl2
                by_cases ho : ov.1 = 2
                · rw [ho] at HOO
                  have HOO := Lib.hid HOO
                  cases inM
                  · have HSS := Lib.hid (show S = [(px, py, pe)] from by
                      rw [← HS.out, if_pos hnl2]
                      have h1 : (L.take (k + 1)).find? F2 = some (px, py, pe) := by rw [hft, h0, hfp]; simp [ho]
                      have h2 : L.find? F2 = (L.take (k + 1) ++ L.drop (k + 1)).find? F2 := by rw [List.take_append_drop]
                      rw [h2, List.find?_append, h1]; rfl)
                    clear hft hfp h0 hp ho HO HPV HCN HTH HN HS hnl hnl2
                    go_wp2_with fail
                    refine (HOO.out _).mono ?_
                    rintro e9 wb ⟨rfl, hbb⟩
                    have hzb := hbb.size
                    have Bp2 := Box.below (show Box _ wr.heap.size [.int .i64 px, .int .i64 py, .int .i64 pe] from box_three (by simp) (by simp) (by simp) (by simp) (fun o => by simp)) hbb
                    have s0 := Bp2.2.1 0 _ rfl; have s1 := Bp2.2.1 1 _ rfl; have s2 := Bp2.2.1 2 _ rfl; have sl := Bp2.1
                    have hbb2 : Below wr.heap.size wr wb := by repeat' (first | (with_reducible first | exact bq1 _ _ | assumption | refine bq2 ?_ ?_ _ | refine bq3 ?_ ?_ _ | refine bq4 ?_ | refine bq5 ?_ _) | (apply bthen2; (with_reducible assumption)) | go_size)
                    have p7b := p7r.below hbb2; have o6b := o6r.below hbb2
                    go_wp2_with fail
                    refine (HCC.out _ _ _ _ ?_).mono ?_
                    · exact p7b
                    rintro e9 wc ⟨rfl, hbc⟩
                    have Bp3 := Bp2.below hbc
                    have t0 := Bp3.2.1 0 _ rfl; have t1 := Bp3.2.1 1 _ rfl; have t2 := Bp3.2.1 2 _ rfl; have tl := Bp3.1
                    have o6c := o6b.below hbc
                    have hBc : Below w.heap.size w wc := by
                      have h1 := bthen hBw hbr
                      have h2 := bthen h1 hbb2
                      exact bthen h2 hbc
                    have hzc := hBc.size
                    clear s0 s1 s2 sl
                    go_wp2_with (first | (at_builtin; refine wpl_appP rfl _ _ rfl w.heap.size (.slice a6 1 c6) [(fx, fy, fe)] rfl (o6c.alloc _) wc.heap.size 1 (px, py, pe) rfl (by simp) (by simp) (by simp) (by simp) (Below.alloc hBc (by omega) _) (by simp; omega) ?_; intro ap cp wp hownp hbwp hszp))
                    go_ret2
                    exact ⟨_, _, _, rfl, by rw [HSS.out]; exact hownp, hbwp⟩
                  · have HNN := Lib.hid (show (n : Int) < (L.length : Int) → (L.take (k + 1)).find? F2 = none from fun _ => by rw [hft, h0, hfp]; simp)
                    clear hft hfp h0 hp ho HO HPV HCN HTH HN HS hnl hnl2
                    go_wp2_with fail
                    refine (HOO.out _).mono ?_
                    rintro e9 wb ⟨rfl, hbb⟩
                    have hzb := hbb.size
                    have Bp2 := Box.below (show Box _ wr.heap.size [.int .i64 px, .int .i64 py, .int .i64 pe] from box_three (by simp) (by simp) (by simp) (by simp) (fun o => by simp)) hbb
                    have s0 := Bp2.2.1 0 _ rfl; have s1 := Bp2.2.1 1 _ rfl; have s2 := Bp2.2.1 2 _ rfl; have sl := Bp2.1
                    have hbb2 : Below wr.heap.size wr wb := by repeat' (first | (with_reducible first | exact bq1 _ _ | assumption | refine bq2 ?_ ?_ _ | refine bq3 ?_ ?_ _ | refine bq4 ?_ | refine bq5 ?_ _) | (apply bthen2; (with_reducible assumption)) | go_size)
                    have p7b := p7r.below hbb2
                    go_wp2_with fail
                    refine (HCC.out _ _ _ _ ?_).mono ?_
                    · exact p7b
                    rintro e9 wc ⟨rfl, hbc⟩
                    have hzc := hbc.size
                    go_wp2_with fail
                    go_roundw
                    case rel => exact ⟨k + 1, rfl, by omega, HNN, gr⟩
                    case measure => simp [intOf]; omega
                · have HNN := Lib.hid (show (n : Int) < (L.length : Int) → (L.take (k + 1)).find? F2 = none from fun _ => by rw [hft, h0, hfp]; simp [ho])
                  have hq : (ov.1 == 2) = false := by simpa using ho
                  have HOO := Lib.hid HOO
                  clear hft hfp h0 hp HO HPV HCN HTH HN HS hnl hnl2
                  go_wp2_with fail
                  refine (HOO.out _).mono ?_
                  rintro e9 wb ⟨rfl, hbb⟩
                  have hzb := hbb.size
                  go_wp2_with fail
                  go_roundw
                  case rel => exact ⟨k + 1, rfl, by omega, HNN, gr⟩
                  case measure => simp [intOf]; omega
              · have hlt2 : ¬ (M.length : Int) < (L.length : Int) := by have := HML2.out; omega
                have HNN := Lib.hid (show (n : Int) < (L.length : Int) → (L.take (k + 1)).find? F2 = none from fun h => by have := HML2.out; omega)
                have HOO := Lib.hid HOO
                clear hft hfp hp HO HPV HCN HTH HN HS hnl
                go_wp2_with fail
                refine (HOO.out _).mono ?_
                rintro e9 wb ⟨rfl, hbb⟩
                have hzb := hbb.size
                go_wp2_with fail
                go_roundw
                case rel => exact ⟨k + 1, rfl, by omega, HNN, gr⟩
                case measure => simp [intOf]; omega
            · obtain rfl : k = L.length := by omega
              have HSS := Lib.hid (show S = [] from by
                rw [← HS.out]
                split
                · rename_i h
                  have := HN.out h
                  rw [List.take_length] at this
                  rw [this]; rfl
                · rfl)
              clear HS HN HO HPV HCN HTH
              go_wp2_with fail
              go_ret2
              exact ⟨_, _, _, rfl, by rw [HSS.out]; exact o6r, bthen hBw hbr⟩
set_option maxRecDepth 100000 in
set_option maxHeartbeats 8000000 in
theorem sTorsionGenerators_any (a b : Int) (w : World) : Calls Tryz.prog 23 #[.agg #[.int .i64 a, .int .i64 b]] w (GivesPB (tgPP a b) (isC a b) w) := by
  have HF := Lib.hid (fun w => ecGood_any a b w)
  unfold tgPP
  cases g1 : isC a b
  · rw [g1] at HF
    rw [if_neg (by simp)]
    go_enter Tryz.func23, Tryz.ntmps23
    go_wp2_with (first | (go_at_call 44; refine (HF.out _).mono ?_; rintro e wa ⟨rfl, hba⟩; have hza := hba.size; (try simp only [wz1, wz2, wz3, wz4] at hza); try (refine keepc hba (w.heap.size) ?_ ?_; (focus (first | omega | (simp <;> omega))); intro hca_0 hfa_0 hla_0); try (refine keepc hba (w.heap.size + 1) ?_ ?_; (focus (first | omega | (simp <;> omega))); intro hca_1 hfa_1 hla_1); try (refine keepc hba (w.heap.size + 1 + 1) ?_ ?_; (focus (first | omega | (simp <;> omega))); intro hca_2 hfa_2 hla_2)))
    go_ret2
    exact ⟨none, 0, 0, rfl, OwnP.nil _ _, gr⟩
  · rw [g1] at HF
    rw [if_pos rfl]
    unfold tgPs
    have HC := Lib.hid (fun w => toPoints_any a b g1 w)
    have hlen := tps_len a b
    by_cases h1 : gmV a b = 1
    · have hl1 := (gmV_one g1).1 h1
      rw [if_pos h1]
      clear h1
      generalize tps a b = L at *
      have hl2 : (L.length : Int) = 1 := by omega
      have HL1 := Lib.hid hl1
      obtain ⟨l, hl⟩ : ∃ l, L.length = l := ⟨_, rfl⟩
      go_enter Tryz.func23, Tryz.ntmps23
      go_wp2_with fail
      refine (HF.out _).mono ?_
      rintro e9 wa ⟨rfl, hba⟩
      have Bc := Box.below (show Box _ w.heap.size [.int .i64 a, .int .i64 b] from box_made2 _ _ _ _) hba
      have hB := bthen2 hba (show Below w.heap.size w (w.alloc (Obj.cells #[.int .i64 a, .int .i64 b] 25)) by repeat' (first | (with_reducible first | exact bq1 _ _ | assumption | refine bq2 ?_ ?_ _ | refine bq3 ?_ ?_ _ | refine bq4 ?_ | refine bq5 ?_ _) | (apply bthen2; (with_reducible assumption)) | go_size))
      have c0 := Bc.2.1 0 _ rfl; have c1 := Bc.2.1 1 _ rfl; have cl := Bc.1
      clear hl1 hl2 hl
      go_wp2_with fail
      refine (HC.out _).mono ?_
      rintro e9 wb ⟨ca, cl, cc, rfl, hown, hbb⟩
      obtain ⟨ca', cc', hsl⟩ := hown.slice
      have hcl1 : cl = 1 := by have := HL1.out; have : cl = L.length := by simpa using congrArg (fun v => match v with | Value.slice _ l _ => l | _ => 0) hsl
                               omega
      subst hcl1
      clear hsl hown
      have hB2 := bthen2 hbb hB
      go_wp2_with fail
      go_ret2
      exact ⟨none, 0, 0, rfl, OwnP.nil _ _, gr⟩
    · rw [if_neg h1]
      have hlne : (tps a b).length ≠ 1 := fun h => h1 ((gmV_one g1).2 h)
      obtain ⟨n, hT⟩ := tps_tor g1 (List.mem_of_find?_eq_some (tg_find (A := a) (B := b)))
      have hGn : gmV a b = n := by
        have h1 := List.find?_some (tg_find (A := a) (B := b))
        have h2 := hT.ord
        simp only [beq_iff_eq] at h1
        omega
      have hn1 : ¬ n = 1 := by omega
      have hn2 := hT.lo
      have hn3 := hT.hi
      have hml2 := hT.le_tps g1
      have HG := Lib.hid (fun ca cl cc W h => toMost_any a b g1 (tps a b) (tps_PV g1) (by have := tps_len a b; omega) ca cl cc W h)
      rw [tm_gmV, show (tmL a (tps a b) ((0, 0, 0), 0)).1 = tgF a b from rfl, hGn] at HG
      rw [hGn]
      obtain ⟨⟨fx, fy, fe⟩, hf⟩ : ∃ f, tgF a b = f := ⟨_, rfl⟩
      rw [hf] at hT HG ⊢
      have HM := Lib.hid (fun W => toMultiples_any a b fx fy fe n g1 hT W)
      rw [show ((n : Int)).toNat = n from Int.toNat_natCast n]
      have hmem : ∀ p, p ∈ (0, 0, 0) :: mlL a (fx, fy, fe) (n - 1) ↔ p ∈ mlL a (fx, fy, fe) n := by
        intro p
        have h3 : mlL a (fx, fy, fe) n = mlL a (fx, fy, fe) (n - 1) ++ [(0, 0, 0)] := by
          have h4 := mlL_succ (A := a) (p := (fx, fy, fe)) (n := n - 1) (q := (0, 0, 0)) (by rw [show n - 1 + 1 = n by omega]; exact hT.fin)
          rwa [show n - 1 + 1 = n by omega] at h4
        rw [h3, List.mem_append, List.mem_cons, List.mem_singleton]
        exact or_comm
      have hmlen : ((0, 0, 0) :: mlL a (fx, fy, fe) (n - 1)).length ≤ 1000000 := by
        have := mlL_len a (fx, fy, fe) (n - 1)
        simp only [List.length_cons]; omega
      have HCN := Lib.hid (fun x y e ca cl cc W h => toHas_any x y e ((0, 0, 0) :: mlL a (fx, fy, fe) (n - 1)) hmlen ca cl cc W h)
      have HTH := Lib.hid (show ∀ p, tgH a (mlL a (fx, fy, fe) n) p = (decide ((ordV a p).1 = 2) && !decide (p ∈ (0, 0, 0) :: mlL a (fx, fy, fe) (n - 1))) from fun p => by
        unfold tgH; rw [decide_eq_decide.2 (hmem p)])
      have HO := Lib.hid (fun x y e (h : EC.PV a b (x, y, e)) W => toOrder_any a b x y e g1 h W)
      have HPV := Lib.hid (tps_PV g1)
      clear hf g1 hT hmem hmlen h1 hGn hn1
      generalize (0, 0, 0) :: mlL a (fx, fy, fe) (n - 1) = M at *
      generalize tgH a (mlL a (fx, fy, fe) n) = F2 at *
      generalize tps a b = L at *
      have hl2 : ((L.length : Int) == 1) = false := by simp; omega
      have hl3 : ¬ (L.length : Int) = 1 := by omega
      by_cases hnl : n = L.length
      · rw [if_neg (by omega)]
        subst hnl
        clear HM HCN HTH HO HPV
        go_enter Tryz.func23, Tryz.ntmps23
        go_wp2_with fail
        refine (HF.out _).mono ?_
        rintro e9 wa ⟨rfl, hba⟩
        have Bc := Box.below (show Box _ w.heap.size [.int .i64 a, .int .i64 b] from box_made2 _ _ _ _) hba
        have hB := bthen2 hba (show Below w.heap.size w (w.alloc (Obj.cells #[.int .i64 a, .int .i64 b] 25)) by repeat' (first | (with_reducible first | exact bq1 _ _ | assumption | refine bq2 ?_ ?_ _ | refine bq3 ?_ ?_ _ | refine bq4 ?_ | refine bq5 ?_ _) | (apply bthen2; (with_reducible assumption)) | go_size))
        have c0 := Bc.2.1 0 _ rfl; have c1 := Bc.2.1 1 _ rfl; have cl := Bc.1
        go_wp2_with fail
        refine (HC.out _).mono ?_
        rintro e9 wb ⟨ca, cl, cc, rfl, hown, hbb⟩
        obtain ⟨ca', cc', hsl⟩ := hown.slice
        obtain ⟨rfl, rfl, rfl⟩ : ca = ca' ∧ cl = L.length ∧ cc = cc' := by simpa using hsl
        clear hsl
        have Bd := Bc.below hbb
        have PT := hown.pts
        have hB2 := bthen2 hbb hB
        have d0 := Bd.2.1 0 _ rfl; have d1 := Bd.2.1 1 _ rfl; have dl := Bd.1
        go_wp2_with fail
        refine (HG.out _ _ _ _ ?_).mono ?_
        · exact PT
        rintro e9 wd ⟨rfl, hbd⟩
        have hB3 := bthen2 hbd hB2
        have hz3 := hB3.size
        clear PT hown
        go_wp2_with fail
        go_ret2
        refine ⟨_, _, _, rfl, ?_, gr⟩
        have h9 := ownP_lit1 (wd.alloc (Obj.cells #[.int .i64 fx, .int .i64 fy, .int .i64 fe] 34)) (fx, fy, fe)
        simp only [World.size_alloc] at h9
        first | exact h9.mono (by omega) | (simp; exact h9.mono (by omega))
      · rw [if_pos (by omega)]
        have hnl2 : ((n : Int) == (L.length : Int)) = false := by simp; omega
        have hnl3 : ¬ (n : Int) = (L.length : Int) := by omega
        obtain ⟨S, hS⟩ : ∃ S, (L.find? F2).toList = S := ⟨_, rfl⟩
        rw [hS]
        have HS := Lib.hid hS
        clear hS hnl
        go_enter Tryz.func23, Tryz.ntmps23
        go_wp2_with fail
        refine (HF.out _).mono ?_
        rintro e9 wa ⟨rfl, hba⟩
        have Bc := Box.below (show Box _ w.heap.size [.int .i64 a, .int .i64 b] from box_made2 _ _ _ _) hba
        have hB := bthen2 hba (show Below w.heap.size w (w.alloc (Obj.cells #[.int .i64 a, .int .i64 b] 25)) by repeat' (first | (with_reducible first | exact bq1 _ _ | assumption | refine bq2 ?_ ?_ _ | refine bq3 ?_ ?_ _ | refine bq4 ?_ | refine bq5 ?_ _) | (apply bthen2; (with_reducible assumption)) | go_size))
        have c0 := Bc.2.1 0 _ rfl; have c1 := Bc.2.1 1 _ rfl; have cl := Bc.1
        go_wp2_with fail
        refine (HC.out _).mono ?_
        rintro e9 wb ⟨ca, cl, cc, rfl, hown, hbb⟩
        obtain ⟨ca', cc', hsl⟩ := hown.slice
        obtain ⟨rfl, rfl, rfl⟩ : ca = ca' ∧ cl = L.length ∧ cc = cc' := by simpa using hsl
        clear hsl
        have Bd := Bc.below hbb
        have PT := hown.pts
        have hB2 := bthen2 hbb hB
        have d0 := Bd.2.1 0 _ rfl; have d1 := Bd.2.1 1 _ rfl; have dl := Bd.1
        go_wp2_with fail
        refine (HG.out _ _ _ _ ?_).mono ?_
        · exact PT
        rintro e9 wd ⟨rfl, hbd⟩
        have hB3 := bthen2 hbd hB2
        have hz3 := hB3.size
        have PT1 := PT.below hbd
        have Be := Bd.below hbd
        have e0 := Be.2.1 0 _ rfl; have e1 := Be.2.1 1 _ rfl; have el := Be.1
        clear PT hown Bc Bd c0 c1 cl d0 d1 dl hba hbb hbd hB hB2 HF HC HG
        go_wp2_with fail
        refine (HM.out _).mono ?_
        rintro e9 W1 ⟨a8, l8, c8, rfl, o8, hb8⟩
        obtain ⟨a8', c8', hsl8⟩ := o8.slice
        obtain ⟨rfl, rfl, rfl⟩ : a8 = a8' ∧ l8 = M.length ∧ c8 = c8' := by simpa using hsl8
        clear hsl8
        have P8 := o8.pts
        have hbd1 : Below wd.heap.size wd W1 := by repeat' (first | (with_reducible first | exact bq1 _ _ | assumption | refine bq2 ?_ ?_ _ | refine bq3 ?_ ?_ _ | refine bq4 ?_ | refine bq5 ?_ _) | (apply bthen2; (with_reducible assumption)) | go_size)
        have hB4 : Below w.heap.size w W1 := bthen hB3 hbd1
        have hz4 := hB4.size
        have PT2 := PT1.below hbd1
        have Bk := Be.below hbd1
        have OO : OwnP W1 w.heap.size (.slice (some ⟨wd.heap.size + 1, 0, none⟩) 1 1) [(fx, fy, fe)] := by
          have h9 := ownP_lit1 (wd.alloc (Obj.cells #[.int .i64 fx, .int .i64 fy, .int .i64 fe] 34)) (fx, fy, fe)
          simp only [World.size_alloc] at h9
          exact (h9.below hb8).mono (by omega)
        clear o8 PT1 Be e0 e1 el hB3 hbd1 hb8
        go_wp2_with fail
        go_loopw [37] (fun v37 wr2 => ∃ k : Nat, v37 = .int .i64 k ∧ k ≤ L.length ∧ Hid ((L.take k).find? F2 = none) ∧ Below W1.heap.size W1 wr2) (fun v37 _ => (L.length - intOf v37).toNat)
        case atStart => exact ⟨0, rfl, by omega, Lib.hid rfl, Below.refl _ _⟩
        case round =>
          obtain ⟨k, rfl, hk, HN, hbr⟩ := hrel
          have hzr := hbr.size
          have Br := Bk.below hbr
          have o6r := OO.below hbr; have p7r := P8.below hbr
          have c0 := Br.2.1 0 _ rfl; have c1 := Br.2.1 1 _ rfl; have cl := Br.1
          by_cases hlt : k < L.length
          · obtain ⟨⟨px, py, pe⟩, hp⟩ : ∃ p, L[k]? = some p := ⟨_, List.getElem?_eq_getElem hlt⟩
            obtain ⟨ca2, cc2, hsl, hml3, hcells⟩ := PT2.below hbr
            obtain ⟨b9, off, ha, hbl, x0, x1, x2⟩ := hcells k _ hp
            have hca : ca = some ⟨b9, off, none⟩ := by
              have : ca = ca2 := by simpa using congrArg (fun v => match v with | Value.slice a _ _ => a | _ => none) hsl
              rw [this, ha]
            subst hca
            clear hcells hsl ha
            have HOO := HO.out px py pe (HPV.out _ (List.mem_of_getElem? hp))
            simp only at x0 x1 x2
            have hlt' : (k : Int) < (L.length : Int) := by omega
            have hft := find_take F2 L k _ hp
            have hfp := HTH.out (px, py, pe)
            have h0 := HN.out
            have HCC := Lib.hid (fun ca cl cc W h => HCN.out px py pe ca cl cc W h)
            generalize decide ((px, py, pe) ∈ M) = inM at *
            generalize (ordV a (px, py, pe)).1 = ov at *
            by_cases ho : ov = 2
            · rw [ho] at HOO
              have HOO := Lib.hid HOO
              cases inM
              · have HSS := Lib.hid (show S = [(px, py, pe)] from by
                  rw [← HS.out]
                  have h1 : (L.take (k + 1)).find? F2 = some (px, py, pe) := by rw [hft, h0, hfp]; simp [ho]
                  have h2 : L.find? F2 = (L.take (k + 1) ++ L.drop (k + 1)).find? F2 := by rw [List.take_append_drop]
                  rw [h2, List.find?_append, h1]; rfl)
                clear hft hfp h0 hp ho HO HPV HCN HTH HN HS hnl2 hnl3 hl2 hl3
                go_wp2_with fail
                refine (HOO.out _).mono ?_
                rintro e9 wb ⟨rfl, hbb⟩
                have hzb := hbb.size
                have Bp2 := Box.below (show Box _ wr.heap.size [.int .i64 px, .int .i64 py, .int .i64 pe] from box_three (by simp) (by simp) (by simp) (by simp) (fun o => by simp)) hbb
                have s0 := Bp2.2.1 0 _ rfl; have s1 := Bp2.2.1 1 _ rfl; have s2 := Bp2.2.1 2 _ rfl; have sl := Bp2.1
                have hbb2 : Below wr.heap.size wr wb := by repeat' (first | (with_reducible first | exact bq1 _ _ | assumption | refine bq2 ?_ ?_ _ | refine bq3 ?_ ?_ _ | refine bq4 ?_ | refine bq5 ?_ _) | (apply bthen2; (with_reducible assumption)) | go_size)
                have p7b := p7r.below hbb2; have o6b := o6r.below hbb2
                go_wp2_with fail
                refine (HCC.out _ _ _ _ ?_).mono ?_
                · exact p7b
                rintro e9 wc ⟨rfl, hbc⟩
                have Bp3 := Bp2.below hbc
                have t0 := Bp3.2.1 0 _ rfl; have t1 := Bp3.2.1 1 _ rfl; have t2 := Bp3.2.1 2 _ rfl; have tl := Bp3.1
                have o6c := o6b.below hbc
                have hBc : Below w.heap.size w wc := by
                  have h1 := bthen hB4 hbr
                  have h2 := bthen h1 hbb2
                  exact bthen h2 hbc
                have hzc := hBc.size
                clear s0 s1 s2 sl
                go_wp2_with (first | (at_builtin; refine wpl_appP rfl _ _ rfl w.heap.size (.slice (some ⟨wd.heap.size + 1, 0, none⟩) 1 1) [(fx, fy, fe)] rfl (o6c.alloc _) wc.heap.size 1 (px, py, pe) rfl (by simp) (by simp) (by simp) (by simp) (Below.alloc hBc (by omega) _) (by simp; omega) ?_; intro ap cp wp hownp hbwp hszp))
                go_ret2
                exact ⟨_, _, _, rfl, by rw [HSS.out]; exact hownp, hbwp⟩
              · have HNN := Lib.hid (show (L.take (k + 1)).find? F2 = none from by rw [hft, h0, hfp]; simp)
                clear hft hfp h0 hp ho HO HPV HCN HTH HN HS hnl2 hnl3 hl2 hl3
                go_wp2_with fail
                refine (HOO.out _).mono ?_
                rintro e9 wb ⟨rfl, hbb⟩
                have hzb := hbb.size
                have Bp2 := Box.below (show Box _ wr.heap.size [.int .i64 px, .int .i64 py, .int .i64 pe] from box_three (by simp) (by simp) (by simp) (by simp) (fun o => by simp)) hbb
                have s0 := Bp2.2.1 0 _ rfl; have s1 := Bp2.2.1 1 _ rfl; have s2 := Bp2.2.1 2 _ rfl; have sl := Bp2.1
                have hbb2 : Below wr.heap.size wr wb := by repeat' (first | (with_reducible first | exact bq1 _ _ | assumption | refine bq2 ?_ ?_ _ | refine bq3 ?_ ?_ _ | refine bq4 ?_ | refine bq5 ?_ _) | (apply bthen2; (with_reducible assumption)) | go_size)
                have p7b := p7r.below hbb2
                go_wp2_with fail
                refine (HCC.out _ _ _ _ ?_).mono ?_
                · exact p7b
                rintro e9 wc ⟨rfl, hbc⟩
                have hzc := hbc.size
                go_wp2_with fail
                go_roundw
                case rel => exact ⟨k + 1, rfl, by omega, HNN, gr⟩
                case measure => simp [intOf]; omega
            · have HNN := Lib.hid (show (L.take (k + 1)).find? F2 = none from by rw [hft, h0, hfp]; simp [ho])
              have hq : (ov == 2) = false := by simpa using ho
              have HOO := Lib.hid HOO
              clear hft hfp h0 hp HO HPV HCN HTH HN HS hnl2 hnl3 hl2 hl3
              go_wp2_with fail
              refine (HOO.out _).mono ?_
              rintro e9 wb ⟨rfl, hbb⟩
              have hzb := hbb.size
              go_wp2_with fail
              go_roundw
              case rel => exact ⟨k + 1, rfl, by omega, HNN, gr⟩
              case measure => simp [intOf]; omega
          · obtain rfl : k = L.length := by omega
            have HSS := Lib.hid (show S = [] from by
              rw [← HS.out]
              have := HN.out
              rw [List.take_length] at this
              rw [this]; rfl)
            clear HS HN HO HPV HCN HTH
            go_wp2_with fail
            go_ret2
            exact ⟨_, _, _, rfl, by rw [HSS.out]; exact o6r, bthen hB4 hbr⟩
end Go.Proofs.YtjgdajeoeagggaaGreat
