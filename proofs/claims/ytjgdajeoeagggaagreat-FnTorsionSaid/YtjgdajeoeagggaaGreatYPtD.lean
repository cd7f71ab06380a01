import Derived.Test.YtjgdajeoeagggaaGreatYPtV
set_option linter.unusedSimpArgs false
set_option linter.unusedVariables false
namespace Go.Proofs.YtjgdajeoeagggaaGreat
open Go.RowKit
/-! ### the torsion points of an order -/
/-- The points that the closure strikes. -/
def poB (A n : Int) (p : P3) : Bool := (ordV A p).1 != n
set_option maxHeartbeats 2000000 in
theorem poC_any (A B x y e n : Int) (hC : isC A B = true) (hp : EC.PV A B (x, y, e)) (bc bn : Nat) (W : World) (h1 : Box W bc [.int .i64 A, .int .i64 B]) (h2 : Box W bn [.int .i64 n]) :
    Calls Tryz.prog 61 #[.agg #[.int .i64 x, .int .i64 y, .int .i64 e], .pointer (some ⟨bc, 0, none⟩), .pointer (some ⟨bn, 0, none⟩)] W (Gives (.bool (poB A n (x, y, e))) W) := by
  have HO := Lib.hid (fun W => orderOfPoint_any A B x y e hC hp W)
  have HB := Lib.hid (show poB A n (x, y, e) = ((ordV A (x, y, e)).1 != n) from rfl)
  generalize poB A n (x, y, e) = R at *
  generalize ordV A (x, y, e) = ov at *
  have H1 := Lib.hid h1; have H2 := Lib.hid h2
  have c0 := h1.2.1 0 _ rfl; have c1 := h1.2.1 1 _ rfl; have cl := h1.1
  have n0 := h2.2.1 0 _ rfl; have nl := h2.1
  clear hC hp h1 h2
  go_enter Tryz.func61, Tryz.ntmps61
  go_wp2_with fail
  refine (HO.out _).mono ?_
  rintro e9 wa ⟨rfl, hba⟩
  have B2 := (Box.alloc H2.out (Obj.cells #[.int .i64 x, .int .i64 y, .int .i64 e] 34)).below hba
  have m0 := B2.2.1 0 _ rfl; have ml := B2.1
  go_wp2_with fail
  go_ret
  exact gives (show Value.bool _ = Value.bool R from by rw [HB.out]) gr
def GivesIx (F : P3 → Bool) (L : List P3) (w : World) (e : Ending) (w' : World) : Prop :=
  ((e = .returned (.int .i64 (-1)) ∧ ∀ p ∈ L, F p = false) ∨ ∃ k : Nat, e = .returned (.int .i64 k) ∧ k < L.length ∧ (∀ p ∈ L.take k, F p = false) ∧ ∀ p, L[k]? = some p → F p = true) ∧ Below w.heap.size w w'
set_option maxRecDepth 100000 in
set_option maxHeartbeats 4000000 in
theorem IndexF_any (A B n : Int) (hC : isC A B = true) (L : List P3) (hL : ∀ p ∈ L, EC.PV A B p) (hL2 : L.length ≤ 1000000) (bc bn : Nat) (ca : Option Addr) (cl cc : Nat) (w : World) (hl : PtsR w (.slice ca cl cc) L) (h1 : Box w bc [.int .i64 A, .int .i64 B]) (h2 : Box w bn [.int .i64 n]) :
    Calls Tryz.prog 101 #[.slice ca cl cc, .func (.func 61) #[] #[.pointer (some ⟨bc, 0, none⟩), .pointer (some ⟨bn, 0, none⟩)]] w (GivesIx (poB A n) L w) := by
  obtain ⟨ca', cc', hsl, hml, -⟩ := id hl
  obtain ⟨rfl, rfl, rfl⟩ : ca = ca' ∧ cl = L.length ∧ cc = cc' := by simpa using hsl
  have HL := Lib.hid hl; have H1 := Lib.hid h1; have H2 := Lib.hid h2
  have HPV := Lib.hid hL
  have HF := Lib.hid (fun x y e (h : EC.PV A B (x, y, e)) W h1 h2 => poC_any A B x y e n hC h bc bn W h1 h2)
  clear hsl hl hml h1 h2 hL hC
  generalize poB A n = F at *
  go_enter Tryz.func101, Tryz.ntmps101
  go_wp2_with fail
  go_loopw [8] (fun v8 wr => ∃ k : Nat, v8 = .int .i64 k ∧ k ≤ L.length ∧ Hid (∀ p ∈ L.take k, F p = false) ∧ Below w.heap.size w wr) (fun v8 _ => (L.length - intOf v8).toNat)
  case atStart => exact ⟨0, rfl, by omega, Lib.hid (by simp), Below.refl _ _⟩
  case round =>
    obtain ⟨k, rfl, hk, HM, hbw⟩ := hrel
    have hzw := hbw.size
    have B1 := H1.out.below hbw; have B2 := H2.out.below hbw
    by_cases hlt : k < L.length
    · obtain ⟨⟨px, py, pe⟩, hp⟩ : ∃ p, L[k]? = some p := ⟨_, List.getElem?_eq_getElem hlt⟩
      obtain ⟨ca2, cc2, hsl, hml, hcells⟩ := HL.out.below hbw
      obtain ⟨b, off, ha, hbl, x0, x1, x2⟩ := hcells k _ hp
      have hca : ca = some ⟨b, off, none⟩ := by
        have : ca = ca2 := by simpa using congrArg (fun v => match v with | Value.slice a _ _ => a | _ => none) hsl
        rw [this, ha]
      subst hca
      clear hcells hsl ha
      simp only at x0 x1 x2
      have hlt' : (k : Int) < (L.length : Int) := by omega
      have HFF := HF.out px py pe (HPV.out _ (List.mem_of_getElem? hp))
      obtain ⟨q, hq⟩ : ∃ q, F (px, py, pe) = q := ⟨_, rfl⟩
      rw [hq] at HFF
      have HFF := Lib.hid HFF
      have HP := Lib.hid hp
      cases q
      · have HN := Lib.hid (show ∀ p ∈ L.take (k + 1), F p = false from by
          have e : L[k] = (px, py, pe) := by rw [List.getElem?_eq_getElem hlt] at hp; exact Option.some.inj hp
          rw [List.take_succ_eq_append_getElem hlt, e]
          intro p hm
          rcases List.mem_append.1 hm with h | h
          · exact HM.out p h
          · rw [List.mem_singleton.1 h]; exact hq)
        clear hp hq HM HF HPV
        go_wp2_with fail
        (try (go_quiet (fail); go_wp2_with fail))
        refine (HFF.out _ ?_ ?_).mono ?_
        · exact B1
        · exact B2
        rintro e9 wd ⟨rfl, hbd⟩
        have hzd := hbd.size
        go_wp2_with fail
        go_roundw
        case rel => exact ⟨k + 1, rfl, by omega, HN, by apply bthen hbw; repeat' (first | (with_reducible first | exact bq1 _ _ | assumption | refine bq2 ?_ ?_ _ | refine bq3 ?_ ?_ _ | refine bq4 ?_ | refine bq5 ?_ _) | (apply bthen2; (with_reducible assumption)) | go_size)⟩
        case measure => simp [intOf]; omega
      · have HQ := Lib.hid (show ∀ p, L[k]? = some p → F p = true from fun p h => by
          rw [hp] at h
          obtain rfl := Option.some.inj h
          exact hq)
        clear hp hq HF HPV
        go_wp2_with fail
        (try (go_quiet (fail); go_wp2_with fail))
        refine (HFF.out _ ?_ ?_).mono ?_
        · exact B1
        · exact B2
        rintro e9 wd ⟨rfl, hbd⟩
        have hzd := hbd.size
        go_wp2_with fail
        go_ret
        exact ⟨.inr ⟨k, rfl, hlt, HM.out, HQ.out⟩, by apply bthen hbw; repeat' (first | (with_reducible first | exact bq1 _ _ | assumption | refine bq2 ?_ ?_ _ | refine bq3 ?_ ?_ _ | refine bq4 ?_ | refine bq5 ?_ _) | (apply bthen2; (with_reducible assumption)) | go_size)⟩
    · obtain rfl : k = L.length := by omega
      have HN := Lib.hid (show ∀ p ∈ L, F p = false from by have := HM.out; rwa [List.take_length] at this)
      clear HM HF HPV
      go_wp2_with fail
      go_ret
      exact ⟨.inl ⟨rfl, HN.out⟩, hbw⟩
theorem OwnP.get {w : World} {B g len cap : Nat} {ps : List P3} (h : OwnP w B (.slice (some ⟨g, 0, none⟩) len cap) ps) : len = ps.length ∧ B ≤ g ∧ ∃ cur, w.heap[g]? = some (.cells cur 34 (0, 0)) ∧ ps.length ≤ cap ∧ cap ≤ maxLen ∧ cur.size = cap * 3 ∧ cur.toList.take (ps.length * 3) = flatP ps := by
  rcases h.2 with ⟨hv, -⟩ | ⟨g', cap', cur, hv, hg, hh, hc, hm, hs, ht⟩
  · cases hv
  · simp only [Value.slice.injEq, Option.some.injEq, Addr.mk.injEq, and_true] at hv
    obtain ⟨rfl, rfl, rfl⟩ := hv
    exact ⟨rfl, hg, cur, hh, hc, hm, hs, ht⟩
theorem flatP_take : ∀ (ps : List P3) (k : Nat), k ≤ ps.length → flatP (ps.take k) = (flatP ps).take (k * 3)
  | [], k, h => by simp at h; subst h; rfl
  | p :: ps, 0, _ => by simp [flatP]
  | (x, y, e) :: ps, k + 1, h => by
    have := flatP_take ps k (by simpa using h)
    rw [List.take_succ_cons, show (k + 1) * 3 = k * 3 + 1 + 1 + 1 by omega]
    simp [flatP, this]
theorem zeroP3 (n : Nat) : (Builtin.zeroCells (Value.agg #[.int .i64 0, .int .i64 0, .int .i64 0]).cells n).toList = List.replicate (n * 3) (.int .i64 0) := by
  have h : ∀ i : Nat, (#[Value.int .i64 0, .int .i64 0, .int .i64 0] : Array Value)[i % 3]! = .int .i64 0 := by
    intro i
    have : i % 3 = 0 ∨ i % 3 = 1 ∨ i % 3 = 2 := by omega
    rcases this with e | e | e <;> rw [e] <;> rfl
  have h2 : Builtin.zeroCells (Value.agg #[.int .i64 0, .int .i64 0, .int .i64 0]).cells n = (Array.range (n * 3)).map (fun i => (#[Value.int .i64 0, .int .i64 0, .int .i64 0] : Array Value)[i % 3]!) := rfl
  rw [h2]
  simp only [h]
  apply List.ext_getElem
  · simp
  · intro i h1 h2
    simp
set_option maxRecDepth 100000 in
/-- clear(s[i:]) of a slice of the call's own. -/
theorem clearP {w : World} {B g cap i : Nat} {ps : List P3} (h : OwnP w B (.slice (some ⟨g, 0, none⟩) ps.length cap) ps) (hi : i < ps.length) :
    ∃ w', (∀ ty, (Builtin.clear_ #[27] ty #[.slice (some ⟨g, i * 3, none⟩) (ps.length - i) (cap - i)]).run Tryz.prog w = .ok (.tuple #[]) w') ∧ OwnP w' B (.slice (some ⟨g, 0, none⟩) i cap) (ps.take i) ∧ Below B w w' := by
  obtain ⟨-, hB, cur, hh, hc, hm, hs, ht⟩ := h.get
  have hst := run_storeCells_at (P := Tryz.prog) g (i * 3) 34 (List.replicate ((ps.length - i) * 3) (.int .i64 0)) 0 cur w hh (by simp; omega) (by intro v hv; rw [List.eq_of_mem_replicate hv]; rfl)
  simp only [Nat.add_zero, List.length_replicate] at hst
  obtain ⟨i0, hi0, hz0, hz1, hz2⟩ := info_parts infoP
  have hzv : ∀ w, (zeroValue 34).run Tryz.prog w = .ok (.agg #[.int .i64 0, .int .i64 0, .int .i64 0]) w := by
    intro w
    have h9 : Tryz.t34.zero = some (.agg #[.int .i64 0, .int .i64 0, .int .i64 0]) := by kernel_rfl
    simp [zeroValue, h9]
  obtain ⟨m, hm2⟩ : ∃ m, ps.length - i = m + 1 := ⟨ps.length - i - 1, by omega⟩
  generalize hW : w.setRow g (cur.toList.take (i * 3) ++ List.replicate ((ps.length - i) * 3) (Value.int .i64 0) ++ cur.toList.drop (i * 3 + (ps.length - i) * 3)).toArray = W at hst
  refine ⟨W, fun ty => ?_, ?_, ?_⟩
  · rw [hm2] at hst ⊢
    simp [Builtin.clear_, run_underlying Tryz.underlying27, hzv, zeroP3, hst]
  · subst hW
    refine ⟨by rw [flatP_len], .inr ⟨g, cap, _, by rw [List.length_take]; congr 1; omega, hB, setRow_heap w g cur _ _ _ hh, by rw [List.length_take]; omega, hm, ?_, ?_⟩⟩
    · simp; omega
    · rw [List.length_take, show min i ps.length = i by omega, flatP_take ps i (by omega), ← ht]
      rw [List.append_assoc, List.take_append_of_le_length (by simp; omega), List.take_take, List.take_take]
      congr 1
      omega
  · subst hW
    exact ⟨rfl, rfl, rfl, by simp, fun k hk => setRow_other w g k _ (by omega)⟩
/-- One struck or kept: what the row holds when j have been looked at and i kept. -/
structure Kept (F : P3 → Bool) (L D : List P3) (i j : Nat) : Prop where
  len : D.length = L.length
  lt : i < j
  le : j ≤ L.length
  kept : D.take i = (L.take j).filter fun p => !F p
  rest : D.drop j = L.drop j
theorem Kept.at {F : P3 → Bool} {L D : List P3} {i j : Nat} (h : Kept F L D i j) (hj : j < L.length) : D[j]? = L[j]? := by
  have h1 := congrArg (fun l => l[0]?) h.rest
  simpa using h1
theorem Kept.skip {F : P3 → Bool} {L D : List P3} {i j : Nat} {p : P3} (h : Kept F L D i j) (hp : L[j]? = some p) (hF : F p = true) : Kept F L D i (j + 1) := by
  have hj : j < L.length := by
    rcases Nat.lt_or_ge j L.length with q | q
    · exact q
    · rw [List.getElem?_eq_none q] at hp; cases hp
  refine ⟨h.len, by have := h.lt; omega, hj, ?_, ?_⟩
  · rw [filt_take (fun p => !F p) L j p hp, h.kept]; simp [hF]
  · rw [← List.drop_drop, h.rest, List.drop_drop]
theorem Kept.keep {F : P3 → Bool} {L D : List P3} {i j : Nat} {p : P3} (h : Kept F L D i j) (hp : L[j]? = some p) (hF : F p = false) : Kept F L (D.set i p) (i + 1) (j + 1) := by
  have hj : j < L.length := by
    rcases Nat.lt_or_ge j L.length with q | q
    · exact q
    · rw [List.getElem?_eq_none q] at hp; cases hp
  have hlt := h.lt
  have hil : i < D.length := by rw [h.len]; omega
  refine ⟨by simp [h.len], by omega, hj, ?_, ?_⟩
  · rw [filt_take (fun p => !F p) L j p hp, ← h.kept]
    rw [List.take_succ_eq_append_getElem (by simpa using hil)]
    simp [hF]
    rw [List.take_set_of_le (by omega)]
  · rw [List.drop_set_of_lt (by omega), ← List.drop_drop, h.rest, List.drop_drop]
theorem filt_none {F : P3 → Bool} : ∀ {L : List P3}, (∀ p ∈ L, F p = false) → L.filter (fun p => !F p) = L
  | [], _ => rfl
  | p :: L, h => by
    rw [List.filter_cons_of_pos (by rw [h p List.mem_cons_self]; rfl), filt_none (fun q hq => h q (List.mem_cons_of_mem _ hq))]
theorem Kept.start {F : P3 → Bool} {L : List P3} {k : Nat} {p : P3} (hk : k < L.length) (h1 : ∀ p ∈ L.take k, F p = false) (hp : L[k]? = some p) (hF : F p = true) : Kept F L L k (k + 1) := by
  refine ⟨rfl, by omega, hk, ?_, rfl⟩
  rw [filt_take (fun p => !F p) L k p hp, filt_none h1]
  simp [hF]
def GivesDel (B : Nat) (L : List P3) (w : World) (e : Ending) (w' : World) : Prop := ∃ a l c, e = .returned (.slice a l c) ∧ OwnP w' B (.slice a l c) L ∧ Below B w w'
theorem OwnP.row {w : World} {B g cap : Nat} {ps : List P3} (h : OwnP w B (.slice (some ⟨g, 0, none⟩) ps.length cap) ps) : w.ownsRow B 34 3 (.slice (some ⟨g, 0, none⟩) ps.length cap) ps.length (flatP ps) := h
set_option maxRecDepth 100000 in
set_option maxHeartbeats 4000000 in
theorem DeleteF_any (A B n : Int) (hC : isC A B = true) (L : List P3) (hL : ∀ p ∈ L, EC.PV A B p) (hL2 : L.length ≤ 1000000) (bc bn N : Nat) (ca : Option Addr) (cl cc : Nat) (w : World) (hl : OwnP w N (.slice ca cl cc) L) (hN : N ≤ w.heap.size) (h1 : Box w bc [.int .i64 A, .int .i64 B]) (h2 : Box w bn [.int .i64 n]) (hb1 : bc < N) (hb2 : bn < N) :
    Calls Tryz.prog 60 #[.slice ca cl cc, .func (.func 61) #[] #[.pointer (some ⟨bc, 0, none⟩), .pointer (some ⟨bn, 0, none⟩)]] w (GivesDel N (L.filter fun p => !poB A n p) w) := by
  obtain ⟨ca', cc', hsl⟩ := hl.slice
  obtain ⟨rfl, rfl, rfl⟩ : ca = ca' ∧ cl = L.length ∧ cc = cc' := by simpa using hsl
  have HL := Lib.hid hl; have H1 := Lib.hid h1; have H2 := Lib.hid h2
  have HPV := Lib.hid hL
  have HF := Lib.hid (fun x y e (h : EC.PV A B (x, y, e)) W h1 h2 => poC_any A B x y e n hC h bc bn W h1 h2)
  have HX := Lib.hid (IndexF_any A B n hC L hL hL2 bc bn ca L.length cc w hl.pts h1 h2)
  clear hsl hl h1 h2 hL hC
  generalize poB A n = F at *
  unfold GivesDel
  go_enter Tryz.func60, Tryz.ntmps60
  go_wp2_with fail
  refine HX.out.mono ?_
  rintro e9 wa ⟨(⟨rfl, hno⟩ | ⟨k0, rfl, hk0, hpre, hhit⟩), hba⟩
  · have HE := Lib.hid (filt_none hno)
    have HNB := Lib.hid (hba.mono hN)
    have HO := Lib.hid (HL.out.below hba)
    clear hno HX HF HPV
    go_wp2_with fail
    go_ret
    exact ⟨_, _, _, rfl, by rw [HE.out]; exact HO.out, HNB.out⟩
  · have B1 := H1.out.below hba; have B2 := H2.out.below hba
    have HO := HL.out.below hba
    obtain ⟨g, rfl⟩ : ∃ g, ca = some ⟨g, 0, none⟩ := by
      rcases HO.2 with ⟨hv, hn⟩ | ⟨g, cap', cur, hv, -⟩
      · omega
      · simp only [Value.slice.injEq] at hv; exact ⟨g, hv.1⟩
    obtain ⟨p0, hp0⟩ : ∃ p, L[k0]? = some p := ⟨_, List.getElem?_eq_getElem hk0⟩
    have HK := Lib.hid (Kept.start hk0 hpre hp0 (hhit p0 hp0))
    have hNa : Below N w wa := hba.mono hN
    have hza := hNa.size
    have hq : ((k0 : Int) == -1) = false := by first | (simp; done) | (simp; omega)
    have hq2 : ¬ (k0 : Int) = -1 := by omega
    clear hpre hhit hp0 HX H1 H2 HL hba
    go_wp2_with fail
    go_loopw [5, 6] (fun v5 v6 wr => ∃ (i j : Nat) (D : List P3), v5 = .int .i64 i ∧ v6 = .int .i64 j ∧ Hid (Kept F L D i j) ∧ OwnP wr N (.slice (some ⟨g, 0, none⟩) L.length cc) D ∧ Below N w wr ∧ Box wr bc [.int .i64 A, .int .i64 B] ∧ Box wr bn [.int .i64 n]) (fun _ v6 _ => (L.length - intOf v6).toNat)
    case atStart => exact ⟨k0, k0 + 1, L, rfl, by go_num, HK, HO, hNa, B1, B2⟩
    case round =>
      clear HK HO hNa B1 B2 hza
      obtain ⟨i, j, D, rfl, rfl, HKK, HO, hNw, B1, B2⟩ := hrel
      have hKl := HKK.out.lt; have hKe := HKK.out.le; have hDl := HKK.out.len
      have hzw := hNw.size
      have hNr : N ≤ wr.heap.size := by omega
      have HOD : OwnP wr N (.slice (some ⟨g, 0, none⟩) D.length cc) D := by rw [hDl]; exact HO
      obtain ⟨-, hNg, cur, hh, hcap, -⟩ := HOD.get
      have hgl : g < wr.heap.size := by
        rcases Nat.lt_or_ge g wr.heap.size with q | q
        · exact q
        · rw [Array.getElem?_eq_none q] at hh; cases hh
      clear hh
      by_cases hlt : j < L.length
      · obtain ⟨⟨px, py, pe⟩, hp⟩ : ∃ p, L[j]? = some p := ⟨_, List.getElem?_eq_getElem hlt⟩
        have hpD : D[j]? = some (px, py, pe) := by rw [HKK.out.at hlt]; exact hp
        obtain ⟨ca2, cc2, hsl, hml, hcells⟩ := HOD.pts
        obtain ⟨b, off, ha, hbl, x0, x1, x2⟩ := hcells j _ hpD
        obtain ⟨rfl, rfl⟩ : g = b ∧ 0 = off := by
          rw [ha] at hsl
          simp only [Value.slice.injEq, Option.some.injEq, Addr.mk.injEq, and_true] at hsl
          exact ⟨hsl.1.1, hsl.1.2⟩
        clear hcells hsl ha hml
        simp only [Nat.zero_add] at x0 x1 x2
        have hlt' : (j : Int) < (L.length : Int) := by omega
        have HFF := HF.out px py pe (HPV.out _ (List.mem_of_getElem? hp))
        obtain ⟨q, hq3⟩ : ∃ q, F (px, py, pe) = q := ⟨_, rfl⟩
        rw [hq3] at HFF
        have HFF := Lib.hid HFF
        cases q
        · have HN := Lib.hid (HKK.out.keep hp hq3)
          have hST := Lib.hid (flatP_set D i px py pe (by omega))
          have HODD := Lib.hid HOD
          clear hp hpD hq3 HKK HF HPV HO HOD
          go_wp2_with fail
          refine (HFF.out _ ?_ ?_).mono ?_
          · exact B1.alloc _
          · exact B2.alloc _
          rintro e9 wd ⟨rfl, hbd⟩
          have hzd := hbd.size
          (try simp only [wz1, wz2, wz3, wz4] at hzd)
          have hbd3 : Below wr.heap.size wr wd := bthen2 hbd (Below.alloc (Below.refl _ _) (Nat.le_refl _) _)
          have Bp := Box.below (show Box _ wr.heap.size [.int .i64 px, .int .i64 py, .int .i64 pe] from box_three (by simp) (by simp) (by simp) (by simp) (fun o => by simp)) hbd
          have p0 := Bp.2.1 0 _ rfl; have p1 := Bp.2.1 1 _ rfl; have p2 := Bp.2.1 2 _ rfl; have pl := Bp.1
          have own := (HODD.out.below hbd3).row
          have st1 := _root_.Go.World.ownsRow.stored own (i * 3) (.int .i64 px)
          have st2 := _root_.Go.World.ownsRow.stored st1.1 (i * 3 + 1) (.int .i64 py)
          have st3 := _root_.Go.World.ownsRow.stored st2.1 (i * 3 + 2) (.int .i64 pe)
          rw [hST.out] at st3
          have ce : ∀ k, k < D.length * 3 → ∃ v, wd.cell? ⟨g, k, none⟩ = some v := fun k hk => by
            have h1 := _root_.Go.World.ownsRow.cellAt own k (by omega)
            have h2 := flatP_len D
            exact ⟨(flatP D)[k], by rw [h1, List.getElem?_eq_getElem]⟩
          obtain ⟨v0, d0⟩ := ce (i * 3) (by omega)
          obtain ⟨v1, d1⟩ := ce (i * 3 + 1) (by omega)
          obtain ⟨v2, d2⟩ := ce (i * 3 + 2) (by omega)
          have f0 := _root_.Go.World.ownsRow.frozenAt own (i * 3)
          have f1 := _root_.Go.World.ownsRow.frozenAt own (i * 3 + 1)
          have f2 := _root_.Go.World.ownsRow.frozenAt own (i * 3 + 2)
          have HST := Lib.hid (show OwnP _ N (.slice (some ⟨g, 0, none⟩) L.length cc) (D.set i (px, py, pe)) from by
            unfold OwnP
            rw [List.length_set, hDl]
            have h9 := st3.1
            rw [hDl] at h9
            exact h9)
          have hNd : Below N w wd := hNw.trans (hbd3.mono hNr)
          have Bc2 := B1.below hbd3; have Bn2 := B2.below hbd3
          have hi' : (i : Int) < (L.length : Int) := by omega
          have hgd : g < wd.heap.size := by omega
          have hgp : ¬ g = bc := by omega
          have hgn : ¬ g = bn := by omega
          clear st1 st2 st3 own ce hST HODD
          go_wp2_with fail
          go_roundw
          case rel => exact ⟨i + 1, j + 1, _, by go_num, by go_num, HN, HST.out, by repeat' (first | (with_reducible first | assumption | refine Below.setCell ?_ hNg _)), Box.set_ne (Box.set_ne (Box.set_ne Bc2 hgp _) hgp _) hgp _, Box.set_ne (Box.set_ne (Box.set_ne Bn2 hgn _) hgn _) hgn _⟩
          case measure => simp [intOf]; omega
        · have HN := Lib.hid (HKK.out.skip hp hq3)
          clear hp hpD hq3 HKK HF HPV HOD
          go_wp2_with fail
          refine (HFF.out _ ?_ ?_).mono ?_
          · exact B1.alloc _
          · exact B2.alloc _
          rintro e9 wd ⟨rfl, hbd⟩
          have hbd3 : Below wr.heap.size wr wd := bthen2 hbd (Below.alloc (Below.refl _ _) (Nat.le_refl _) _)
          go_wp2_with fail
          go_roundw
          case rel => exact ⟨i, j + 1, D, rfl, by go_num, HN, HO.below hbd3, hNw.trans (hbd3.mono hNr), B1.below hbd3, B2.below hbd3⟩
          case measure => simp [intOf]; omega
      · obtain rfl : j = L.length := by omega
        obtain ⟨w2, hcl, ho2, hbc⟩ := clearP HOD (show i < D.length by omega)
        rw [hDl] at hcl
        have HR := Lib.hid (show D.take i = L.filter fun p => !F p from by rw [HKK.out.kept, List.take_length])
        have hcc : ¬ cc = i := by omega
        have hcc2 : ¬ i = cc := by omega
        have HO2 := Lib.hid ho2
        have hi' : (i : Int) ≤ (cc : Int) := by omega
        have hi2 : (i : Int) ≤ (L.length : Int) := by omega
        clear HKK HF HPV HO HOD ho2
        go_wp2_with fail
        go_ret
        exact ⟨_, _, _, rfl, by rw [← HR.out]; exact HO2.out, hNw.trans hbc⟩
def poPs (a b n : Int) : List P3 := (tps a b).filter fun p => !poB a n p
def poOk (a b n : Int) : Bool := isC a b && inB n 1 12
def poPP (a b n : Int) : List P3 := if poOk a b n then poPs a b n else []
theorem box_one {w : World} {b : Nat} {u : Value} (h : b < w.heap.size) (h0 : w.cell? ⟨b, 0, none⟩ = some u) (hf : ∀ o, w.frozen? ⟨b, o, none⟩ = false) : Box w b [u] :=
  ⟨h, fun i x hi => by
    match i, hi with
    | 0, hi => obtain rfl : u = x := by simpa using hi
               exact h0, hf⟩
set_option maxRecDepth 100000 in
set_option maxHeartbeats 4000000 in
theorem PointsOfOrder_any (a b n : Int) (w : World) : Calls Tryz.prog 17 #[.agg #[.int .i64 a, .int .i64 b], .int .i64 n] w (GivesPB (poPP a b n) (poOk a b n) w) := by
  have HF := Lib.hid (fun w => isCurve_any a b w)
  have HI := Lib.hid (fun w => inside_any n 1 12 w)
  unfold poPP poOk
  cases g1 : isC a b
  · rw [g1] at HF
    rw [Bool.false_and, if_neg (by simp)]
    go_enter Tryz.func17, Tryz.ntmps17
    go_wp2_with fail
    refine (HF.out _).mono ?_
    rintro e9 wa ⟨rfl, hba⟩
    have hza := hba.size
    go_wp2_with fail
    go_ret2
    exact ⟨none, 0, 0, rfl, OwnP.nil _ _, gr⟩
  rw [g1] at HF
  rw [Bool.true_and]
  cases g2 : inB n 1 12
  · rw [g2] at HI
    rw [if_neg (by simp)]
    clear g1 g2
    go_enter Tryz.func17, Tryz.ntmps17
    go_wp2_with fail
    refine (HF.out _).mono ?_
    rintro e9 wa ⟨rfl, hba⟩
    have Bn := Box.below (show Box _ (w.heap.size + 1) [.int .i64 n] from box_one (by simp) (by simp [go_sem]) (fun o => by simp [go_sem])) hba
    have n0 := Bn.2.1 0 _ rfl; have nl := Bn.1
    have hB := bthen2 hba (show Below w.heap.size w ((w.alloc (Obj.cells #[.int .i64 a, .int .i64 b] 25)).alloc (Obj.cells #[.int .i64 n] 3)) by repeat' (first | (with_reducible first | exact bq1 _ _ | assumption | refine bq2 ?_ ?_ _ | refine bq3 ?_ ?_ _ | refine bq4 ?_ | refine bq5 ?_ _) | (apply bthen2; (with_reducible assumption)) | go_size))
    go_wp2_with (first | (go_at_call 52; refine (HI.out _).mono ?_; rintro e w1 ⟨rfl, rfl⟩))
    go_ret2
    exact ⟨none, 0, 0, rfl, OwnP.nil _ _, hB⟩
  · rw [g2] at HI
    rw [if_pos rfl]
    unfold poPs
    have HT := Lib.hid (fun w => torsionPoints_any a b g1 w)
    have HPV := Lib.hid (tps_PV g1)
    have HD := Lib.hid (fun (h : ∀ p ∈ tps a b, EC.PV a b p) bc bn N ca cl cc w hl hN h1 h2 h3 h4 => DeleteF_any a b n g1 (tps a b) h (by have := tps_len a b; omega) bc bn N ca cl cc w hl hN h1 h2 h3 h4)
    generalize ((tps a b).filter fun p => !poB a n p) = R at *
    generalize tps a b = L at *
    clear g1 g2
    have hmf : ∀ (fn : Fn) (first cap : Array Value) (w : World), (Instr.makeFunc fn first cap).run Tryz.prog w = .ok (.func fn first cap) w := fun _ _ _ _ => rfl
    go_enter Tryz.func17, Tryz.ntmps17
    go_wp2_with fail
    refine (HF.out _).mono ?_
    rintro e9 wa ⟨rfl, hba⟩
    have Bn := Box.below (show Box _ (w.heap.size + 1) [.int .i64 n] from box_one (by simp) (by simp [go_sem]) (fun o => by simp [go_sem])) hba
    have Bc := Box.below (show Box _ w.heap.size [.int .i64 a, .int .i64 b] from box_two (by simp; omega) (by simp [go_sem]) (by simp [go_sem]) (fun o => by simp [go_sem])) hba
    have n0 := Bn.2.1 0 _ rfl; have nl := Bn.1
    have c0 := Bc.2.1 0 _ rfl; have c1 := Bc.2.1 1 _ rfl; have cl := Bc.1
    have hB := bthen2 hba (show Below w.heap.size w ((w.alloc (Obj.cells #[.int .i64 a, .int .i64 b] 25)).alloc (Obj.cells #[.int .i64 n] 3)) by repeat' (first | (with_reducible first | exact bq1 _ _ | assumption | refine bq2 ?_ ?_ _ | refine bq3 ?_ ?_ _ | refine bq4 ?_ | refine bq5 ?_ _) | (apply bthen2; (with_reducible assumption)) | go_size))
    have hzB := hB.size
    clear hba
    go_wp2_with (first | (go_at_call 52; refine (HI.out _).mono ?_; rintro e w1 ⟨rfl, rfl⟩))
    refine (HT.out _).mono ?_
    rintro e9 wb ⟨ta, tl, tc, rfl, ownt, hbb⟩
    have Bn2 := Bn.below hbb; have Bc2 := Bc.below hbb
    have hB2 := bthen hB hbb
    have hzb := hbb.size
    go_wp2_with fail
    refine (HD.out HPV.out w.heap.size (w.heap.size + 1) wa.heap.size _ _ _ _ ?_ ?_ ?_ ?_ ?_ ?_).mono ?_
    · exact ownt
    · exact hzb
    · exact Bc2
    · exact Bn2
    · exact cl
    · exact nl
    rintro e9 wc ⟨da, dl, dc, rfl, ownd, hbd⟩
    have hB3 : Below w.heap.size w wc := hB2.trans (hbd.mono hzB)
    go_wp2_with fail
    go_ret2
    exact ⟨_, _, _, rfl, ownd.mono hzB, hB3⟩
set_option maxRecDepth 100000 in
set_option maxHeartbeats 4000000 in
theorem sPointsOfOrder_any (a b n : Int) (w : World) : Calls Tryz.prog 18 #[.agg #[.int .i64 a, .int .i64 b], .int .i64 n] w (GivesPB (poPP a b n) (poOk a b n) w) := by
  have HF := Lib.hid (fun w => ecGood_any a b w)
  have HI := Lib.hid (fun w => l1In_any n 1 12 w)
  unfold poPP poOk
  cases g1 : isC a b
  · rw [g1] at HF
    rw [Bool.false_and, if_neg (by simp)]
    go_enter Tryz.func18, Tryz.ntmps18
    go_wp2_with fail
    refine (HF.out _).mono ?_
    rintro e9 wa ⟨rfl, hba⟩
    have hza := hba.size
    go_wp2_with fail
    go_ret2
    exact ⟨none, 0, 0, rfl, OwnP.nil _ _, gr⟩
  rw [g1] at HF
  rw [Bool.true_and]
  cases g2 : inB n 1 12
  · rw [g2] at HI
    rw [if_neg (by simp)]
    clear g1 g2
    go_enter Tryz.func18, Tryz.ntmps18
    go_wp2_with fail
    refine (HF.out _).mono ?_
    rintro e9 wa ⟨rfl, hba⟩
    have hB := bthen2 hba (show Below w.heap.size w (w.alloc (Obj.cells #[.int .i64 a, .int .i64 b] 25)) by repeat' (first | (with_reducible first | exact bq1 _ _ | assumption | refine bq2 ?_ ?_ _ | refine bq3 ?_ ?_ _ | refine bq4 ?_ | refine bq5 ?_ _) | (apply bthen2; (with_reducible assumption)) | go_size))
    go_wp2_with (first | (go_at_call 63; refine (HI.out _).mono ?_; rintro e w1 ⟨rfl, rfl⟩))
    go_ret2
    exact ⟨none, 0, 0, rfl, OwnP.nil _ _, hB⟩
  · rw [g2] at HI
    rw [if_pos rfl]
    unfold poPs
    have HT := Lib.hid (fun w => toPoints_any a b g1 w)
    have HPV := Lib.hid (tps_PV g1)
    have hL := tps_len a b
    have HO := Lib.hid (fun x y e (h : EC.PV a b (x, y, e)) W => toOrder_any a b x y e g1 h W)
    have HFL := Lib.hid (fun k p h => filt_take (fun p => !poB a n p) (tps a b) k p h)
    have HG := Lib.hid (show ∀ p, (!poB a n p) = ((ordV a p).1 == n) from fun p => by unfold poB; rw [bne, Bool.not_not])
    generalize tps a b = L at *
    generalize hG : (fun p => !poB a n p) = G at *
    clear g1 g2 hG
    go_enter Tryz.func18, Tryz.ntmps18
    go_wp2_with fail
    refine (HF.out _).mono ?_
    rintro e9 wa ⟨rfl, hba⟩
    have Bc := Box.below (show Box _ w.heap.size [.int .i64 a, .int .i64 b] from box_made2 _ _ _ _) hba
    have c0 := Bc.2.1 0 _ rfl; have c1 := Bc.2.1 1 _ rfl; have cl := Bc.1
    have hB := bthen2 hba (show Below w.heap.size w (w.alloc (Obj.cells #[.int .i64 a, .int .i64 b] 25)) by repeat' (first | (with_reducible first | exact bq1 _ _ | assumption | refine bq2 ?_ ?_ _ | refine bq3 ?_ ?_ _ | refine bq4 ?_ | refine bq5 ?_ _) | (apply bthen2; (with_reducible assumption)) | go_size))
    clear hba
    go_wp2_with (first | (go_at_call 63; refine (HI.out _).mono ?_; rintro e w1 ⟨rfl, rfl⟩))
    refine (HT.out _).mono ?_
    rintro e9 W1 ⟨ca, cl0, cc, rfl, ownt, hbb⟩
    obtain ⟨ca', cc', hsl⟩ := ownt.slice
    obtain ⟨rfl, rfl, rfl⟩ : ca = ca' ∧ cl0 = L.length ∧ cc = cc' := by simpa using hsl
    clear hsl
    have Bk := Bc.below hbb
    have hB2 := bthen hB hbb
    have hz2 := hB2.size
    have PT := ownt.pts
    have hkl := Bk.1
    clear ownt hbb Bc c0 c1 cl hB HF HI HT
    go_wp2_with fail
    go_loopw [6, 20] (fun v6 v20 wr => ∃ (k : Nat) (a6 : Option Addr) (l6 c6 : Nat), v20 = .int .i64 k ∧ v6 = .slice a6 l6 c6 ∧ k ≤ L.length ∧ OwnP wr W1.heap.size (.slice a6 l6 c6) ((L.take k).filter G) ∧ Below W1.heap.size W1 wr) (fun _ v20 _ => (L.length - intOf v20).toNat)
    case atStart => exact ⟨0, none, 0, 0, rfl, rfl, by omega, OwnP.nil _ _, Below.refl _ _⟩
    case round =>
      obtain ⟨k, a6, l6, c6, rfl, rfl, hk, OO, hbw⟩ := hrel
      have hzw := hbw.size
      have Bw := Bk.below hbw
      have c0 := Bw.2.1 0 _ rfl; have c1 := Bw.2.1 1 _ rfl; have cl := Bw.1
      by_cases hlt : k < L.length
      · obtain ⟨⟨px, py, pe⟩, hp⟩ : ∃ p, L[k]? = some p := ⟨_, List.getElem?_eq_getElem hlt⟩
        obtain ⟨ca2, cc2, hsl, hml, hcells⟩ := PT.below hbw
        obtain ⟨b9, off, ha, hbl, x0, x1, x2⟩ := hcells k _ hp
        have hca : ca = some ⟨b9, off, none⟩ := by
          have : ca = ca2 := by simpa using congrArg (fun v => match v with | Value.slice a _ _ => a | _ => none) hsl
          rw [this, ha]
        subst hca
        clear hcells hsl ha
        simp only at x0 x1 x2
        have hlt' : (k : Int) < (L.length : Int) := by omega
        have HOO := HO.out px py pe (HPV.out _ (List.mem_of_getElem? hp))
        have hfl := HFL.out k _ hp
        have hgg := HG.out (px, py, pe)
        generalize (ordV a (px, py, pe)).1 = ov at *
        have hlen : ((L.take k).filter G).length ≤ 100000 := by
          have := List.length_filter_le G (L.take k)
          have := List.length_take_le k L
          omega
        have HOO := Lib.hid HOO
        by_cases ho : ov = n
        · have HQ := Lib.hid (show (L.take (k + 1)).filter G = (L.take k).filter G ++ [(px, py, pe)] from by rw [hfl, hgg]; simp [ho])
          obtain ⟨a7, c7, hs7⟩ := OO.slice
          obtain ⟨rfl, rfl, rfl⟩ : a6 = a7 ∧ l6 = ((L.take k).filter G).length ∧ c6 = c7 := by simpa using hs7
          subst ho
          clear hfl hgg hp HO HPV HFL HG hs7
          generalize ((L.take k).filter G) = P at *
          go_wp2_with fail
          refine (HOO.out _).mono ?_
          rintro e9 wb ⟨rfl, hbb⟩
          have Bp := Box.below (show Box _ wr.heap.size [.int .i64 px, .int .i64 py, .int .i64 pe] from box_three (by simp) (by simp) (by simp) (by simp) (fun o => by simp)) hbb
          have p0 := Bp.2.1 0 _ rfl; have p1 := Bp.2.1 1 _ rfl; have p2 := Bp.2.1 2 _ rfl; have pl := Bp.1
          have hbd3 : Below wr.heap.size wr wb := bthen2 hbb (Below.alloc (Below.refl _ _) (Nat.le_refl _) _)
          have OO2 := OO.below hbd3
          have hbw2 := bthen hbw hbd3
          have hzb := hbw2.size
          clear hbb
          go_wp2_with (first | (at_builtin; refine wpl_appP rfl _ _ rfl W1.heap.size (.slice a6 P.length c6) P rfl (OO2.alloc _) wb.heap.size 1 (px, py, pe) rfl (by simp) (by simp) (by simp) (by omega) (Below.alloc hbw2 (by omega) _) (by simp; omega) ?_; intro ap cp wp hownp hbwp hszp))
          go_roundw
          case rel => exact ⟨k + 1, ap, _, cp, rfl, rfl, by omega, by rw [HQ.out]; exact hownp, hbwp⟩
          case measure => simp [intOf]; omega
        · have HQ := Lib.hid (show (L.take (k + 1)).filter G = (L.take k).filter G from by rw [hfl, hgg]; simp [ho])
          have hq : (ov == n) = false := by simpa using ho
          clear hfl hgg hp HO HPV HFL HG
          go_wp2_with fail
          refine (HOO.out _).mono ?_
          rintro e9 wb ⟨rfl, hbb⟩
          have hbd3 : Below wr.heap.size wr wb := bthen2 hbb (Below.alloc (Below.refl _ _) (Nat.le_refl _) _)
          go_wp2_with fail
          go_roundw
          case rel => exact ⟨k + 1, a6, l6, c6, rfl, rfl, by omega, by rw [HQ.out]; exact OO.below hbd3, bthen hbw hbd3⟩
          case measure => simp [intOf]; omega
      · obtain rfl : k = L.length := by omega
        have HE := Lib.hid (show (L.take L.length).filter G = L.filter G from by rw [List.take_length])
        clear HO HPV HFL HG
        go_wp2_with fail
        go_ret2
        exact ⟨_, _, _, rfl, by rw [← HE.out]; exact OO.mono hz2, bthen hB2 hbw⟩
end Go.Proofs.YtjgdajeoeagggaaGreat
