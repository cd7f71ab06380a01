import Derived.Test.YtjgdajeoeagggaaGreatZTpA
import Derived.Test.YtjgdajeoeagggaaGreatZRegX
set_option linter.unusedSimpArgs false
set_option linter.unusedVariables false
namespace Go.Proofs.YtjgdajeoeagggaaGreat
open Go.RowKit
/-! ### FnTorsionProofs -/
theorem name_worldT {Q : Exit → Act → World → Prop} {e : Exit} {a : Act} {W : World} {Ko : Act → World → Prop} (h : ∀ V, V = W → Exit.then Ko Q e a V) : Exit.then Ko Q e a W := h W rfl
def GF (a b : Int) (G : List P3) : Prop := ∃ f n : Nat, tsV a b = .tuple #[.int .i64 f, .int .i64 n, .bool true] ∧ 1 ≤ n ∧ n ≤ 12 ∧ 1 ≤ f ∧ f ≤ 2 ∧ (G.length = if n = 1 then 0 else f) ∧ ∀ p R, G = p :: R → (opV a b p.1 p.2.1 p.2.2 = .tuple #[.int .i64 n, .bool true]) ∧ True
theorem gen_facts (a b : Int) (h : isC a b = true) : GF a b (tgPP a b) := by
  obtain ⟨f, n, e1, n1, n2, e2, e3, e4, e5⟩ := shape_fact h
  refine ⟨f, n, by unfold tsV; rw [if_pos h, e4, e1], n1, n2, by omega, by omega, by unfold tgPP; rw [if_pos h]; exact e5, fun p R hp => ⟨?_, trivial⟩⟩
  obtain ⟨h1, h2⟩ := gens_first h hp
  unfold opV
  rw [h1, if_pos rfl, show (p.1, p.2.1, p.2.2) = p from rfl, h2, e1]
theorem sTA {W : World} {B g off : Nat} {a b x y e : Int} (X : Box W B [.int .i64 a, .int .i64 b]) (hg : g < W.heap.size) (c0 : W.cell? ⟨g, off, none⟩ = some (.int .i64 x)) (c1 : W.cell? ⟨g, off + 1, none⟩ = some (.int .i64 y)) (c2 : W.cell? ⟨g, off + 2, none⟩ = some (.int .i64 e)) :
    ∀ w', Below W.heap.size W w' → w'.cell? ⟨B, 0, none⟩ = some (.int .i64 a) ∧ w'.cell? ⟨B, 1, none⟩ = some (.int .i64 b) ∧ w'.cell? ⟨g, off, none⟩ = some (.int .i64 x) ∧ w'.cell? ⟨g, off + 1, none⟩ = some (.int .i64 y) ∧ w'.cell? ⟨g, off + 2, none⟩ = some (.int .i64 e) := by
  intro w' h
  have Y := X.below h
  exact ⟨Y.2.1 0 _ rfl, Y.2.1 1 _ rfl, (h.cell (p := ⟨g, off, none⟩) hg).trans c0, (h.cell (p := ⟨g, off + 1, none⟩) hg).trans c1, (h.cell (p := ⟨g, off + 2, none⟩) hg).trans c2⟩
def GAnyT (w : World) (e : Ending) (w' : World) : Prop := ∃ r : Bool, e = .returned (.bool r) ∧ Below w.heap.size w w'
theorem bigT_any (a b : Option Addr) (l c m d : Nat) (w : World) (h1 : l ≤ 9223372036854775807) (h2 : m ≤ 9223372036854775807) : Calls Tryz.prog 5 #[.slice a l c, .slice b m d] w (GAnyT w) := by
  by_cases g : (1048576 : Int) < (l : Int)
  · go_enter Tryz.func5, Tryz.ntmps5
    go_wp2
    go_ret
    exact ⟨_, rfl, gr⟩
  · go_enter Tryz.func5, Tryz.ntmps5
    go_wp2
    go_ret
    exact ⟨_, rfl, gr⟩
set_option maxRecDepth 100000 in
set_option maxHeartbeats 16000000 in
theorem walk_FnTorsionProofs (a0 : Option Addr) (l0 c0 : Nat) (z0 : List Int) (am : Option Addr) (lm cm : Nat) (z1 : List Int) (w : World) (h0 : IsRow .u8 w a0 l0 c0 z0) (h1 : IsRow .u8 w am lm cm z1) :
    Calls Tryz.prog 4 #[.slice a0 l0 c0, .slice am lm cm] w (Gives (.bool true) w) := by
  have Y0 : BytsW w (.slice a0 l0 c0) := h0.byts
  have Y1 : BytsW w (.slice am lm cm) := h1.byts
  have hl0 : l0 ≤ 9223372036854775807 := by obtain ⟨_, _, _, e, h, -⟩ := Y0; cases e; exact h
  have hl1 : lm ≤ 9223372036854775807 := by obtain ⟨_, _, _, e, h, -⟩ := Y1; cases e; exact h
  clear h0 h1
  have HBG := Lib.hid (fun a b l c m d w h1 h2 => bigT_any a b l c m d w h1 h2)
  go_enter Tryz.func4, Tryz.ntmps4
  go_wp2_with fail
  refine (HBG.out _ _ _ _ _ _ _ hl0 hl1).mono ?_
  rintro e9 w1 ⟨r, rfl, hB⟩
  clear HBG hl0 hl1
  cases r
  case true =>
    go_wp2
    go_ret
    exact gives rfl gr
  case false =>
    have hY := Y0.below hB; have hM := Y1.below hB
    clear Y0 Y1
    go_wp2_with fail
    refine name_worldM (fun V hV => ?_)
    have hBz := hB.size
    have hV1 : Below w1.heap.size w1 V := by subst hV; repeat' (first | (with_reducible first | exact bq1 _ _ | assumption | refine bq2 ?_ ?_ _ | refine bq3 ?_ ?_ _ | refine bq4 ?_ | refine bq5 ?_ _) | (apply bthen2; (with_reducible assumption)) | go_size)
    have hB2 := bthen2 hV1 hB
    clear hBz
    have hM2 := hM.below hV1
    have hY2 := hY.below hV1
    clear hV1
    clear hV hB  hM hY
    refine (DrawTorsionGeneratorsC hY2).mono ?_; rintro e9 wy1 ⟨a, b, rfl, hb⟩
    have hB := bthen2 hb hB2
    have hM := hM2.below hb
    have hY := hY2.below hb
    clear hb hB2  hM2 hY2 hY
    obtain ⟨G, hG⟩ : ∃ G, tgPP a b = G := ⟨_, rfl⟩
    obtain ⟨ok, hok⟩ : ∃ ok, isC a b = ok := ⟨_, rfl⟩
    have HF := Lib.hid (show ok = true → GF a b G from by rw [← hG, ← hok]; exact gen_facts a b)
    have HT1 := Lib.hid (fun W => TorsionGenerators_any a b W); have HT2 := Lib.hid (fun W => sTorsionGenerators_any a b W)
    rw [hG, hok] at HT1 HT2; clear hG hok
    go_wp2_with fail
    refine name_worldM (fun V hV => ?_)
    have hBz := hB.size
    have hV1 : Below wy1.heap.size wy1 V := by subst hV; repeat' (first | (with_reducible first | exact bq1 _ _ | assumption | refine bq2 ?_ ?_ _ | refine bq3 ?_ ?_ _ | refine bq4 ?_ | refine bq5 ?_ _) | (apply bthen2; (with_reducible assumption)) | go_size)
    have Yc : Box V (wy1.heap.size) [.int .i64 a, .int .i64 b] := (by subst hV; exact box_two (by first | omega | (simp; done) | (simp; omega)) (by simp [go_sem]) (by simp [go_sem]) (fun o => by simp [go_sem]))
    have hB2 := bthen2 hV1 hB
    clear hBz
    have hM2 := hM.below hV1
    clear hV1
    clear hV hB  hM
    refine (HT1.out _).mono ?_; rintro e9 wy2 ⟨sa, sl, sc, rfl, O1, hb⟩
    have Xc := Yc.below hb
    have hB := bthen2 hb hB2
    have hM := hM2.below hb
    clear hb hB2 Yc hM2 HT1
    have qc0 := Xc.2.1 0 _ rfl; have qc1 := Xc.2.1 1 _ rfl; have qcl := Xc.1
    have P1 := O1.pts; clear O1
    go_wp2_with fail
    refine name_worldM (fun V hV => ?_)
    have hBz := hB.size
    have hV1 : Below wy2.heap.size wy2 V := by subst hV; repeat' (first | (with_reducible first | exact bq1 _ _ | assumption | refine bq2 ?_ ?_ _ | refine bq3 ?_ ?_ _ | refine bq4 ?_ | refine bq5 ?_ _) | (apply bthen2; (with_reducible assumption)) | go_size)
    have Yc := Xc.below hV1
    have hB2 := bthen2 hV1 hB
    clear hBz
    have hM2 := hM.below hV1
    have P12 := P1.below hV1
    clear hV1
    clear qc0 qc1 qcl
    clear hV hB Xc hM P1
    refine (HT2.out _).mono ?_; rintro e9 wy3 ⟨ta, tl, tc, rfl, O2, hb⟩
    have Xc := Yc.below hb
    have hB := bthen2 hb hB2
    have hM := hM2.below hb
    have P1 := P12.below hb
    clear hb hB2 Yc hM2 P12 HT2
    have qc0 := Xc.2.1 0 _ rfl; have qc1 := Xc.2.1 1 _ rfl; have qcl := Xc.1
    obtain ⟨a9, c9, he9⟩ := O2.slice
    obtain ⟨rfl, rfl, rfl⟩ : ta = a9 ∧ tl = _ ∧ tc = c9 := by simpa using he9
    have P2 := O2.pts; clear O2 he9
    go_wp2_with fail
    refine name_worldM (fun V hV => ?_)
    have hBz := hB.size
    have hV1 : Below wy3.heap.size wy3 V := by subst hV; repeat' (first | (with_reducible first | exact bq1 _ _ | assumption | refine bq2 ?_ ?_ _ | refine bq3 ?_ ?_ _ | refine bq4 ?_ | refine bq5 ?_ _) | (apply bthen2; (with_reducible assumption)) | go_size)
    have Yc := Xc.below hV1
    have hB2 := bthen2 hV1 hB
    clear hBz
    have hM2 := hM.below hV1
    have P12 := P1.below hV1
    have P22 := P2.below hV1
    clear hV1
    clear qc0 qc1 qcl
    clear hV hB Xc hM P1 P2
    refine (pSamePoints_same _ _ G _ P12 P22).mono ?_; rintro e9 wy4 ⟨rfl, hb⟩
    have Xc := Yc.below hb
    have hB := bthen2 hb hB2
    have hM := hM2.below hb
    have P1 := P12.below hb
    have P2 := P22.below hb
    clear hb hB2 Yc hM2 P12 P22 P1
    have qc0 := Xc.2.1 0 _ rfl; have qc1 := Xc.2.1 1 _ rfl; have qcl := Xc.1
    cases ok
    · skip
      clear P2 HF
      have hBz9 := hB.size
      go_upto_if 88 with fail
      clear qc0 qc1 qcl
      first | refine tpB w _ am lm cm ?_ ?_ | (go_step; first | refine tpB w _ am lm cm ?_ ?_ | (go_step; first | refine tpB w _ am lm cm ?_ ?_ | (go_step; first | refine tpB w _ am lm cm ?_ ?_ | (go_step; first | refine tpB w _ am lm cm ?_ ?_ | (go_step; first | refine tpB w _ am lm cm ?_ ?_ | (go_step; refine tpB w _ am lm cm ?_ ?_))))))
      · exact BytsW.below hM gr
      · repeat' (first | (with_reducible first | exact bq1 _ _ | assumption | refine bq2 ?_ ?_ _ | refine bq3 ?_ ?_ _ | refine bq4 ?_ | refine bq5 ?_ _) | (apply bthen2; (with_reducible assumption)) | go_size)
    · skip
      obtain ⟨f, n, hts, n1, n2, f1, f2, hgl, hfirst⟩ := HF.out rfl; clear HF
      have HS1 := Lib.hid (fun W => TorsionShape_any a b W); have HS2 := Lib.hid (fun W => sTorsionShape_any a b W); rw [hts] at HS1 HS2; clear hts
      have HFI := Lib.hid hfirst; clear hfirst
      have HGL := Lib.hid hgl; clear hgl
      go_wp2_with fail
      refine name_worldM (fun V hV => ?_)
      have hBz := hB.size
      have hV1 : Below wy4.heap.size wy4 V := by subst hV; repeat' (first | (with_reducible first | exact bq1 _ _ | assumption | refine bq2 ?_ ?_ _ | refine bq3 ?_ ?_ _ | refine bq4 ?_ | refine bq5 ?_ _) | (apply bthen2; (with_reducible assumption)) | go_size)
      have Yc := Xc.below hV1
      have hB2 := bthen2 hV1 hB
      clear hBz
      have hM2 := hM.below hV1
      have P22 := P2.below hV1
      clear hV1
      clear qc0 qc1 qcl
      clear hV hB Xc hM P2
      refine (HS1.out _).mono ?_; rintro e9 wy5 ⟨rfl, hb⟩
      have Xc := Yc.below hb
      have hB := bthen2 hb hB2
      have hM := hM2.below hb
      have P2 := P22.below hb
      clear hb hB2 Yc hM2 P22 HS1
      have qc0 := Xc.2.1 0 _ rfl; have qc1 := Xc.2.1 1 _ rfl; have qcl := Xc.1
      go_wp2_with fail
      refine name_worldM (fun V hV => ?_)
      have hBz := hB.size
      have hV1 : Below wy5.heap.size wy5 V := by subst hV; repeat' (first | (with_reducible first | exact bq1 _ _ | assumption | refine bq2 ?_ ?_ _ | refine bq3 ?_ ?_ _ | refine bq4 ?_ | refine bq5 ?_ _) | (apply bthen2; (with_reducible assumption)) | go_size)
      have Yc := Xc.below hV1
      have hB2 := bthen2 hV1 hB
      clear hBz
      have hM2 := hM.below hV1
      have P22 := P2.below hV1
      clear hV1
      clear qc0 qc1 qcl
      clear hV hB Xc hM P2
      refine (HS2.out _).mono ?_; rintro e9 wy6 ⟨rfl, hb⟩
      have Xc := Yc.below hb
      have hB := bthen2 hb hB2
      have hM := hM2.below hb
      have P2 := P22.below hb
      clear hb hB2 Yc hM2 P22 HS2
      have qc0 := Xc.2.1 0 _ rfl; have qc1 := Xc.2.1 1 _ rfl; have qcl := Xc.1
      by_cases hn1 : n = 1
      · skip
        have hgl := HGL.out; rw [if_pos hn1] at hgl
        obtain rfl : G = [] := List.length_eq_zero_iff.1 hgl
        simp only [List.length_nil] at *
        subst hn1; clear HGL HFI P2 hgl
        have hBz9 := hB.size
        go_upto_if 128 with fail
        clear qc0 qc1 qcl
        first | refine tpB w _ am lm cm ?_ ?_ | (go_step; first | refine tpB w _ am lm cm ?_ ?_ | (go_step; first | refine tpB w _ am lm cm ?_ ?_ | (go_step; first | refine tpB w _ am lm cm ?_ ?_ | (go_step; first | refine tpB w _ am lm cm ?_ ?_ | (go_step; first | refine tpB w _ am lm cm ?_ ?_ | (go_step; refine tpB w _ am lm cm ?_ ?_))))))
        · exact BytsW.below hM gr
        · repeat' (first | (with_reducible first | exact bq1 _ _ | assumption | refine bq2 ?_ ?_ _ | refine bq3 ?_ ?_ _ | refine bq4 ?_ | refine bq5 ?_ _) | (apply bthen2; (with_reducible assumption)) | go_size)
      · skip
        have hgl := HGL.out; rw [if_neg hn1] at hgl
        have kn : decide (1 < (n : Int)) = true := by simp; omega
        clear HGL
        cases G with
        | nil => exfalso; simp at hgl; omega
        | cons g0 R =>
          obtain ⟨hop⟩ := HFI.out g0 R rfl
          obtain ⟨gx, gy, ge⟩ := g0
          have HO := Lib.hid (fun W => OrderOfPoint_any a b gx gy ge W); simp only at hop; rw [hop] at HO; clear hop HFI
          have P2H := Lib.hid P2
          obtain ⟨a9, c9, hsl, -, hcells⟩ := P2
          obtain ⟨b8, off8, ha, hbl, x0, x1, x2⟩ := hcells 0 (gx, gy, ge) rfl
          obtain rfl : ta = some ⟨b8, off8, none⟩ := by rw [← ha]; simpa using congrArg (fun v => match v with | Value.slice a _ _ => a | _ => none) hsl
          simp only [Nat.zero_mul, Nat.add_zero] at x0 x1 x2
          generalize hgL : ((gx, gy, ge) :: R).length = gL at *
          have kgl : (gL : Int) = f := by omega
          have kgp : decide (0 < (gL : Int)) = true := by simp; omega
          clear hcells hsl ha hgL P2H
          obtain rfl : gL = f := by omega
          clear hgl kgl
          have HSB := Lib.hid (sTA Xc hbl x0 x1 x2)
          go_wp2_with fail
          clear qc0 qc1 qcl
          have lc9 := Xc.1
          clear x0 x1 x2
          refine wp_region_x (fun w' => w'.cell? ⟨wy1.heap.size, 0, none⟩ = some (.int .i64 a) ∧ w'.cell? ⟨wy1.heap.size, 1, none⟩ = some (.int .i64 b) ∧ w'.cell? ⟨b8, off8, none⟩ = some (.int .i64 gx) ∧ w'.cell? ⟨b8, off8 + 1, none⟩ = some (.int .i64 gy) ∧ w'.cell? ⟨b8, off8 + 2, none⟩ = some (.int .i64 ge)) (fun i => decide (i < 10)) (by kernel_rfl) ?_ (fun hHeld => ?_)
          focus ((try dsimp only); (exact HSB.out _ (by repeat' (first | (with_reducible first | exact bq1 _ _ | assumption | refine bq2 ?_ ?_ _ | refine bq4 ?_) | (apply bthen2; (with_reducible assumption)) | go_size))))
          refine wtk (v := ?_) 0 rfl ?_ (by assumption) ?_
          rotate_left
          focus (intro w hSw; (try dsimp only at hSw); go_simp; (try with_reducible rfl))
          (try simp only [Act.put, wz5, wz6, wz7])
          refine wtk (v := ?_) 1 rfl ?_ (by assumption) ?_
          rotate_left
          focus (intro w hSw; (try dsimp only at hSw); go_simp; (try with_reducible rfl))
          (try simp only [Act.put, wz5, wz6, wz7])
          refine wtk (v := ?_) 2 rfl ?_ (by assumption) ?_
          rotate_left
          focus (intro w hSw; (try dsimp only at hSw); go_simp; (try with_reducible rfl))
          (try simp only [Act.put, wz5, wz6, wz7])
          refine wtk (v := ?_) 3 rfl ?_ (by assumption) ?_
          rotate_left
          focus (intro w hSw; (try dsimp only at hSw); go_simp; (try with_reducible rfl))
          (try simp only [Act.put, wz5, wz6, wz7])
          refine wpAnyX_one 4 rfl (by kernel_rfl) (fun K hK => ?_)
          go_simp
          (go_at_call 24; refine (HO.out _).mono ?_; rintro e8 w8 ⟨rfl, hb8⟩)
          go_wp2_with fail
          clear hHeld
          refine hK.out _ _ ?_ (fun hHeld => ?_)
          focus ((try dsimp only); (exact HSB.out _ (by repeat' (first | (with_reducible first | exact bq1 _ _ | assumption | refine bq2 ?_ ?_ _ | refine bq4 ?_) | (apply bthen2; (with_reducible assumption)) | go_size))))
          clear hK K
          (try simp only [Act.put, wz5, wz6, wz7])
          refine wtk (v := ?_) 5 rfl ?_ (by assumption) ?_
          rotate_left
          focus (intro w hSw; (try dsimp only at hSw); go_simp; (try with_reducible rfl))
          (try simp only [Act.put, wz5, wz6, wz7])
          refine wtk (v := ?_) 6 rfl ?_ (by assumption) ?_
          rotate_left
          focus (intro w hSw; (try dsimp only at hSw); go_simp; (try with_reducible rfl))
          (try simp only [Act.put, wz5, wz6, wz7])
          refine wtk (v := ?_) 7 rfl ?_ (by assumption) ?_
          rotate_left
          focus (intro w hSw; (try dsimp only at hSw); go_simp; (try with_reducible rfl))
          (try simp only [Act.put, wz5, wz6, wz7])
          refine wtk (v := ?_) 8 rfl ?_ (by assumption) ?_
          rotate_left
          focus (intro w hSw; (try dsimp only at hSw); go_simp; (try with_reducible rfl))
          (try simp only [Act.put, wz5, wz6, wz7])
          refine wtk (v := ?_) 9 rfl ?_ (by assumption) ?_
          rotate_left
          focus (intro w hSw; (try dsimp only at hSw); go_simp; (try with_reducible rfl))
          (try simp only [Act.put, wz5, wz6, wz7])
          refine wpAnyX_done (by kernel_rfl) ?_ _
          refine NoPanic.normal ?_
          skip
          clear hHeld HSB HO
          refine name_worldT (fun W9 hW9 => ?_)
          have hB9 : Below w.heap.size w W9 := by have hBz9 := hB.size; subst hW9; repeat' (first | (with_reducible first | exact bq1 _ _ | assumption | refine bq2 ?_ ?_ _ | refine bq3 ?_ ?_ _ | refine bq4 ?_ | refine bq5 ?_ _) | (apply bthen2; (with_reducible assumption)) | go_size)
          have hM9 : BytsW W9 (.slice am lm cm) := by subst hW9; exact BytsW.below hM gr
          clear hW9 hM hB Xc
          have hM := hM9; have hB := hB9; clear hM9 hB9
          have hBz9 := hB.size
          go_upto_if 143 with fail
          first | refine tpB w _ am lm cm ?_ ?_ | (go_step; first | refine tpB w _ am lm cm ?_ ?_ | (go_step; first | refine tpB w _ am lm cm ?_ ?_ | (go_step; first | refine tpB w _ am lm cm ?_ ?_ | (go_step; first | refine tpB w _ am lm cm ?_ ?_ | (go_step; first | refine tpB w _ am lm cm ?_ ?_ | (go_step; first | refine tpB w _ am lm cm ?_ ?_ | (go_step; first | refine tpB w _ am lm cm ?_ ?_ | (go_step; refine tpB w _ am lm cm ?_ ?_))))))))
          · exact BytsW.below hM gr
          · repeat' (first | (with_reducible first | exact bq1 _ _ | assumption | refine bq2 ?_ ?_ _ | refine bq3 ?_ ?_ _ | refine bq4 ?_ | refine bq5 ?_ _) | (apply bthen2; (with_reducible assumption)) | go_size)
end Go.Proofs.YtjgdajeoeagggaaGreat
