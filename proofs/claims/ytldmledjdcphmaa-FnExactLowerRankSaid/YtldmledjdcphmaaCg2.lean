import Derived.Test.YtldmledjdcphmaaCg
import Derived.Test.YtldmledjdcphmaaBad
import Derived.Test.YtldmledjdcphmaaBox
import Derived.Test.YtldmledjdcphmaaLawS3
import Derived.Test.YtldmledjdcphmaaGrp4
set_option linter.unusedSimpArgs false
set_option linter.unusedVariables false
namespace Go.Proofs.Ytldmledjdcphmaa
open Go.RowKit
/-! ### ClassGroup, found groups, their ranks -/

theorem cg_parts (xs : List Int) (hcl : ∀ d ∈ xs, clB d = true) : (cgOk xs = false ∧ cgR xs = []) ∨ (cgOk xs = true ∧ ∃ S, GI clB S ∧ Same2 S (cgR xs)) := by
  rcases gim_gsm (fun x h => clB_sq h) xs [1] [1] hcl (GI.one_ clB_one) ⟨by simp, fun x => Iff.rfl⟩ with ⟨_, h2⟩ | ⟨S, T, _, h2, h3, h4⟩
  · exact .inl (by simp [cgR, cgOk, h2])
  · exact .inr ⟨by simp [cgOk, h2], S, h3, by simpa [cgR, h2] using h4⟩
theorem cg_len (xs : List Int) (hcl : ∀ d ∈ xs, clB d = true) : (cgR xs).length ≤ 64 := by
  rcases cg_parts xs hcl with ⟨_, h⟩ | ⟨_, S, h, h2⟩
  · rw [h]; simp
  · rw [h2.len h.nd]; exact h.len64
theorem cg_grp (xs : List Int) (hcl : ∀ d ∈ xs, clB d = true) (hk : cgOk xs = true) : Grp (cgR xs) := by
  rcases cg_parts xs hcl with ⟨h, _⟩ | ⟨_, S, h, h2⟩
  · rw [hk] at h; cases h
  · have hm : ∀ {j}, j < (cgR xs).length → (cgR xs).getD j 0 ∈ S := fun hj => (h2.2 _).1 (getD_mem hj)
    refine ⟨?_, cg_len xs hcl, ?_, ?_, ?_, ?_⟩
    · exact List.length_pos_of_mem ((h2.2 1).2 h.one)
    · rw [List.contains_iff_mem]; exact (h2.2 1).2 h.one
    · intro j hj; exact h.cls _ (hm hj)
    · intro i hi hl
      have := List.pairwise_iff_getElem.1 h2.1 (i - 1) i (by omega) hl (by omega)
      simpa [List.getD, List.getElem?_eq_getElem hl, List.getElem?_eq_getElem (show i - 1 < (cgR xs).length by omega)] using this
    · intro a b ha hb
      rw [List.contains_iff_mem, prd_pZ]
      exact (h2.2 _).2 (h.mul _ (hm ha) _ (hm hb))
theorem rk_cg (xs : List Int) (hcl : ∀ d ∈ xs, clB d = true) (hk : cgOk xs = true) : rkR (cgR xs) = .tuple #[.int .i64 ((Lib.bitLen (cgR xs).length : Int) - 1), .bool true] := by
  unfold rkR; rw [grB_t (cg_grp xs hcl hk)]; rfl
def CgIn (xs : List Int) : Prop := ClsK xs xs.length ∧ 1 ≤ (xs.length : Int) ∧ (xs.length : Int) ≤ 12
open Classical in
noncomputable def caR (xs : List Int) : List Int := if CgIn xs then cgR xs else []
open Classical in
noncomputable def caOk (xs : List Int) : Bool := if CgIn xs then cgOk xs else false
theorem cls_mem {xs : List Int} (h : ClsK xs xs.length) : ∀ d ∈ xs, clB d = true := fun d hd => by
  obtain ⟨j, hj, he⟩ := List.mem_iff_getElem.1 hd
  have := h j hj
  simp only [List.getD, List.getElem?_eq_getElem hj, Option.getD_some] at this
  rw [← he]; exact this
theorem caR_len (xs : List Int) : (caR xs).length ≤ 400000 := by
  unfold caR
  split
  · rename_i h; have := cg_len xs (cls_mem h.1); omega
  · simp

set_option maxHeartbeats 1000000 in
theorem sClassGroup_any (a : Option Addr) (len cap : Nat) (xs : List Int) (w : World) (hx : Ints w (.slice a len cap) xs) : Calls Try.prog 23 #[.slice a len cap] w (GivesIB (caR xs) (caOk xs) w) := by
  have HX := Lib.hid hx
  have HDL := Lib.hid (dsList_any (.slice a len cap) xs 12 w hx)
  have HDG := Lib.hid (fun w h1 h2 h3 => dsGroup_any a len cap xs w h1 h2 h3)
  clear hx
  by_cases hc : CgIn xs
  · have E1 := Lib.hid (show caR xs = cgR xs by simp [caR, hc])
    have E2 := Lib.hid (show caOk xs = cgOk xs by simp [caOk, hc])
    have HCI := Lib.hid hc
    clear hc
    rw [E1.out, E2.out]
    have HDG2 := Lib.hid (fun w h => HDG.out w h (cls_mem HCI.out.1) (by have := HCI.out.2; omega))
    generalize cgOk xs = ok at *
    generalize cgR xs = R at *
    go_enter Try.func23, Try.ntmps23
    go_wp2_with fail
    refine (HDL.out).mono ?_
    rintro e wa ⟨r, rfl, hr, hba⟩
    obtain rfl : r = true := hr.2 HCI.out
    clear hr
    go_wp2_with fail
    refine (HDG2.out _ (HX.out.below hba)).mono ?_
    rintro e wb ⟨a2, l2, c2, rfl, ho, hbb⟩
    have hz := hba.size
    have HO := Lib.hid ho
    clear ho
    go_wp2
    go_ret2
    exact ⟨_, _, _, rfl, HO.out.mono hz, hba.trans (hbb.mono hz)⟩
  · have E1 := Lib.hid (show caR xs = [] by simp [caR, hc])
    have E2 := Lib.hid (show caOk xs = false by simp [caOk, hc])
    have HCI := Lib.hid hc
    clear hc
    rw [E1.out, E2.out]
    go_enter Try.func23, Try.ntmps23
    go_wp2_with fail
    refine (HDL.out).mono ?_
    rintro e wa ⟨r, rfl, hr, hba⟩
    obtain rfl : r = false := Bool.eq_false_iff.2 (fun q => HCI.out (hr.1 q))
    clear hr
    go_wp2
    go_ret2
    exact ⟨_, _, _, rfl, Own.nil _ _, hba⟩

set_option maxHeartbeats 2000000 in
theorem ClassGroup_any (a : Option Addr) (len cap : Nat) (xs : List Int) (w : World) (hx : Ints w (.slice a len cap) xs) : Calls Try.prog 25 #[.slice a len cap] w (GivesIB (caR xs) (caOk xs) w) := by
  obtain ⟨h1, h2, h3⟩ := hx.cell
  have HC := Lib.hid h3
  subst h1
  have HX := Lib.hid hx
  have HD := Lib.hid (fun d w => isClass_any d w)
  have HI := Lib.hid (fun w => inside_any (xs.length : Int) 1 12 w)
  clear h3 hx
  cases g : inB (xs.length : Int) 1 12
  · rw [g] at HI
    have hci : ¬ CgIn xs := fun h => by have := inB_iff.2 h.2; rw [g] at this; cases this
    rw [show caR xs = [] by simp [caR, hci], show caOk xs = false by simp [caOk, hci]]
    clear g hci
    go_enter Try.func25, Try.ntmps25
    go_wp2_with fail
    refine (HI.out _).mono ?_
    rintro e wa ⟨rfl, rfl⟩
    go_wp2
    go_ret2
    exact ⟨_, _, _, rfl, Own.nil _ _, Below.refl _ _⟩
  rw [g] at HI
  have HG := Lib.hid (inB_iff.1 g)
  clear g
  have HN0 := Lib.hid (show ∀ k, k < xs.length → clB (xs.getD k 0) = false → caR xs = [] ∧ caOk xs = false from fun k hk h => by
    have hci : ¬ CgIn xs := fun q => by have := q.1 k hk; rw [h] at this; cases this
    exact ⟨by simp [caR, hci], by simp [caOk, hci]⟩)
  have HY0 := Lib.hid (show ClsK xs xs.length → caR xs = cgR xs ∧ caOk xs = cgOk xs from fun h => by
    have hci : CgIn xs := ⟨h, HG.out⟩
    exact ⟨by simp [caR, hci], by simp [caOk, hci]⟩)
  have HCG := Lib.hid (fun w h1 (h2 : ClsK xs xs.length) => classGroup_any a xs.length cap xs w h1 (cls_mem h2) (by have := HG.out; omega))
  generalize hn : xs.length = len at *
  have HN := Lib.hid hn
  clear hn
  generalize caOk xs = ok at *
  generalize caR xs = R at *
  generalize cgOk xs = ok2 at *
  generalize cgR xs = R2 at *
  go_enter Try.func25, Try.ntmps25
  go_wp2_with fail
  refine (HI.out _).mono ?_
  rintro e wa ⟨rfl, rfl⟩
  go_wp2_with fail
  go_loopw [12] (fun v9 wr => ∃ k : Nat, k ≤ len ∧ v9 = .int .i64 k ∧ Hid (ClsK xs k) ∧ Below w.heap.size w wr) (fun v9 _ => len - (intOf v9).toNat)
  case atStart => exact ⟨0, by omega, rfl, Lib.hid (fun j hj => by omega), Below.refl _ _⟩
  case round =>
    obtain ⟨k, hk, rfl, HJ, hbw⟩ := hrel
    by_cases hlt : k < len
    · obtain ⟨b, off, ha, hbl, c0⟩ := HC.out k hlt
      subst ha
      have c1 := (hbw.cell (p := ⟨b, off + k, none⟩) hbl).trans c0
      have hd := fun w => HD.out (xs.getD k 0) w
      cases he : clB (xs.getD k 0)
      · rw [he] at hd
        have HNO := Lib.hid (HN0.out k hlt he)
        generalize xs.getD k 0 = X at *
        have HDD := Lib.hid hd
        clear hd he c0
        go_wp2_with (first | (go_at_call 49; refine (HDD.out _).mono ?_; rintro e wa ⟨rfl, hba⟩; have hza := hba.size; (try simp only [World.size_alloc, World.size_setCell, World.size_drew, World.heap_drewN] at hza); try (refine keepc hba (w.heap.size) ?_ ?_; (focus (first | omega | (simp <;> omega))); intro hca_0 hfa_0 hla_0); try (refine keepc hba (w.heap.size + 1) ?_ ?_; (focus (first | omega | (simp <;> omega))); intro hca_1 hfa_1 hla_1); try (refine keepc hba (w.heap.size + 1 + 1) ?_ ?_; (focus (first | omega | (simp <;> omega))); intro hca_2 hfa_2 hla_2)))
        go_ret2
        rw [HNO.out.1, HNO.out.2]
        exact ⟨_, _, _, rfl, Own.nil _ _, bthen2 hba hbw⟩
      · have HJ2 := Lib.hid (show ClsK xs (k + 1) from fun j hj => by
          by_cases e : j = k
          · subst e; exact he
          · exact HJ.out j (by omega))
        rw [he] at hd
        generalize xs.getD k 0 = X at *
        have HDD := Lib.hid hd
        clear hd he c0
        go_wp2_with (first | (go_at_call 49; refine (HDD.out _).mono ?_; rintro e wa ⟨rfl, hba⟩; have hza := hba.size; (try simp only [World.size_alloc, World.size_setCell, World.size_drew, World.heap_drewN] at hza); try (refine keepc hba (w.heap.size) ?_ ?_; (focus (first | omega | (simp <;> omega))); intro hca_0 hfa_0 hla_0); try (refine keepc hba (w.heap.size + 1) ?_ ?_; (focus (first | omega | (simp <;> omega))); intro hca_1 hfa_1 hla_1); try (refine keepc hba (w.heap.size + 1 + 1) ?_ ?_; (focus (first | omega | (simp <;> omega))); intro hca_2 hfa_2 hla_2)))
        go_roundw
        case rel => exact ⟨k + 1, by omega, by go_num, HJ2, bthen2 hba hbw⟩
        case measure => simp [intOf]; omega
    · have e : k = len := by omega
      have HE := Lib.hid (HY0.out (by rw [← e]; exact HJ.out))
      have HF := Lib.hid (show ClsK xs len by rw [← e]; exact HJ.out)
      clear e
      go_wp2_with fail
      refine (HCG.out _ (HX.out.below hbw) HF.out).mono ?_
      rintro e wb ⟨a2, l2, c2, rfl, ho, hbb⟩
      have hz := hbw.size
      have HO := Lib.hid ho
      clear ho
      go_wp2
      go_ret2
      rw [HE.out.1, HE.out.2]
      exact ⟨_, _, _, rfl, HO.out.mono hz, hbw.trans (hbb.mono hz)⟩

/-- append(out, ys...) at a step of a region that draws; whatever ys holds; where the new slice lies. -/
theorem step_appA {ops : Array Oper} {o : Oper} {a : Act} {K : Act → World → Prop} {Q : Exit → Act → World → Prop} {E : Prop} {w : World} (hgd : o.guard = none) (s x : Operand)
    (ho : o.op = .call { callee := .builtin .append, args := #[s, x], argTypes := #[24, 24] }) (B : Nat) (v : Value) (xs : List Int) (hs : a.eval s = v) (hown : Own w B v xs)
    (y : Value) (C : Nat) (ys : List Int) (hx : a.eval x = y) (hy : Own w C y ys) (hlen : xs.length + ys.length ≤ 1000000000000) (hB : B ≤ w.heap.size)
    (h : ∀ a' cap' w', Own w' B (.slice a' (xs.length + ys.length) cap') (xs ++ ys) → Only v.ownBlock w w' → ((Value.slice a' (xs.length + ys.length) cap').ownBlock = v.ownBlock ∨ (Value.slice a' (xs.length + ys.length) cap').ownBlock = some w.heap.size) → K (a.put o.dst (.slice a' (xs.length + ys.length) cap')) w') : if Region.wanted o (yielded ops a.tmps) = true then Oper.wp Try.prog o a w K Q else E := by
  have hwd : Region.wanted o (yielded ops a.tmps) = true := by simp [Region.wanted, hgd]
  rw [if_pos hwd]
  obtain ⟨i0, hi, hz0, hz1, hz2⟩ := info_parts infoInt
  rcases hy.2 with ⟨hv, hn⟩ | ⟨g, cap, cur, hv, hg, hb, hc, hm, hs2, ht⟩
  · have hy0 : ys = [] := List.length_eq_zero_iff.1 hn
    subst hy0
    obtain ⟨a', cap', rfl⟩ := hown.slice
    have hrun := run_append_owned_none (P := Try.prog) (w := w) B 24 o.type 3 i0 1 Try.underlying24 hi _ xs.length (xs.map (Value.int .i64)) hown
    have := h a' cap' w (by simpa using hown) (Only.refl _ _) (.inl rfl)
    unfold Oper.wp
    simp [execOp, ho, resolve, invoke, builtin, hs, hx.trans hv, hrun, Result.andThen]
    simpa [Oper.upon] using this
  · subst hv
    obtain ⟨v', w', hr, h1, h2, h3, h4⟩ := run_append_own_at (P := Try.prog) w B 24 o.type 3 i0 (.int .i64 0) 1 8 Try.underlying24 hi hz0 hz1 hz2 rfl (by decide) v xs.length (xs.map (Value.int .i64)) hown ⟨g, 0, none⟩ ys.length cap (ys.map (Value.int .i64)) (by simp) (by
      intro j u hj
      have hj2 : j < ys.length := by
        rcases Nat.lt_or_ge j ys.length with q | q
        · exact q
        · rw [List.getElem?_eq_none (by simpa using q)] at hj; cases hj
      have c1 := World.ownsRow.cellAt hy j (by omega)
      rw [hj] at c1
      cases j <;> simpa [Addr.add] using c1) (by
      intro u hu
      obtain ⟨y, -, rfl⟩ := List.mem_map.mp hu
      rfl) (by unfold maxLen; omega) (by omega) hB
    have ho' : Own w' B v' (xs ++ ys) := by
      unfold Own
      simpa using h1
    obtain ⟨a', cap', rfl⟩ := ho'.slice
    simp only [List.length_append] at ho' h4 hr
    unfold Oper.wp execOp
    simp only [ho, resolve, invoke, builtin, Sem.run_bind, Sem.run_pure, Result.andThen_ok, List.map_toArray, List.map_cons, List.map_nil, hs, hx, hr]
    exact h a' cap' w' ho' (Only.of_grown h2) h4

noncomputable def fgL (a b : Int) (s : Bool) (M : Int) : List Int := [sqf (sB a b s)] ++ fdL a b s M
theorem fgL_cls {a b : Int} {s : Bool} {M : Int} (h : isT a b = true) : ∀ d ∈ fgL a b s M, clB d = true := by
  obtain ⟨r1, r2⟩ := sB_rng (d := s) h
  intro d hd
  rcases List.mem_append.1 hd with hd | hd
  · rw [List.mem_singleton.1 hd]; exact clB_sqf r1 (by omega)
  · obtain ⟨-, e2, e3⟩ := ddL_el (d := s) h d (List.mem_filter.1 hd |>.1)
    exact clB_of e3 (by omega)
theorem fdL_len {a b : Int} {s : Bool} {M : Int} (h : isT a b = true) : (fdL a b s M).length ≤ 400000 := Nat.le_trans (List.length_filter_le _ _) (ddL_len h)
noncomputable def fgR (a b : Int) (s : Bool) (M : Int) : List Int := if fdOk a b M = true then cgR (fgL a b s M) else []
noncomputable def fgOk (a b : Int) (s : Bool) (M : Int) : Bool := if fdOk a b M = true then cgOk (fgL a b s M) else false
theorem fgR_len (a b : Int) (s : Bool) (M : Int) : (fgR a b s M).length ≤ 400000 := by
  unfold fgR
  split
  · rename_i h
    unfold fdOk at h
    simp only [Bool.and_eq_true] at h
    have := cg_len _ (fgL_cls (s := s) (M := M) h.1); omega
  · simp
noncomputable def rkI (xs : List Int) : Int := (Lib.bitLen xs.length : Int) - 1
noncomputable def frV (a b M : Int) : Value := if (cgOk (fgL a b false M) && cgOk (fgL a b true M)) = true then .tuple #[.int .i64 (rkI (cgR (fgL a b false M))), .int .i64 (rkI (cgR (fgL a b true M))), .bool true] else .tuple #[.int .i64 0, .int .i64 0, .bool false]
theorem rkI_le (xs : List Int) (h : xs.length ≤ 64) (h1 : 1 ≤ xs.length) : 0 ≤ rkI xs ∧ rkI xs ≤ 6 := by
  have := bl_pos _ h h1
  unfold rkI; omega

set_option maxRecDepth 100000 in
set_option maxHeartbeats 4000000 in
theorem foundGroup_any (a b : Int) (s : Bool) (M : Int) (h : isT a b = true) (m1 : 1 ≤ M) (m2 : M ≤ 60) (w : World) : Calls Try.prog 56 #[.agg #[.int .i64 a, .int .i64 b], .bool s, .int .i64 M] w (GivesIB (cgR (fgL a b s M)) (cgOk (fgL a b s M)) w) := by
  obtain ⟨r1, r2⟩ := sB_rng (d := s) h
  have HSD := Lib.hid (fun w => side_any a b s h w)
  have HSQ := Lib.hid (fun w => squarefree_any (sB a b s) r1 (by omega) (by omega) w)
  have HF := Lib.hid (fun w => found_any a b s M h m1 m2 w)
  have hlen := fdL_len (s := s) (M := M) h
  have HCG := Lib.hid (fun a' l c w hx => classGroup_any a' l c (fgL a b s M) w hx (fgL_cls h) (by unfold fgL; simp only [List.length_append, List.length_singleton]; omega))
  have hfl : fgL a b s M = [sqf (sB a b s)] ++ fdL a b s M := rfl
  rw [hfl] at HCG ⊢
  generalize fdL a b s M = L at *
  generalize sqf (sB a b s) = q0 at *
  generalize cgR ([q0] ++ L) = R at *
  generalize cgOk ([q0] ++ L) = ok at *
  generalize sA a b s = A at *
  generalize sB a b s = B at *
  clear hfl r1 r2 h m1 m2
  go_enter Try.func56, Try.ntmps56
  go_wp2_with fail
  refine (HSD.out _).mono ?_
  rintro e W1 ⟨rfl, hb1⟩
  have hBX : Box W1 w.heap.size [.int .i64 a, .int .i64 b] := Box.below (box_two (by simp) (by simp) (by simp) (fun o => by simp)) hb1
  have hB1 : Below w.heap.size w W1 := (by repeat' (first | (with_reducible exact Below.refl _ _) | (with_reducible assumption) | (with_reducible refine Below.alloc ?_ ?_ _) | (with_reducible refine Below.setCell ?_ ?_ _) | (with_reducible refine Below.drew ?_) | (with_reducible refine below_drewN ?_ _) | (apply bthen2; (with_reducible assumption)) | go_size))
  have z0 := hBX.2.1 0 _ rfl
  have z1 := hBX.2.1 1 _ rfl
  have z2 := hBX.1
  have z3 := hB1.size
  clear hb1 hBX
  go_wp2_with fail
  go_region_held3 (fun w' => Below W1.heap.size W1 w' ∧ w'.cell? ⟨w.heap.size, 0, none⟩ = some (.int .i64 a) ∧ w'.cell? ⟨w.heap.size, 1, none⟩ = some (.int .i64 b)) ((refine (fun hbK => And.intro hbK (by exact ⟨(hbK.cell (p := ⟨w.heap.size, 0, none⟩) (by first | assumption | omega | (simp; omega))).trans z0, (hbK.cell (p := ⟨w.heap.size, 1, none⟩) (by first | assumption | omega | (simp; omega))).trans z1⟩)) ?_; repeat' (first | (with_reducible exact Below.refl _ _) | (with_reducible assumption) | (with_reducible refine Below.alloc ?_ ?_ _) | (with_reducible refine Below.setCell ?_ ?_ _) | (with_reducible refine Below.drew ?_) | (with_reducible refine below_drewN ?_ _) | (apply bthen2; (with_reducible assumption)) | go_size))) ((first | (go_at_call 77; refine (HSQ.out _).mono ?_; rintro e wf ⟨rfl, hbf⟩; have hzf := hbf.size; (try simp only [World.size_alloc, World.size_setCell, World.size_drew, World.heap_drewN] at hzf)) | (go_at_call 53; refine (HF.out _).mono ?_; rintro e wg ⟨fa, fl, fc, rfl, hof, hbg⟩; have hzg := hbg.size; (try simp only [World.size_alloc, World.size_setCell, World.size_drew, World.heap_drewN] at hzg)) | (go_at_call 50; refine (HCG.out _ _ _ _ hown5.ints).mono ?_; rintro e w6 ⟨a6, l6, c6, rfl, ho6, hb6⟩; have hz6 := hb6.size; (try simp only [World.size_alloc, World.size_setCell, World.size_drew, World.heap_drewN] at hz6)) | (refine step_appA rfl _ _ rfl W1.heap.size (.slice (some ⟨wg.heap.size, 0, none⟩) 1 1) [q0] rfl ?_ (.slice fa fl fc) 0 L rfl ?_ ?_ ?_ ?_; (focus (exact (own_made (w := wg) (xs := [q0]) (by simp)).mono (by omega))); (focus (exact (hof.alloc _).mono (Nat.zero_le _))); (focus (simp only [List.length_singleton]; omega)); (focus (first | omega | (simp; omega))); intro a5 c5 w5 hown5 hon5 hat5; have hb5 : Below W1.heap.size W1 w5 := (Below.trans (by repeat' (first | (with_reducible exact Below.refl _ _) | (with_reducible assumption) | (with_reducible refine Below.alloc ?_ ?_ _) | (with_reducible refine Below.setCell ?_ ?_ _) | (with_reducible refine Below.drew ?_) | (with_reducible refine below_drewN ?_ _) | (apply bthen2; (with_reducible assumption)) | go_size)) (hon5.below (by first | omega | (simp; omega)) (fun q hq => by (simp [Value.ownBlock] at hq; omega)))); have hz5 := hb5.size; have hz55 := hon5.size; (try simp only [World.size_alloc, World.size_setCell, World.size_drew, World.heap_drewN] at hz55)) | (refine step_appA rfl _ _ rfl W1.heap.size (.slice (some ⟨wf.heap.size, 0, none⟩) 1 1) [q0] rfl ?_ (.slice fa fl fc) 0 L rfl ?_ ?_ ?_ ?_; (focus (exact ((own_made (w := wf) (xs := [q0]) (by simp)).mono (by omega)).below hbg)); (focus (exact hof.mono (Nat.zero_le _))); (focus (simp only [List.length_singleton]; omega)); (focus (first | omega | (simp; omega))); intro a5 c5 w5 hown5 hon5 hat5; have hb5 : Below W1.heap.size W1 w5 := (Below.trans (by repeat' (first | (with_reducible exact Below.refl _ _) | (with_reducible assumption) | (with_reducible refine Below.alloc ?_ ?_ _) | (with_reducible refine Below.setCell ?_ ?_ _) | (with_reducible refine Below.drew ?_) | (with_reducible refine below_drewN ?_ _) | (apply bthen2; (with_reducible assumption)) | go_size)) (hon5.below (by first | omega | (simp; omega)) (fun q hq => by (simp [Value.ownBlock] at hq; omega)))); have hz5 := hb5.size; have hz55 := hon5.size; (try simp only [World.size_alloc, World.size_setCell, World.size_drew, World.heap_drewN] at hz55))))
  all_goals
    go_wp2
    go_ret2
    exact ⟨_, _, _, rfl, ho6.mono (by omega), hB1.trans ((show Below W1.heap.size W1 w6 from (by repeat' (first | (with_reducible exact Below.refl _ _) | (with_reducible assumption) | (with_reducible refine Below.alloc ?_ ?_ _) | (with_reducible refine Below.setCell ?_ ?_ _) | (with_reducible refine Below.drew ?_) | (with_reducible refine below_drewN ?_ _) | (apply bthen2; (with_reducible assumption)) | go_size))).mono z3)⟩

set_option maxRecDepth 100000 in
set_option maxHeartbeats 4000000 in
theorem rkGroup_any (a b : Int) (s : Bool) (M : Int) (h : isT a b = true) (m1 : 1 ≤ M) (m2 : M ≤ 60) (w : World) : Calls Try.prog 55 #[.agg #[.int .i64 a, .int .i64 b], .bool s, .int .i64 M] w (GivesIB (cgR (fgL a b s M)) (cgOk (fgL a b s M)) w) := by
  obtain ⟨r1, r2⟩ := sB_rng (d := s) h
  have HSD := Lib.hid (fun w => dsSide_any a b s h w)
  have HSQ := Lib.hid (fun w => tcClass_any (sB a b s) r1 (by omega) (by omega) w)
  have HF := Lib.hid (fun w => dsFound_any a b s M h m1 m2 w)
  have hlen := fdL_len (s := s) (M := M) h
  have HCG := Lib.hid (fun a' l c w hx => dsGroup_any a' l c (fgL a b s M) w hx (fgL_cls h) (by unfold fgL; simp only [List.length_append, List.length_singleton]; omega))
  have hfl : fgL a b s M = [sqf (sB a b s)] ++ fdL a b s M := rfl
  rw [hfl] at HCG ⊢
  generalize fdL a b s M = L at *
  generalize sqf (sB a b s) = q0 at *
  generalize cgR ([q0] ++ L) = R at *
  generalize cgOk ([q0] ++ L) = ok at *
  generalize sA a b s = A at *
  generalize sB a b s = B at *
  clear hfl r1 r2 h m1 m2
  go_enter Try.func55, Try.ntmps55
  go_wp2_with fail
  refine (HSD.out _).mono ?_
  rintro e W1 ⟨rfl, hb1⟩
  have hBX : Box W1 w.heap.size [.int .i64 a, .int .i64 b] := Box.below (box_two (by simp) (by simp) (by simp) (fun o => by simp)) hb1
  have hB1 : Below w.heap.size w W1 := (by repeat' (first | (with_reducible exact Below.refl _ _) | (with_reducible assumption) | (with_reducible refine Below.alloc ?_ ?_ _) | (with_reducible refine Below.setCell ?_ ?_ _) | (with_reducible refine Below.drew ?_) | (with_reducible refine below_drewN ?_ _) | (apply bthen2; (with_reducible assumption)) | go_size))
  have z0 := hBX.2.1 0 _ rfl
  have z1 := hBX.2.1 1 _ rfl
  have z2 := hBX.1
  have z3 := hB1.size
  clear hb1 hBX
  go_wp2_with fail
  go_region_held3 (fun w' => Below W1.heap.size W1 w' ∧ w'.cell? ⟨w.heap.size, 0, none⟩ = some (.int .i64 a) ∧ w'.cell? ⟨w.heap.size, 1, none⟩ = some (.int .i64 b)) ((refine (fun hbK => And.intro hbK (by exact ⟨(hbK.cell (p := ⟨w.heap.size, 0, none⟩) (by first | assumption | omega | (simp; omega))).trans z0, (hbK.cell (p := ⟨w.heap.size, 1, none⟩) (by first | assumption | omega | (simp; omega))).trans z1⟩)) ?_; repeat' (first | (with_reducible exact Below.refl _ _) | (with_reducible assumption) | (with_reducible refine Below.alloc ?_ ?_ _) | (with_reducible refine Below.setCell ?_ ?_ _) | (with_reducible refine Below.drew ?_) | (with_reducible refine below_drewN ?_ _) | (apply bthen2; (with_reducible assumption)) | go_size))) ((first | (go_at_call 82; refine (HSQ.out _).mono ?_; rintro e wf ⟨rfl, hbf⟩; have hzf := hbf.size; (try simp only [World.size_alloc, World.size_setCell, World.size_drew, World.heap_drewN] at hzf)) | (go_at_call 52; refine (HF.out _).mono ?_; rintro e wg ⟨fa, fl, fc, rfl, hof, hbg⟩; have hzg := hbg.size; (try simp only [World.size_alloc, World.size_setCell, World.size_drew, World.heap_drewN] at hzg)) | (go_at_call 47; refine (HCG.out _ _ _ _ hown5.ints).mono ?_; rintro e w6 ⟨a6, l6, c6, rfl, ho6, hb6⟩; have hz6 := hb6.size; (try simp only [World.size_alloc, World.size_setCell, World.size_drew, World.heap_drewN] at hz6)) | (refine step_appA rfl _ _ rfl W1.heap.size (.slice (some ⟨wg.heap.size, 0, none⟩) 1 1) [q0] rfl ?_ (.slice fa fl fc) 0 L rfl ?_ ?_ ?_ ?_; (focus (exact (own_made (w := wg) (xs := [q0]) (by simp)).mono (by omega))); (focus (exact (hof.alloc _).mono (Nat.zero_le _))); (focus (simp only [List.length_singleton]; omega)); (focus (first | omega | (simp; omega))); intro a5 c5 w5 hown5 hon5 hat5; have hb5 : Below W1.heap.size W1 w5 := (Below.trans (by repeat' (first | (with_reducible exact Below.refl _ _) | (with_reducible assumption) | (with_reducible refine Below.alloc ?_ ?_ _) | (with_reducible refine Below.setCell ?_ ?_ _) | (with_reducible refine Below.drew ?_) | (with_reducible refine below_drewN ?_ _) | (apply bthen2; (with_reducible assumption)) | go_size)) (hon5.below (by first | omega | (simp; omega)) (fun q hq => by (simp [Value.ownBlock] at hq; omega)))); have hz5 := hb5.size; have hz55 := hon5.size; (try simp only [World.size_alloc, World.size_setCell, World.size_drew, World.heap_drewN] at hz55)) | (refine step_appA rfl _ _ rfl W1.heap.size (.slice (some ⟨wf.heap.size, 0, none⟩) 1 1) [q0] rfl ?_ (.slice fa fl fc) 0 L rfl ?_ ?_ ?_ ?_; (focus (exact ((own_made (w := wf) (xs := [q0]) (by simp)).mono (by omega)).below hbg)); (focus (exact hof.mono (Nat.zero_le _))); (focus (simp only [List.length_singleton]; omega)); (focus (first | omega | (simp; omega))); intro a5 c5 w5 hown5 hon5 hat5; have hb5 : Below W1.heap.size W1 w5 := (Below.trans (by repeat' (first | (with_reducible exact Below.refl _ _) | (with_reducible assumption) | (with_reducible refine Below.alloc ?_ ?_ _) | (with_reducible refine Below.setCell ?_ ?_ _) | (with_reducible refine Below.drew ?_) | (with_reducible refine below_drewN ?_ _) | (apply bthen2; (with_reducible assumption)) | go_size)) (hon5.below (by first | omega | (simp; omega)) (fun q hq => by (simp [Value.ownBlock] at hq; omega)))); have hz5 := hb5.size; have hz55 := hon5.size; (try simp only [World.size_alloc, World.size_setCell, World.size_drew, World.heap_drewN] at hz55))))
  all_goals
    go_wp2
    go_ret2
    exact ⟨_, _, _, rfl, ho6.mono (by omega), hB1.trans ((show Below W1.heap.size W1 w6 from (by repeat' (first | (with_reducible exact Below.refl _ _) | (with_reducible assumption) | (with_reducible refine Below.alloc ?_ ?_ _) | (with_reducible refine Below.setCell ?_ ?_ _) | (with_reducible refine Below.drew ?_) | (with_reducible refine below_drewN ?_ _) | (apply bthen2; (with_reducible assumption)) | go_size))).mono z3)⟩

set_option maxRecDepth 100000 in
set_option maxHeartbeats 4000000 in
theorem foundRanks_any (a b M : Int) (h : isT a b = true) (m1 : 1 ≤ M) (m2 : M ≤ 60) (w : World) : Calls Try.prog 58 #[.agg #[.int .i64 a, .int .i64 b], .int .i64 M] w (Gives (frV a b M) w) := by
  have HG0 := Lib.hid (fun w => foundGroup_any a b false M h m1 m2 w)
  have HG1 := Lib.hid (fun w => foundGroup_any a b true M h m1 m2 w)
  have HR0 := Lib.hid (fun hk s w hx => rk_cg (fgL a b false M) (fgL_cls h) hk ▸ RankOfClasses_any s (cgR (fgL a b false M)) w hx)
  have HR1 := Lib.hid (fun hk s w hx => rk_cg (fgL a b true M) (fgL_cls h) hk ▸ RankOfClasses_any s (cgR (fgL a b true M)) w hx)
  have hV : frV a b M = if (cgOk (fgL a b false M) && cgOk (fgL a b true M)) = true then .tuple #[.int .i64 (rkI (cgR (fgL a b false M))), .int .i64 (rkI (cgR (fgL a b true M))), .bool true] else .tuple #[.int .i64 0, .int .i64 0, .bool false] := rfl
  rw [hV]
  have E0 : (Lib.bitLen (cgR (fgL a b false M)).length : Int) - 1 = rkI (cgR (fgL a b false M)) := rfl
  have E1 : (Lib.bitLen (cgR (fgL a b true M)).length : Int) - 1 = rkI (cgR (fgL a b true M)) := rfl
  rw [E0] at HR0
  rw [E1] at HR1
  clear hV E0 E1 h m1 m2
  generalize rkI (cgR (fgL a b false M)) = r0 at *
  generalize rkI (cgR (fgL a b true M)) = r1 at *
  generalize cgR (fgL a b false M) = X0 at *
  generalize cgR (fgL a b true M) = X1 at *
  cases hk0 : cgOk (fgL a b false M)
  · rw [hk0] at HG0
    clear hk0 HR0 HR1
    generalize cgOk (fgL a b true M) = ok1 at *
    simp only [Bool.false_and, Bool.false_eq_true, if_false]
    go_enter Try.func58, Try.ntmps58
    go_wp2_with fail
    refine (HG0.out _).mono ?_
    rintro e W1 ⟨a1, l1, c1, rfl, ho1, hb1⟩
    have hBX : Box W1 w.heap.size [.int .i64 a, .int .i64 b] := Box.below (box_two (by simp) (by simp) (by simp) (fun o => by simp)) hb1
    have hB1 : Below w.heap.size w W1 := (by repeat' (first | (with_reducible exact Below.refl _ _) | (with_reducible assumption) | (with_reducible refine Below.alloc ?_ ?_ _) | (with_reducible refine Below.setCell ?_ ?_ _) | (with_reducible refine Below.drew ?_) | (with_reducible refine below_drewN ?_ _) | (apply bthen2; (with_reducible assumption)) | go_size))
    have z0 := hBX.2.1 0 _ rfl
    have z1 := hBX.2.1 1 _ rfl
    have z2 := hBX.1
    clear hb1 hBX
    go_wp2_with fail
    refine (HG1.out _).mono ?_
    rintro e W2 ⟨a2, l2, c2, rfl, ho2, hb2⟩
    clear ho1 ho2
    go_wp2
    go_ret3
    exact gives rfl (by repeat' (first | (with_reducible exact Below.refl _ _) | (with_reducible assumption) | (with_reducible refine Below.alloc ?_ ?_ _) | (with_reducible refine Below.setCell ?_ ?_ _) | (with_reducible refine Below.drew ?_) | (with_reducible refine below_drewN ?_ _) | (apply bthen2; (with_reducible assumption)) | go_size))
  rw [hk0] at HG0
  have HR00 := Lib.hid (HR0.out hk0)
  clear HR0 hk0
  cases hk1 : cgOk (fgL a b true M)
  · rw [hk1] at HG1
    clear hk1 HR1 HR00
    simp only [Bool.and_false, Bool.false_eq_true, if_false]
    go_enter Try.func58, Try.ntmps58
    go_wp2_with fail
    refine (HG0.out _).mono ?_
    rintro e W1 ⟨a1, l1, c1, rfl, ho1, hb1⟩
    have hBX : Box W1 w.heap.size [.int .i64 a, .int .i64 b] := Box.below (box_two (by simp) (by simp) (by simp) (fun o => by simp)) hb1
    have hB1 : Below w.heap.size w W1 := (by repeat' (first | (with_reducible exact Below.refl _ _) | (with_reducible assumption) | (with_reducible refine Below.alloc ?_ ?_ _) | (with_reducible refine Below.setCell ?_ ?_ _) | (with_reducible refine Below.drew ?_) | (with_reducible refine below_drewN ?_ _) | (apply bthen2; (with_reducible assumption)) | go_size))
    have z0 := hBX.2.1 0 _ rfl
    have z1 := hBX.2.1 1 _ rfl
    have z2 := hBX.1
    clear hb1 hBX
    go_wp2_with fail
    refine (HG1.out _).mono ?_
    rintro e W2 ⟨a2, l2, c2, rfl, ho2, hb2⟩
    clear ho1 ho2
    go_wp2
    go_ret3
    exact gives rfl (by repeat' (first | (with_reducible exact Below.refl _ _) | (with_reducible assumption) | (with_reducible refine Below.alloc ?_ ?_ _) | (with_reducible refine Below.setCell ?_ ?_ _) | (with_reducible refine Below.drew ?_) | (with_reducible refine below_drewN ?_ _) | (apply bthen2; (with_reducible assumption)) | go_size))
  · rw [hk1] at HG1
    have HR11 := Lib.hid (HR1.out hk1)
    clear HR1 hk1
    simp only [Bool.and_self, if_true]
    go_enter Try.func58, Try.ntmps58
    go_wp2_with fail
    refine (HG0.out _).mono ?_
    rintro e W1 ⟨a1, l1, c1, rfl, ho1, hb1⟩
    have hBX : Box W1 w.heap.size [.int .i64 a, .int .i64 b] := Box.below (box_two (by simp) (by simp) (by simp) (fun o => by simp)) hb1
    have hB1 : Below w.heap.size w W1 := (by repeat' (first | (with_reducible exact Below.refl _ _) | (with_reducible assumption) | (with_reducible refine Below.alloc ?_ ?_ _) | (with_reducible refine Below.setCell ?_ ?_ _) | (with_reducible refine Below.drew ?_) | (with_reducible refine below_drewN ?_ _) | (apply bthen2; (with_reducible assumption)) | go_size))
    have z0 := hBX.2.1 0 _ rfl
    have z1 := hBX.2.1 1 _ rfl
    have z2 := hBX.1
    have HO1 := Lib.hid ho1.ints
    clear hb1 hBX ho1
    go_wp2_with fail
    refine (HG1.out _).mono ?_
    rintro e W2 ⟨a2, l2, c2, rfl, ho2, hb2⟩
    have HO2 := Lib.hid ho2.ints
    clear ho2
    go_wp2_with fail
    refine (HR00.out _ _ (HO1.out.below hb2)).mono ?_
    rintro e W3 ⟨rfl, hb3⟩
    go_wp2_with fail
    refine (HR11.out _ _ (HO2.out.below hb3)).mono ?_
    rintro e W4 ⟨rfl, hb4⟩
    go_wp2
    go_ret3
    exact gives rfl (by repeat' (first | (with_reducible exact Below.refl _ _) | (with_reducible assumption) | (with_reducible refine Below.alloc ?_ ?_ _) | (with_reducible refine Below.setCell ?_ ?_ _) | (with_reducible refine Below.drew ?_) | (with_reducible refine below_drewN ?_ _) | (apply bthen2; (with_reducible assumption)) | go_size))

set_option maxRecDepth 100000 in
set_option maxHeartbeats 4000000 in
theorem rkFound_any (a b M : Int) (h : isT a b = true) (m1 : 1 ≤ M) (m2 : M ≤ 60) (w : World) : Calls Try.prog 57 #[.agg #[.int .i64 a, .int .i64 b], .int .i64 M] w (Gives (frV a b M) w) := by
  have HG0 := Lib.hid (fun w => rkGroup_any a b false M h m1 m2 w)
  have HG1 := Lib.hid (fun w => rkGroup_any a b true M h m1 m2 w)
  have HR0 := Lib.hid (fun hk s w hx => rk_cg (fgL a b false M) (fgL_cls h) hk ▸ sRankOfClasses_any s (cgR (fgL a b false M)) w hx)
  have HR1 := Lib.hid (fun hk s w hx => rk_cg (fgL a b true M) (fgL_cls h) hk ▸ sRankOfClasses_any s (cgR (fgL a b true M)) w hx)
  have hV : frV a b M = if (cgOk (fgL a b false M) && cgOk (fgL a b true M)) = true then .tuple #[.int .i64 (rkI (cgR (fgL a b false M))), .int .i64 (rkI (cgR (fgL a b true M))), .bool true] else .tuple #[.int .i64 0, .int .i64 0, .bool false] := rfl
  rw [hV]
  have E0 : (Lib.bitLen (cgR (fgL a b false M)).length : Int) - 1 = rkI (cgR (fgL a b false M)) := rfl
  have E1 : (Lib.bitLen (cgR (fgL a b true M)).length : Int) - 1 = rkI (cgR (fgL a b true M)) := rfl
  rw [E0] at HR0
  rw [E1] at HR1
  clear hV E0 E1 h m1 m2
  generalize rkI (cgR (fgL a b false M)) = r0 at *
  generalize rkI (cgR (fgL a b true M)) = r1 at *
  generalize cgR (fgL a b false M) = X0 at *
  generalize cgR (fgL a b true M) = X1 at *
  cases hk0 : cgOk (fgL a b false M)
  · rw [hk0] at HG0
    clear hk0 HR0 HR1
    generalize cgOk (fgL a b true M) = ok1 at *
    simp only [Bool.false_and, Bool.false_eq_true, if_false]
    go_enter Try.func57, Try.ntmps57
    go_wp2_with fail
    refine (HG0.out _).mono ?_
    rintro e W1 ⟨a1, l1, c1, rfl, ho1, hb1⟩
    have hBX : Box W1 w.heap.size [.int .i64 a, .int .i64 b] := Box.below (box_two (by simp) (by simp) (by simp) (fun o => by simp)) hb1
    have hB1 : Below w.heap.size w W1 := (by repeat' (first | (with_reducible exact Below.refl _ _) | (with_reducible assumption) | (with_reducible refine Below.alloc ?_ ?_ _) | (with_reducible refine Below.setCell ?_ ?_ _) | (with_reducible refine Below.drew ?_) | (with_reducible refine below_drewN ?_ _) | (apply bthen2; (with_reducible assumption)) | go_size))
    have z0 := hBX.2.1 0 _ rfl
    have z1 := hBX.2.1 1 _ rfl
    have z2 := hBX.1
    clear hb1 hBX
    go_wp2_with fail
    refine (HG1.out _).mono ?_
    rintro e W2 ⟨a2, l2, c2, rfl, ho2, hb2⟩
    clear ho1 ho2
    go_wp2
    go_ret3
    exact gives rfl (by repeat' (first | (with_reducible exact Below.refl _ _) | (with_reducible assumption) | (with_reducible refine Below.alloc ?_ ?_ _) | (with_reducible refine Below.setCell ?_ ?_ _) | (with_reducible refine Below.drew ?_) | (with_reducible refine below_drewN ?_ _) | (apply bthen2; (with_reducible assumption)) | go_size))
  rw [hk0] at HG0
  have HR00 := Lib.hid (HR0.out hk0)
  clear HR0 hk0
  cases hk1 : cgOk (fgL a b true M)
  · rw [hk1] at HG1
    clear hk1 HR1 HR00
    simp only [Bool.and_false, Bool.false_eq_true, if_false]
    go_enter Try.func57, Try.ntmps57
    go_wp2_with fail
    refine (HG0.out _).mono ?_
    rintro e W1 ⟨a1, l1, c1, rfl, ho1, hb1⟩
    have hBX : Box W1 w.heap.size [.int .i64 a, .int .i64 b] := Box.below (box_two (by simp) (by simp) (by simp) (fun o => by simp)) hb1
    have hB1 : Below w.heap.size w W1 := (by repeat' (first | (with_reducible exact Below.refl _ _) | (with_reducible assumption) | (with_reducible refine Below.alloc ?_ ?_ _) | (with_reducible refine Below.setCell ?_ ?_ _) | (with_reducible refine Below.drew ?_) | (with_reducible refine below_drewN ?_ _) | (apply bthen2; (with_reducible assumption)) | go_size))
    have z0 := hBX.2.1 0 _ rfl
    have z1 := hBX.2.1 1 _ rfl
    have z2 := hBX.1
    clear hb1 hBX
    go_wp2_with fail
    refine (HG1.out _).mono ?_
    rintro e W2 ⟨a2, l2, c2, rfl, ho2, hb2⟩
    clear ho1 ho2
    go_wp2
    go_ret3
    exact gives rfl (by repeat' (first | (with_reducible exact Below.refl _ _) | (with_reducible assumption) | (with_reducible refine Below.alloc ?_ ?_ _) | (with_reducible refine Below.setCell ?_ ?_ _) | (with_reducible refine Below.drew ?_) | (with_reducible refine below_drewN ?_ _) | (apply bthen2; (with_reducible assumption)) | go_size))
  · rw [hk1] at HG1
    have HR11 := Lib.hid (HR1.out hk1)
    clear HR1 hk1
    simp only [Bool.and_self, if_true]
    go_enter Try.func57, Try.ntmps57
    go_wp2_with fail
    refine (HG0.out _).mono ?_
    rintro e W1 ⟨a1, l1, c1, rfl, ho1, hb1⟩
    have hBX : Box W1 w.heap.size [.int .i64 a, .int .i64 b] := Box.below (box_two (by simp) (by simp) (by simp) (fun o => by simp)) hb1
    have hB1 : Below w.heap.size w W1 := (by repeat' (first | (with_reducible exact Below.refl _ _) | (with_reducible assumption) | (with_reducible refine Below.alloc ?_ ?_ _) | (with_reducible refine Below.setCell ?_ ?_ _) | (with_reducible refine Below.drew ?_) | (with_reducible refine below_drewN ?_ _) | (apply bthen2; (with_reducible assumption)) | go_size))
    have z0 := hBX.2.1 0 _ rfl
    have z1 := hBX.2.1 1 _ rfl
    have z2 := hBX.1
    have HO1 := Lib.hid ho1.ints
    clear hb1 hBX ho1
    go_wp2_with fail
    refine (HG1.out _).mono ?_
    rintro e W2 ⟨a2, l2, c2, rfl, ho2, hb2⟩
    have HO2 := Lib.hid ho2.ints
    clear ho2
    go_wp2_with fail
    refine (HR00.out _ _ (HO1.out.below hb2)).mono ?_
    rintro e W3 ⟨rfl, hb3⟩
    go_wp2_with fail
    refine (HR11.out _ _ (HO2.out.below hb3)).mono ?_
    rintro e W4 ⟨rfl, hb4⟩
    go_wp2
    go_ret3
    exact gives rfl (by repeat' (first | (with_reducible exact Below.refl _ _) | (with_reducible assumption) | (with_reducible refine Below.alloc ?_ ?_ _) | (with_reducible refine Below.setCell ?_ ?_ _) | (with_reducible refine Below.drew ?_) | (with_reducible refine below_drewN ?_ _) | (apply bthen2; (with_reducible assumption)) | go_size))

set_option maxHeartbeats 1000000 in
theorem FoundGroup_any (a b : Int) (s : Bool) ( M : Int) (w : World) : Calls Try.prog 29 #[.agg #[.int .i64 a, .int .i64 b], .bool s, .int .i64 M] w (GivesIB (fgR a b s M) (fgOk a b s M) w) := by
  have HG := Lib.hid (fun w => isTwoCurve_any a b w)
  have HI := Lib.hid (fun w => inside_any M 1 60 w)
  unfold fgR fgOk fdOk
  cases g : isT a b
  · rw [g] at HG
    simp only [Bool.false_and, Bool.false_eq_true, if_false]
    go_enter Try.func29, Try.ntmps29
    go_wp2_with fail
    refine (HG.out _).mono ?_
    rintro e wa ⟨rfl, hba⟩; have hza := hba.size; (try simp only [World.size_alloc, World.size_setCell, World.size_drew, World.heap_drewN] at hza); try (refine keepc hba (w.heap.size) ?_ ?_; (focus (first | omega | (simp <;> omega))); intro hca_0 hfa_0 hla_0); try (refine keepc hba (w.heap.size + 1) ?_ ?_; (focus (first | omega | (simp <;> omega))); intro hca_1 hfa_1 hla_1); try (refine keepc hba (w.heap.size + 1 + 1) ?_ ?_; (focus (first | omega | (simp <;> omega))); intro hca_2 hfa_2 hla_2)
    go_wp2
    go_ret2
    exact ⟨_, _, _, rfl, Own.nil _ _, (by repeat' (first | (with_reducible exact Below.refl _ _) | (with_reducible assumption) | (with_reducible refine Below.alloc ?_ ?_ _) | (with_reducible refine Below.setCell ?_ ?_ _) | (with_reducible refine Below.drew ?_) | (with_reducible refine below_drewN ?_ _) | (apply bthen2; (with_reducible assumption)) | go_size))⟩
  rw [g] at HG
  cases g2 : inB M 1 60
  · rw [g2] at HI
    simp only [Bool.and_false, Bool.false_eq_true, if_false]
    go_enter Try.func29, Try.ntmps29
    go_wp2_with fail
    refine (HG.out _).mono ?_
    rintro e wa ⟨rfl, hba⟩; have hza := hba.size; (try simp only [World.size_alloc, World.size_setCell, World.size_drew, World.heap_drewN] at hza); try (refine keepc hba (w.heap.size) ?_ ?_; (focus (first | omega | (simp <;> omega))); intro hca_0 hfa_0 hla_0); try (refine keepc hba (w.heap.size + 1) ?_ ?_; (focus (first | omega | (simp <;> omega))); intro hca_1 hfa_1 hla_1); try (refine keepc hba (w.heap.size + 1 + 1) ?_ ?_; (focus (first | omega | (simp <;> omega))); intro hca_2 hfa_2 hla_2)
    go_wp2_with fail
    refine (HI.out _).mono ?_
    rintro e wb ⟨rfl, rfl⟩
    go_wp2
    go_ret2
    exact ⟨_, _, _, rfl, Own.nil _ _, (by repeat' (first | (with_reducible exact Below.refl _ _) | (with_reducible assumption) | (with_reducible refine Below.alloc ?_ ?_ _) | (with_reducible refine Below.setCell ?_ ?_ _) | (with_reducible refine Below.drew ?_) | (with_reducible refine below_drewN ?_ _) | (apply bthen2; (with_reducible assumption)) | go_size))⟩
  · rw [g2] at HI
    have hM := inB_iff.1 g2
    have HF := Lib.hid (fun w => foundGroup_any a b s M g hM.1 hM.2 w)
    skip
    simp only [Bool.and_self, if_true]
    generalize cgR (fgL a b s M) = R at *
    generalize cgOk (fgL a b s M) = ok at *
    clear g g2 hM
    go_enter Try.func29, Try.ntmps29
    go_wp2_with fail
    refine (HG.out _).mono ?_
    rintro e wa ⟨rfl, hba⟩; have hza := hba.size; (try simp only [World.size_alloc, World.size_setCell, World.size_drew, World.heap_drewN] at hza); try (refine keepc hba (w.heap.size) ?_ ?_; (focus (first | omega | (simp <;> omega))); intro hca_0 hfa_0 hla_0); try (refine keepc hba (w.heap.size + 1) ?_ ?_; (focus (first | omega | (simp <;> omega))); intro hca_1 hfa_1 hla_1); try (refine keepc hba (w.heap.size + 1 + 1) ?_ ?_; (focus (first | omega | (simp <;> omega))); intro hca_2 hfa_2 hla_2)
    go_wp2_with fail
    refine (HI.out _).mono ?_
    rintro e wb ⟨rfl, rfl⟩
    go_wp2_with fail
    refine (HF.out _).mono ?_
    rintro e wc ⟨a3, l3, c3, rfl, ho, hbc⟩
    skip
    go_wp2_with fail
    go_ret2
    exact ⟨_, _, _, rfl, ho.mono (by first | (simp; omega) | omega), (by repeat' (first | (with_reducible exact Below.refl _ _) | (with_reducible assumption) | (with_reducible refine Below.alloc ?_ ?_ _) | (with_reducible refine Below.setCell ?_ ?_ _) | (with_reducible refine Below.drew ?_) | (with_reducible refine below_drewN ?_ _) | (apply bthen2; (with_reducible assumption)) | go_size))⟩

theorem rkAsked_any (a b M : Int) (w : World) : Calls Try.prog 54 #[.agg #[.int .i64 a, .int .i64 b], .int .i64 M] w (Gives (.bool (fdOk a b M)) w) := by
  have HG := Lib.hid (fun w => tcGood_any a b w)
  have HI := Lib.hid (fun w => dsMost_any M w)
  unfold fdOk
  cases g : isT a b
  · rw [g] at HG
    simp only [Bool.false_and]
    clear g
    go_enter Try.func54, Try.ntmps54
    go_wp2_with fail
    refine (HG.out _).mono ?_
    rintro e wa ⟨rfl, hba⟩; have hza := hba.size; (try simp only [World.size_alloc, World.size_setCell, World.size_drew, World.heap_drewN] at hza); try (refine keepc hba (w.heap.size) ?_ ?_; (focus (first | omega | (simp <;> omega))); intro hca_0 hfa_0 hla_0); try (refine keepc hba (w.heap.size + 1) ?_ ?_; (focus (first | omega | (simp <;> omega))); intro hca_1 hfa_1 hla_1); try (refine keepc hba (w.heap.size + 1 + 1) ?_ ?_; (focus (first | omega | (simp <;> omega))); intro hca_2 hfa_2 hla_2)
    go_wp2
    go_ret
    exact gives rfl (by repeat' (first | (with_reducible exact Below.refl _ _) | (with_reducible assumption) | (with_reducible refine Below.alloc ?_ ?_ _) | (with_reducible refine Below.setCell ?_ ?_ _) | (with_reducible refine Below.drew ?_) | (with_reducible refine below_drewN ?_ _) | (apply bthen2; (with_reducible assumption)) | go_size))
  · rw [g] at HG
    simp only [Bool.true_and]
    clear g
    generalize inB M 1 60 = B at *
    go_enter Try.func54, Try.ntmps54
    go_wp2_with fail
    refine (HG.out _).mono ?_
    rintro e wa ⟨rfl, hba⟩; have hza := hba.size; (try simp only [World.size_alloc, World.size_setCell, World.size_drew, World.heap_drewN] at hza); try (refine keepc hba (w.heap.size) ?_ ?_; (focus (first | omega | (simp <;> omega))); intro hca_0 hfa_0 hla_0); try (refine keepc hba (w.heap.size + 1) ?_ ?_; (focus (first | omega | (simp <;> omega))); intro hca_1 hfa_1 hla_1); try (refine keepc hba (w.heap.size + 1 + 1) ?_ ?_; (focus (first | omega | (simp <;> omega))); intro hca_2 hfa_2 hla_2)
    go_wp2_with fail
    refine (HI.out _).mono ?_
    rintro e wb ⟨rfl, rfl⟩
    go_wp2
    go_ret
    exact gives rfl (by repeat' (first | (with_reducible exact Below.refl _ _) | (with_reducible assumption) | (with_reducible refine Below.alloc ?_ ?_ _) | (with_reducible refine Below.setCell ?_ ?_ _) | (with_reducible refine Below.drew ?_) | (with_reducible refine below_drewN ?_ _) | (apply bthen2; (with_reducible assumption)) | go_size))

set_option maxHeartbeats 1000000 in
theorem sFoundGroup_any (a b : Int) (s : Bool) ( M : Int) (w : World) : Calls Try.prog 28 #[.agg #[.int .i64 a, .int .i64 b], .bool s, .int .i64 M] w (GivesIB (fgR a b s M) (fgOk a b s M) w) := by
  have HG := Lib.hid (fun w => rkAsked_any a b M w)
  unfold fgR fgOk
  cases g : fdOk a b M
  · rw [g] at HG
    simp only [Bool.false_and, Bool.false_eq_true, if_false]
    go_enter Try.func28, Try.ntmps28
    go_wp2_with fail
    refine (HG.out _).mono ?_
    rintro e wa ⟨rfl, hba⟩; have hza := hba.size; (try simp only [World.size_alloc, World.size_setCell, World.size_drew, World.heap_drewN] at hza); try (refine keepc hba (w.heap.size) ?_ ?_; (focus (first | omega | (simp <;> omega))); intro hca_0 hfa_0 hla_0); try (refine keepc hba (w.heap.size + 1) ?_ ?_; (focus (first | omega | (simp <;> omega))); intro hca_1 hfa_1 hla_1); try (refine keepc hba (w.heap.size + 1 + 1) ?_ ?_; (focus (first | omega | (simp <;> omega))); intro hca_2 hfa_2 hla_2)
    go_wp2
    go_ret2
    exact ⟨_, _, _, rfl, Own.nil _ _, (by repeat' (first | (with_reducible exact Below.refl _ _) | (with_reducible assumption) | (with_reducible refine Below.alloc ?_ ?_ _) | (with_reducible refine Below.setCell ?_ ?_ _) | (with_reducible refine Below.drew ?_) | (with_reducible refine below_drewN ?_ _) | (apply bthen2; (with_reducible assumption)) | go_size))⟩
  · rw [g] at HG
    have g3 := g
    unfold fdOk at g3
    simp only [Bool.and_eq_true] at g3
    have hM := inB_iff.1 g3.2
    have hT := g3.1
    have HF := Lib.hid (fun w => rkGroup_any a b s M hT hM.1 hM.2 w)
    skip
    simp only [if_true]
    generalize cgR (fgL a b s M) = R at *
    generalize cgOk (fgL a b s M) = ok at *
    clear g g3 hM hT
    go_enter Try.func28, Try.ntmps28
    go_wp2_with fail
    refine (HG.out _).mono ?_
    rintro e wa ⟨rfl, hba⟩; have hza := hba.size; (try simp only [World.size_alloc, World.size_setCell, World.size_drew, World.heap_drewN] at hza); try (refine keepc hba (w.heap.size) ?_ ?_; (focus (first | omega | (simp <;> omega))); intro hca_0 hfa_0 hla_0); try (refine keepc hba (w.heap.size + 1) ?_ ?_; (focus (first | omega | (simp <;> omega))); intro hca_1 hfa_1 hla_1); try (refine keepc hba (w.heap.size + 1 + 1) ?_ ?_; (focus (first | omega | (simp <;> omega))); intro hca_2 hfa_2 hla_2)
    go_wp2_with fail
    refine (HF.out _).mono ?_
    rintro e wc ⟨a3, l3, c3, rfl, ho, hbc⟩
    skip
    go_wp2_with fail
    go_ret2
    exact ⟨_, _, _, rfl, ho.mono (by first | (simp; omega) | omega), (by repeat' (first | (with_reducible exact Below.refl _ _) | (with_reducible assumption) | (with_reducible refine Below.alloc ?_ ?_ _) | (with_reducible refine Below.setCell ?_ ?_ _) | (with_reducible refine Below.drew ?_) | (with_reducible refine below_drewN ?_ _) | (apply bthen2; (with_reducible assumption)) | go_size))⟩

noncomputable def lrR (a b M : Int) : Value := if (cgOk (fgL a b false M) && cgOk (fgL a b true M)) = true then .tuple #[.int .i64 (max (rkI (cgR (fgL a b false M)) + rkI (cgR (fgL a b true M)) - 2) 0), .bool true] else .tuple #[.int .i64 0, .bool false]
def frG (a b M r0 r1 : Int) (k : Bool) : Prop := frV a b M = .tuple #[.int .i64 r0, .int .i64 r1, .bool k] ∧ 0 ≤ r0 ∧ r0 ≤ 6 ∧ 0 ≤ r1 ∧ r1 ≤ 6 ∧ (k = false → r0 = 0 ∧ r1 = 0) ∧ lrR a b M = .tuple #[.int .i64 (max (r0 + r1 - 2) 0), .bool k]
theorem frG_ex {a b M : Int} (h : isT a b = true) : ∃ r0 r1 k, frG a b M r0 r1 k := by
  unfold frG frV lrR
  by_cases hk : (cgOk (fgL a b false M) && cgOk (fgL a b true M)) = true
  · simp only [hk, if_true]
    simp only [Bool.and_eq_true] at hk
    have g0 := cg_grp _ (fgL_cls (s := false) (M := M) h) hk.1
    have g1 := cg_grp _ (fgL_cls (s := true) (M := M) h) hk.2
    have a0 := rkI_le _ g0.2.1 g0.1
    have a1 := rkI_le _ g1.2.1 g1.1
    exact ⟨_, _, _, rfl, a0.1, a0.2, a1.1, a1.2, (fun h => by cases h), rfl⟩
  · simp only [hk, if_false]
    exact ⟨0, 0, false, rfl, by omega, by omega, by omega, by omega, fun _ => ⟨rfl, rfl⟩, rfl⟩
noncomputable def fkV (a b M : Int) : Value := if fdOk a b M = true then frV a b M else .tuple #[.int .i64 0, .int .i64 0, .bool false]
theorem fkV_ex (a b M : Int) : ∃ r0 r1 k, fkV a b M = .tuple #[.int .i64 r0, .int .i64 r1, .bool k] := by
  unfold fkV
  split
  · rename_i h
    unfold fdOk at h
    simp only [Bool.and_eq_true] at h
    obtain ⟨r0, r1, k, h2, -⟩ := frG_ex (M := M) h.1
    exact ⟨_, _, _, h2⟩
  · exact ⟨_, _, _, rfl⟩
theorem lrR_eq {a b M r0 r1 : Int} {k : Bool} (h : frG a b M r0 r1 k) : lrR a b M = .tuple #[.int .i64 (max (r0 + r1 - 2) 0), .bool k] := h.2.2.2.2.2.2
noncomputable def lkV (a b M : Int) : Value := if fdOk a b M = true then lrR a b M else .tuple #[.int .i64 0, .bool false]
theorem lkV_ex (a b M : Int) : ∃ r k, lkV a b M = .tuple #[.int .i64 r, .bool k] := by
  unfold lkV
  split
  · rename_i h
    unfold fdOk at h
    simp only [Bool.and_eq_true] at h
    obtain ⟨r0, r1, k, h2⟩ := frG_ex (M := M) h.1
    exact ⟨_, _, lrR_eq h2⟩
  · exact ⟨_, _, rfl⟩

set_option maxHeartbeats 1000000 in
theorem lowerRank_any (a b M : Int) (h : isT a b = true) (m1 : 1 ≤ M) (m2 : M ≤ 60) (w : World) : Calls Try.prog 60 #[.agg #[.int .i64 a, .int .i64 b], .int .i64 M] w (Gives (lrR a b M) w) := by
  have HF := Lib.hid (fun w => foundRanks_any a b M h m1 m2 w)
  obtain ⟨r0, r1, k, hG⟩ := frG_ex (M := M) h
  rw [lrR_eq hG]
  obtain ⟨e, b1, b2, b3, b4, -, -⟩ := hG
  rw [e] at HF
  clear e h m1 m2
  have e1 : wrap64 (r0 + r1) = r0 + r1 := win (by omega)
  have e2 : wrap64 (r0 + r1 - 2) = r0 + r1 - 2 := win (by omega)
  go_enter Try.func60, Try.ntmps60
  go_wp2_with fail
  refine (HF.out _).mono ?_
  rintro e wa ⟨rfl, hba⟩; have hza := hba.size; (try simp only [World.size_alloc, World.size_setCell, World.size_drew, World.heap_drewN] at hza); try (refine keepc hba (w.heap.size) ?_ ?_; (focus (first | omega | (simp <;> omega))); intro hca_0 hfa_0 hla_0); try (refine keepc hba (w.heap.size + 1) ?_ ?_; (focus (first | omega | (simp <;> omega))); intro hca_1 hfa_1 hla_1); try (refine keepc hba (w.heap.size + 1 + 1) ?_ ?_; (focus (first | omega | (simp <;> omega))); intro hca_2 hfa_2 hla_2)
  go_wp2
  all_goals
    go_ret2
    exact gives (by simp [*]) (by repeat' (first | (with_reducible exact Below.refl _ _) | (with_reducible assumption) | (with_reducible refine Below.alloc ?_ ?_ _) | (with_reducible refine Below.setCell ?_ ?_ _) | (with_reducible refine Below.drew ?_) | (with_reducible refine below_drewN ?_ _) | (apply bthen2; (with_reducible assumption)) | go_size))

set_option maxHeartbeats 1000000 in
theorem FoundRanks_any (a b M : Int) (w : World) : Calls Try.prog 31 #[.agg #[.int .i64 a, .int .i64 b], .int .i64 M] w (Gives (fkV a b M) w) := by
  have HG := Lib.hid (fun w => isTwoCurve_any a b w)
  have HI := Lib.hid (fun w => inside_any M 1 60 w)
  unfold fkV fdOk
  cases g : isT a b
  · rw [g] at HG
    simp only [Bool.false_and, Bool.false_eq_true, if_false]
    go_enter Try.func31, Try.ntmps31
    go_wp2_with fail
    refine (HG.out _).mono ?_
    rintro e wa ⟨rfl, hba⟩; have hza := hba.size; (try simp only [World.size_alloc, World.size_setCell, World.size_drew, World.heap_drewN] at hza); try (refine keepc hba (w.heap.size) ?_ ?_; (focus (first | omega | (simp <;> omega))); intro hca_0 hfa_0 hla_0); try (refine keepc hba (w.heap.size + 1) ?_ ?_; (focus (first | omega | (simp <;> omega))); intro hca_1 hfa_1 hla_1); try (refine keepc hba (w.heap.size + 1 + 1) ?_ ?_; (focus (first | omega | (simp <;> omega))); intro hca_2 hfa_2 hla_2)
    go_wp2
    go_ret3
    exact gives rfl (by repeat' (first | (with_reducible exact Below.refl _ _) | (with_reducible assumption) | (with_reducible refine Below.alloc ?_ ?_ _) | (with_reducible refine Below.setCell ?_ ?_ _) | (with_reducible refine Below.drew ?_) | (with_reducible refine below_drewN ?_ _) | (apply bthen2; (with_reducible assumption)) | go_size))
  rw [g] at HG
  cases g2 : inB M 1 60
  · rw [g2] at HI
    simp only [Bool.and_false, Bool.false_eq_true, if_false]
    go_enter Try.func31, Try.ntmps31
    go_wp2_with fail
    refine (HG.out _).mono ?_
    rintro e wa ⟨rfl, hba⟩; have hza := hba.size; (try simp only [World.size_alloc, World.size_setCell, World.size_drew, World.heap_drewN] at hza); try (refine keepc hba (w.heap.size) ?_ ?_; (focus (first | omega | (simp <;> omega))); intro hca_0 hfa_0 hla_0); try (refine keepc hba (w.heap.size + 1) ?_ ?_; (focus (first | omega | (simp <;> omega))); intro hca_1 hfa_1 hla_1); try (refine keepc hba (w.heap.size + 1 + 1) ?_ ?_; (focus (first | omega | (simp <;> omega))); intro hca_2 hfa_2 hla_2)
    go_wp2_with fail
    refine (HI.out _).mono ?_
    rintro e wb ⟨rfl, rfl⟩
    go_wp2
    go_ret3
    exact gives rfl (by repeat' (first | (with_reducible exact Below.refl _ _) | (with_reducible assumption) | (with_reducible refine Below.alloc ?_ ?_ _) | (with_reducible refine Below.setCell ?_ ?_ _) | (with_reducible refine Below.drew ?_) | (with_reducible refine below_drewN ?_ _) | (apply bthen2; (with_reducible assumption)) | go_size))
  · rw [g2] at HI
    have hM := inB_iff.1 g2
    have HF := Lib.hid (fun w => foundRanks_any a b M g hM.1 hM.2 w)
    obtain ⟨r0, r1, k, hG⟩ := frG_ex (M := M) g
    rw [hG.1] at HF
    simp only [Bool.and_self, if_true]
    rw [hG.1]
    clear hG
    clear g g2 hM
    go_enter Try.func31, Try.ntmps31
    go_wp2_with fail
    refine (HG.out _).mono ?_
    rintro e wa ⟨rfl, hba⟩; have hza := hba.size; (try simp only [World.size_alloc, World.size_setCell, World.size_drew, World.heap_drewN] at hza); try (refine keepc hba (w.heap.size) ?_ ?_; (focus (first | omega | (simp <;> omega))); intro hca_0 hfa_0 hla_0); try (refine keepc hba (w.heap.size + 1) ?_ ?_; (focus (first | omega | (simp <;> omega))); intro hca_1 hfa_1 hla_1); try (refine keepc hba (w.heap.size + 1 + 1) ?_ ?_; (focus (first | omega | (simp <;> omega))); intro hca_2 hfa_2 hla_2)
    go_wp2_with fail
    refine (HI.out _).mono ?_
    rintro e wb ⟨rfl, rfl⟩
    go_wp2_with fail
    refine (HF.out _).mono ?_
    rintro e wc ⟨rfl, hbc⟩
    skip
    go_wp2_with fail
    go_ret3
    exact gives rfl (by repeat' (first | (with_reducible exact Below.refl _ _) | (with_reducible assumption) | (with_reducible refine Below.alloc ?_ ?_ _) | (with_reducible refine Below.setCell ?_ ?_ _) | (with_reducible refine Below.drew ?_) | (with_reducible refine below_drewN ?_ _) | (apply bthen2; (with_reducible assumption)) | go_size))

set_option maxHeartbeats 1000000 in
theorem sFoundRanks_any (a b M : Int) (w : World) : Calls Try.prog 30 #[.agg #[.int .i64 a, .int .i64 b], .int .i64 M] w (Gives (fkV a b M) w) := by
  have HG := Lib.hid (fun w => rkAsked_any a b M w)
  unfold fkV
  cases g : fdOk a b M
  · rw [g] at HG
    simp only [Bool.false_and, Bool.false_eq_true, if_false]
    go_enter Try.func30, Try.ntmps30
    go_wp2_with fail
    refine (HG.out _).mono ?_
    rintro e wa ⟨rfl, hba⟩; have hza := hba.size; (try simp only [World.size_alloc, World.size_setCell, World.size_drew, World.heap_drewN] at hza); try (refine keepc hba (w.heap.size) ?_ ?_; (focus (first | omega | (simp <;> omega))); intro hca_0 hfa_0 hla_0); try (refine keepc hba (w.heap.size + 1) ?_ ?_; (focus (first | omega | (simp <;> omega))); intro hca_1 hfa_1 hla_1); try (refine keepc hba (w.heap.size + 1 + 1) ?_ ?_; (focus (first | omega | (simp <;> omega))); intro hca_2 hfa_2 hla_2)
    go_wp2
    go_ret3
    exact gives rfl (by repeat' (first | (with_reducible exact Below.refl _ _) | (with_reducible assumption) | (with_reducible refine Below.alloc ?_ ?_ _) | (with_reducible refine Below.setCell ?_ ?_ _) | (with_reducible refine Below.drew ?_) | (with_reducible refine below_drewN ?_ _) | (apply bthen2; (with_reducible assumption)) | go_size))
  · rw [g] at HG
    have g3 := g
    unfold fdOk at g3
    simp only [Bool.and_eq_true] at g3
    have hM := inB_iff.1 g3.2
    have hT := g3.1
    have HF := Lib.hid (fun w => rkFound_any a b M hT hM.1 hM.2 w)
    obtain ⟨r0, r1, k, hG⟩ := frG_ex (M := M) hT
    rw [hG.1] at HF
    simp only [if_true]
    rw [hG.1]
    clear hG
    clear g g3 hM hT
    go_enter Try.func30, Try.ntmps30
    go_wp2_with fail
    refine (HG.out _).mono ?_
    rintro e wa ⟨rfl, hba⟩; have hza := hba.size; (try simp only [World.size_alloc, World.size_setCell, World.size_drew, World.heap_drewN] at hza); try (refine keepc hba (w.heap.size) ?_ ?_; (focus (first | omega | (simp <;> omega))); intro hca_0 hfa_0 hla_0); try (refine keepc hba (w.heap.size + 1) ?_ ?_; (focus (first | omega | (simp <;> omega))); intro hca_1 hfa_1 hla_1); try (refine keepc hba (w.heap.size + 1 + 1) ?_ ?_; (focus (first | omega | (simp <;> omega))); intro hca_2 hfa_2 hla_2)
    go_wp2_with fail
    refine (HF.out _).mono ?_
    rintro e wc ⟨rfl, hbc⟩
    skip
    go_wp2_with fail
    go_ret3
    exact gives rfl (by repeat' (first | (with_reducible exact Below.refl _ _) | (with_reducible assumption) | (with_reducible refine Below.alloc ?_ ?_ _) | (with_reducible refine Below.setCell ?_ ?_ _) | (with_reducible refine Below.drew ?_) | (with_reducible refine below_drewN ?_ _) | (apply bthen2; (with_reducible assumption)) | go_size))

set_option maxHeartbeats 1000000 in
theorem LowerRank_any (a b M : Int) (w : World) : Calls Try.prog 33 #[.agg #[.int .i64 a, .int .i64 b], .int .i64 M] w (Gives (lkV a b M) w) := by
  have HG := Lib.hid (fun w => isTwoCurve_any a b w)
  have HI := Lib.hid (fun w => inside_any M 1 60 w)
  unfold lkV fdOk
  cases g : isT a b
  · rw [g] at HG
    simp only [Bool.false_and, Bool.false_eq_true, if_false]
    go_enter Try.func33, Try.ntmps33
    go_wp2_with fail
    refine (HG.out _).mono ?_
    rintro e wa ⟨rfl, hba⟩; have hza := hba.size; (try simp only [World.size_alloc, World.size_setCell, World.size_drew, World.heap_drewN] at hza); try (refine keepc hba (w.heap.size) ?_ ?_; (focus (first | omega | (simp <;> omega))); intro hca_0 hfa_0 hla_0); try (refine keepc hba (w.heap.size + 1) ?_ ?_; (focus (first | omega | (simp <;> omega))); intro hca_1 hfa_1 hla_1); try (refine keepc hba (w.heap.size + 1 + 1) ?_ ?_; (focus (first | omega | (simp <;> omega))); intro hca_2 hfa_2 hla_2)
    go_wp2
    go_ret2
    exact gives rfl (by repeat' (first | (with_reducible exact Below.refl _ _) | (with_reducible assumption) | (with_reducible refine Below.alloc ?_ ?_ _) | (with_reducible refine Below.setCell ?_ ?_ _) | (with_reducible refine Below.drew ?_) | (with_reducible refine below_drewN ?_ _) | (apply bthen2; (with_reducible assumption)) | go_size))
  rw [g] at HG
  cases g2 : inB M 1 60
  · rw [g2] at HI
    simp only [Bool.and_false, Bool.false_eq_true, if_false]
    go_enter Try.func33, Try.ntmps33
    go_wp2_with fail
    refine (HG.out _).mono ?_
    rintro e wa ⟨rfl, hba⟩; have hza := hba.size; (try simp only [World.size_alloc, World.size_setCell, World.size_drew, World.heap_drewN] at hza); try (refine keepc hba (w.heap.size) ?_ ?_; (focus (first | omega | (simp <;> omega))); intro hca_0 hfa_0 hla_0); try (refine keepc hba (w.heap.size + 1) ?_ ?_; (focus (first | omega | (simp <;> omega))); intro hca_1 hfa_1 hla_1); try (refine keepc hba (w.heap.size + 1 + 1) ?_ ?_; (focus (first | omega | (simp <;> omega))); intro hca_2 hfa_2 hla_2)
    go_wp2_with fail
    refine (HI.out _).mono ?_
    rintro e wb ⟨rfl, rfl⟩
    go_wp2
    go_ret2
    exact gives rfl (by repeat' (first | (with_reducible exact Below.refl _ _) | (with_reducible assumption) | (with_reducible refine Below.alloc ?_ ?_ _) | (with_reducible refine Below.setCell ?_ ?_ _) | (with_reducible refine Below.drew ?_) | (with_reducible refine below_drewN ?_ _) | (apply bthen2; (with_reducible assumption)) | go_size))
  · rw [g2] at HI
    have hM := inB_iff.1 g2
    have HF := Lib.hid (fun w => lowerRank_any a b M g hM.1 hM.2 w)
    obtain ⟨r0, r1, k, hG⟩ := frG_ex (M := M) g
    rw [lrR_eq hG] at HF
    simp only [Bool.and_self, if_true]
    rw [lrR_eq hG]
    clear hG
    clear g g2 hM
    go_enter Try.func33, Try.ntmps33
    go_wp2_with fail
    refine (HG.out _).mono ?_
    rintro e wa ⟨rfl, hba⟩; have hza := hba.size; (try simp only [World.size_alloc, World.size_setCell, World.size_drew, World.heap_drewN] at hza); try (refine keepc hba (w.heap.size) ?_ ?_; (focus (first | omega | (simp <;> omega))); intro hca_0 hfa_0 hla_0); try (refine keepc hba (w.heap.size + 1) ?_ ?_; (focus (first | omega | (simp <;> omega))); intro hca_1 hfa_1 hla_1); try (refine keepc hba (w.heap.size + 1 + 1) ?_ ?_; (focus (first | omega | (simp <;> omega))); intro hca_2 hfa_2 hla_2)
    go_wp2_with fail
    refine (HI.out _).mono ?_
    rintro e wb ⟨rfl, rfl⟩
    go_wp2_with fail
    refine (HF.out _).mono ?_
    rintro e wc ⟨rfl, hbc⟩
    skip
    go_wp2_with fail
    go_ret2
    exact gives rfl (by repeat' (first | (with_reducible exact Below.refl _ _) | (with_reducible assumption) | (with_reducible refine Below.alloc ?_ ?_ _) | (with_reducible refine Below.setCell ?_ ?_ _) | (with_reducible refine Below.drew ?_) | (with_reducible refine below_drewN ?_ _) | (apply bthen2; (with_reducible assumption)) | go_size))

theorem rkLow_any (a b : Int) (h : 0 ≤ a ∧ a ≤ 6 ∧ 0 ≤ b ∧ b ≤ 6) (w : World) : Calls Try.prog 59 #[.int .i64 a, .int .i64 b] w (Same (.int .i64 (max (a + b - 2) 0)) w) := by
  have e1 : wrap64 (a + b) = a + b := win (by omega)
  have e2 : wrap64 (a + b - 2) = a + b - 2 := win (by omega)
  have e3 : max (a + b - 2) 0 = max 0 (a + b - 2) := Int.max_comm _ _
  rw [e3]
  have HI := Lib.hid (fun w => l1Most_any 0 (a + b - 2) w)
  clear e3 h
  generalize max 0 (a + b - 2) = m at *
  go_enter Try.func59, Try.ntmps59
  go_wp2_with (first | (go_at_call 85; refine (HI.out _).mono ?_; rintro e w1 ⟨rfl, rfl⟩))
  go_ret; exact same rfl

set_option maxHeartbeats 1000000 in
theorem sLowerRank_any (a b M : Int) (w : World) : Calls Try.prog 32 #[.agg #[.int .i64 a, .int .i64 b], .int .i64 M] w (Gives (lkV a b M) w) := by
  have HG := Lib.hid (fun w => rkAsked_any a b M w)
  unfold lkV
  cases g : fdOk a b M
  · rw [g] at HG
    simp only [Bool.false_and, Bool.false_eq_true, if_false]
    go_enter Try.func32, Try.ntmps32
    go_wp2_with fail
    refine (HG.out _).mono ?_
    rintro e wa ⟨rfl, hba⟩; have hza := hba.size; (try simp only [World.size_alloc, World.size_setCell, World.size_drew, World.heap_drewN] at hza); try (refine keepc hba (w.heap.size) ?_ ?_; (focus (first | omega | (simp <;> omega))); intro hca_0 hfa_0 hla_0); try (refine keepc hba (w.heap.size + 1) ?_ ?_; (focus (first | omega | (simp <;> omega))); intro hca_1 hfa_1 hla_1); try (refine keepc hba (w.heap.size + 1 + 1) ?_ ?_; (focus (first | omega | (simp <;> omega))); intro hca_2 hfa_2 hla_2)
    go_wp2
    go_ret2
    exact gives rfl (by repeat' (first | (with_reducible exact Below.refl _ _) | (with_reducible assumption) | (with_reducible refine Below.alloc ?_ ?_ _) | (with_reducible refine Below.setCell ?_ ?_ _) | (with_reducible refine Below.drew ?_) | (with_reducible refine below_drewN ?_ _) | (apply bthen2; (with_reducible assumption)) | go_size))
  · rw [g] at HG
    have g3 := g
    unfold fdOk at g3
    simp only [Bool.and_eq_true] at g3
    have hM := inB_iff.1 g3.2
    have hT := g3.1
    have HF := Lib.hid (fun w => rkFound_any a b M hT hM.1 hM.2 w)
    simp only [if_true]
    obtain ⟨r0, r1, k, hG⟩ := frG_ex (M := M) hT
    rw [lrR_eq hG]
    obtain ⟨e, b1, b2, b3, b4, b5, -⟩ := hG
    have HL := Lib.hid (fun w => rkLow_any r0 r1 ⟨b1, b2, b3, b4⟩ w)
    rw [e] at HF
    clear e g g3 hM hT
    cases k
    · obtain ⟨rfl, rfl⟩ := b5 rfl
      clear b1 b2 b3 b4 b5
      go_enter Try.func32, Try.ntmps32
      go_wp2_with fail
      refine (HG.out _).mono ?_
      rintro e wa ⟨rfl, hba⟩; have hza := hba.size; (try simp only [World.size_alloc, World.size_setCell, World.size_drew, World.heap_drewN] at hza); try (refine keepc hba (w.heap.size) ?_ ?_; (focus (first | omega | (simp <;> omega))); intro hca_0 hfa_0 hla_0); try (refine keepc hba (w.heap.size + 1) ?_ ?_; (focus (first | omega | (simp <;> omega))); intro hca_1 hfa_1 hla_1); try (refine keepc hba (w.heap.size + 1 + 1) ?_ ?_; (focus (first | omega | (simp <;> omega))); intro hca_2 hfa_2 hla_2)
      go_wp2_with fail
      refine (HF.out _).mono ?_
      rintro e wb ⟨rfl, hbb⟩; have hzb := hbb.size; (try simp only [World.size_alloc, World.size_setCell, World.size_drew, World.heap_drewN] at hzb); try (refine keepc hbb (w.heap.size) ?_ ?_; (focus (first | omega | (simp <;> omega))); intro hcb_0 hfb_0 hlb_0); try (refine keepc hbb (w.heap.size + 1) ?_ ?_; (focus (first | omega | (simp <;> omega))); intro hcb_1 hfb_1 hlb_1); try (refine keepc hbb (w.heap.size + 1 + 1) ?_ ?_; (focus (first | omega | (simp <;> omega))); intro hcb_2 hfb_2 hlb_2)
      go_wp2
      go_ret2
      exact gives rfl (by repeat' (first | (with_reducible exact Below.refl _ _) | (with_reducible assumption) | (with_reducible refine Below.alloc ?_ ?_ _) | (with_reducible refine Below.setCell ?_ ?_ _) | (with_reducible refine Below.drew ?_) | (with_reducible refine below_drewN ?_ _) | (apply bthen2; (with_reducible assumption)) | go_size))
    · clear b1 b2 b3 b4 b5
      generalize max (r0 + r1 - 2) 0 = m at *
      go_enter Try.func32, Try.ntmps32
      go_wp2_with fail
      refine (HG.out _).mono ?_
      rintro e wa ⟨rfl, hba⟩; have hza := hba.size; (try simp only [World.size_alloc, World.size_setCell, World.size_drew, World.heap_drewN] at hza); try (refine keepc hba (w.heap.size) ?_ ?_; (focus (first | omega | (simp <;> omega))); intro hca_0 hfa_0 hla_0); try (refine keepc hba (w.heap.size + 1) ?_ ?_; (focus (first | omega | (simp <;> omega))); intro hca_1 hfa_1 hla_1); try (refine keepc hba (w.heap.size + 1 + 1) ?_ ?_; (focus (first | omega | (simp <;> omega))); intro hca_2 hfa_2 hla_2)
      go_wp2_with fail
      refine (HF.out _).mono ?_
      rintro e wb ⟨rfl, hbb⟩; have hzb := hbb.size; (try simp only [World.size_alloc, World.size_setCell, World.size_drew, World.heap_drewN] at hzb); try (refine keepc hbb (w.heap.size) ?_ ?_; (focus (first | omega | (simp <;> omega))); intro hcb_0 hfb_0 hlb_0); try (refine keepc hbb (w.heap.size + 1) ?_ ?_; (focus (first | omega | (simp <;> omega))); intro hcb_1 hfb_1 hlb_1); try (refine keepc hbb (w.heap.size + 1 + 1) ?_ ?_; (focus (first | omega | (simp <;> omega))); intro hcb_2 hfb_2 hlb_2)
      go_wp2_with fail
      refine (HL.out _).mono ?_
      rintro e wc ⟨rfl, rfl⟩
      go_wp2
      go_ret2
      exact gives rfl (by repeat' (first | (with_reducible exact Below.refl _ _) | (with_reducible assumption) | (with_reducible refine Below.alloc ?_ ?_ _) | (with_reducible refine Below.setCell ?_ ?_ _) | (with_reducible refine Below.drew ?_) | (with_reducible refine below_drewN ?_ _) | (apply bthen2; (with_reducible assumption)) | go_size))

set_option maxRecDepth 100000 in
set_option maxHeartbeats 2000000 in
theorem walk_FnExactFoundGroup (a b : Int) (s : Bool) (M : Int) (w : World) (_w0 : (Lit.int .i64 a).wf = true) (_w1 : (Lit.int .i64 b).wf = true) (_w2 : (Lit.int .i64 M).wf = true) : Calls Try.prog 8 #[.agg #[.int .i64 a, .int .i64 b], .bool s, .int .i64 M] w (Gives (.bool true) w) := by
  have HS := Lib.hid (fun w => sFoundGroup_any a b s M w)
  have HI := Lib.hid (fun w => FoundGroup_any a b s M w)
  have hlen : (fgR a b s M).length ≤ 400000 := fgR_len a b s M
  generalize fgR a b s M = R at *
  generalize fgOk a b s M = ok at *
  go_enter Try.func8, Try.ntmps8
  go_wp2_with fail
  (refine (toTwoCurve_any _ _ _).mono ?_; rintro e wa ⟨rfl, hba⟩; have hza := hba.size; (try simp only [World.size_alloc, World.size_setCell, World.size_drew, World.heap_drewN] at hza); try (refine keepc hba (w.heap.size) ?_ ?_; (focus (first | omega | (simp <;> omega))); intro hca_0 hfa_0 hla_0); try (refine keepc hba (w.heap.size + 1) ?_ ?_; (focus (first | omega | (simp <;> omega))); intro hca_1 hfa_1 hla_1); try (refine keepc hba (w.heap.size + 1 + 1) ?_ ?_; (focus (first | omega | (simp <;> omega))); intro hca_2 hfa_2 hla_2))
  go_wp2_with fail
  refine (HS.out _).mono ?_; rintro e wb ⟨sa, sl, sc, rfl, ownb, hbb⟩
  have hzb := hbb.size; (try simp only [World.size_alloc, World.size_setCell, World.size_drew, World.heap_drewN] at hzb); try (refine keepc hbb (w.heap.size) ?_ ?_; (focus (first | omega | (simp <;> omega))); intro hcb_0 hfb_0 hlb_0); try (refine keepc hbb (w.heap.size + 1) ?_ ?_; (focus (first | omega | (simp <;> omega))); intro hcb_1 hfb_1 hlb_1); try (refine keepc hbb (w.heap.size + 1 + 1) ?_ ?_; (focus (first | omega | (simp <;> omega))); intro hcb_2 hfb_2 hlb_2)
  go_wp2_with fail
  (refine (toTwoCurve_any _ _ _).mono ?_; rintro e wc ⟨rfl, hbc⟩; have hzc := hbc.size; (try simp only [World.size_alloc, World.size_setCell, World.size_drew, World.heap_drewN] at hzc); try (refine keepc hbc (w.heap.size) ?_ ?_; (focus (first | omega | (simp <;> omega))); intro hcc_0 hfc_0 hlc_0); try (refine keepc hbc (w.heap.size + 1) ?_ ?_; (focus (first | omega | (simp <;> omega))); intro hcc_1 hfc_1 hlc_1); try (refine keepc hbc (w.heap.size + 1 + 1) ?_ ?_; (focus (first | omega | (simp <;> omega))); intro hcc_2 hfc_2 hlc_2))
  go_wp2_with fail
  refine (HI.out _).mono ?_; rintro e wd ⟨ga, gl, gc, rfl, ownd, hbd⟩
  have hzd := hbd.size; (try simp only [World.size_alloc, World.size_setCell, World.size_drew, World.heap_drewN] at hzd); try (refine keepc hbd (w.heap.size) ?_ ?_; (focus (first | omega | (simp <;> omega))); intro hcd_0 hfd_0 hld_0); try (refine keepc hbd (w.heap.size + 1) ?_ ?_; (focus (first | omega | (simp <;> omega))); intro hcd_1 hfd_1 hld_1); try (refine keepc hbd (w.heap.size + 1 + 1) ?_ ?_; (focus (first | omega | (simp <;> omega))); intro hcd_2 hfd_2 hld_2)
  go_wp2_with fail
  refine (eqIntS_same _ _ R _ ?_ ?_).mono ?_
  · refine Ints.below ownd.ints ?_; repeat' (first | (with_reducible exact Below.refl _ _) | (with_reducible assumption) | (with_reducible refine Below.alloc ?_ ?_ _) | (with_reducible refine Below.setCell ?_ ?_ _) | (with_reducible refine Below.drew ?_) | (with_reducible refine below_drewN ?_ _) | (apply bthen2; (with_reducible assumption)) | go_size)
  · refine Ints.below ownb.ints ?_; repeat' (first | (with_reducible exact Below.refl _ _) | (with_reducible assumption) | (with_reducible refine Below.alloc ?_ ?_ _) | (with_reducible refine Below.setCell ?_ ?_ _) | (with_reducible refine Below.drew ?_) | (with_reducible refine below_drewN ?_ _) | (apply bthen2; (with_reducible assumption)) | go_size)
  rintro e we ⟨rfl, hbe⟩
  have hze := hbe.size; (try simp only [World.size_alloc, World.size_setCell, World.size_drew, World.heap_drewN] at hze); try (refine keepc hbe (w.heap.size) ?_ ?_; (focus (first | omega | (simp <;> omega))); intro hce_0 hfe_0 hle_0); try (refine keepc hbe (w.heap.size + 1) ?_ ?_; (focus (first | omega | (simp <;> omega))); intro hce_1 hfe_1 hle_1); try (refine keepc hbe (w.heap.size + 1 + 1) ?_ ?_; (focus (first | omega | (simp <;> omega))); intro hce_2 hfe_2 hle_2)
  have owne := ownd.below hbe
  go_wp2_with fail
  refine (markIntS_any wc.heap.size _ R 1 _ ?_ (by omega) (by omega)).mono ?_
  · exact owne
  rintro e wf ⟨rfl, ownf, hon⟩
  have hbf := mark_belowI ownd hbd hbe hon
  have hzf := hbf.size; (try simp only [World.size_alloc, World.size_setCell, World.size_drew, World.heap_drewN] at hzf); try (refine keepc hbf (w.heap.size) ?_ ?_; (focus (first | omega | (simp <;> omega))); intro hcf_0 hff_0 hlf_0); try (refine keepc hbf (w.heap.size + 1) ?_ ?_; (focus (first | omega | (simp <;> omega))); intro hcf_1 hff_1 hlf_1); try (refine keepc hbf (w.heap.size + 1 + 1) ?_ ?_; (focus (first | omega | (simp <;> omega))); intro hcf_2 hff_2 hlf_2)
  go_wp2_with fail
  refine (heldIntS_any _ R.length 1 _ ?_ (by omega) (by omega)).mono ?_
  · exact ownf.ints
  rintro e wf' ⟨rfl, rfl⟩
  go_wp2_with fail
  (refine (toTwoCurve_any _ _ _).mono ?_; rintro e wg ⟨rfl, hbg⟩; have hzg := hbg.size; (try simp only [World.size_alloc, World.size_setCell, World.size_drew, World.heap_drewN] at hzg); try (refine keepc hbg (w.heap.size) ?_ ?_; (focus (first | omega | (simp <;> omega))); intro hcg_0 hfg_0 hlg_0); try (refine keepc hbg (w.heap.size + 1) ?_ ?_; (focus (first | omega | (simp <;> omega))); intro hcg_1 hfg_1 hlg_1); try (refine keepc hbg (w.heap.size + 1 + 1) ?_ ?_; (focus (first | omega | (simp <;> omega))); intro hcg_2 hfg_2 hlg_2))
  go_wp2_with fail
  refine (HI.out _).mono ?_; rintro e wh ⟨ha, hl, hc, rfl, ownh, hbh⟩
  have hzh := hbh.size; (try simp only [World.size_alloc, World.size_setCell, World.size_drew, World.heap_drewN] at hzh); try (refine keepc hbh (w.heap.size) ?_ ?_; (focus (first | omega | (simp <;> omega))); intro hch_0 hfh_0 hlh_0); try (refine keepc hbh (w.heap.size + 1) ?_ ?_; (focus (first | omega | (simp <;> omega))); intro hch_1 hfh_1 hlh_1); try (refine keepc hbh (w.heap.size + 1 + 1) ?_ ?_; (focus (first | omega | (simp <;> omega))); intro hch_2 hfh_2 hlh_2)
  go_wp2_with fail
  refine (eqIntS_same _ _ R _ ?_ ?_).mono ?_
  · refine Ints.below ownh.ints ?_; repeat' (first | (with_reducible exact Below.refl _ _) | (with_reducible assumption) | (with_reducible refine Below.alloc ?_ ?_ _) | (with_reducible refine Below.setCell ?_ ?_ _) | (with_reducible refine Below.drew ?_) | (with_reducible refine below_drewN ?_ _) | (apply bthen2; (with_reducible assumption)) | go_size)
  · refine Ints.below ownb.ints ?_; repeat' (first | (with_reducible exact Below.refl _ _) | (with_reducible assumption) | (with_reducible refine Below.alloc ?_ ?_ _) | (with_reducible refine Below.setCell ?_ ?_ _) | (with_reducible refine Below.drew ?_) | (with_reducible refine below_drewN ?_ _) | (apply bthen2; (with_reducible assumption)) | go_size)
  rintro e wi ⟨rfl, hbi⟩
  have hzi := hbi.size; (try simp only [World.size_alloc, World.size_setCell, World.size_drew, World.heap_drewN] at hzi); try (refine keepc hbi (w.heap.size) ?_ ?_; (focus (first | omega | (simp <;> omega))); intro hci_0 hfi_0 hli_0); try (refine keepc hbi (w.heap.size + 1) ?_ ?_; (focus (first | omega | (simp <;> omega))); intro hci_1 hfi_1 hli_1); try (refine keepc hbi (w.heap.size + 1 + 1) ?_ ?_; (focus (first | omega | (simp <;> omega))); intro hci_2 hfi_2 hli_2)
  go_wp2_with fail
  refine (heldIntS_any _ R.length 1 _ ?_ (by omega) (by omega)).mono ?_
  · refine Ints.below ownf.ints ?_; repeat' (first | (with_reducible exact Below.refl _ _) | (with_reducible assumption) | (with_reducible refine Below.alloc ?_ ?_ _) | (with_reducible refine Below.setCell ?_ ?_ _) | (with_reducible refine Below.drew ?_) | (with_reducible refine below_drewN ?_ _) | (apply bthen2; (with_reducible assumption)) | go_size)
  rintro e wi' ⟨rfl, rfl⟩
  go_wp2
  go_ret
  exact gives rfl (by repeat' (first | (with_reducible exact Below.refl _ _) | (with_reducible assumption) | (with_reducible refine Below.alloc ?_ ?_ _) | (with_reducible refine Below.setCell ?_ ?_ _) | (with_reducible refine Below.drew ?_) | (with_reducible refine below_drewN ?_ _) | (apply bthen2; (with_reducible assumption)) | go_size))

set_option maxHeartbeats 1000000 in
theorem walk_FnExactFoundRanks (a b M : Int) (w : World) (_w0 : (Lit.int .i64 a).wf = true) (_w1 : (Lit.int .i64 b).wf = true) (_w2 : (Lit.int .i64 M).wf = true) : Calls Try.prog 9 #[.agg #[.int .i64 a, .int .i64 b], .int .i64 M] w (Gives (.bool true) w) := by
  have HS := Lib.hid (fun w => sFoundRanks_any a b M w)
  have HI := Lib.hid (fun w => FoundRanks_any a b M w)
  obtain ⟨r0, r1, k, hV⟩ := fkV_ex a b M
  rw [hV] at HS HI
  clear hV
  go_enter Try.func9, Try.ntmps9
  go_wp2_with fail
  (refine (toTwoCurve_any _ _ _).mono ?_; rintro e wa ⟨rfl, hba⟩; have hza := hba.size; (try simp only [World.size_alloc, World.size_setCell, World.size_drew, World.heap_drewN] at hza); try (refine keepc hba (w.heap.size) ?_ ?_; (focus (first | omega | (simp <;> omega))); intro hca_0 hfa_0 hla_0); try (refine keepc hba (w.heap.size + 1) ?_ ?_; (focus (first | omega | (simp <;> omega))); intro hca_1 hfa_1 hla_1); try (refine keepc hba (w.heap.size + 1 + 1) ?_ ?_; (focus (first | omega | (simp <;> omega))); intro hca_2 hfa_2 hla_2))
  go_wp2_with fail
  refine (HS.out _).mono ?_; rintro e wb ⟨rfl, hbb⟩
  have hzb := hbb.size; (try simp only [World.size_alloc, World.size_setCell, World.size_drew, World.heap_drewN] at hzb); try (refine keepc hbb (w.heap.size) ?_ ?_; (focus (first | omega | (simp <;> omega))); intro hcb_0 hfb_0 hlb_0); try (refine keepc hbb (w.heap.size + 1) ?_ ?_; (focus (first | omega | (simp <;> omega))); intro hcb_1 hfb_1 hlb_1); try (refine keepc hbb (w.heap.size + 1 + 1) ?_ ?_; (focus (first | omega | (simp <;> omega))); intro hcb_2 hfb_2 hlb_2)
  go_wp2_with fail
  (refine (toTwoCurve_any _ _ _).mono ?_; rintro e wc ⟨rfl, hbc⟩; have hzc := hbc.size; (try simp only [World.size_alloc, World.size_setCell, World.size_drew, World.heap_drewN] at hzc); try (refine keepc hbc (w.heap.size) ?_ ?_; (focus (first | omega | (simp <;> omega))); intro hcc_0 hfc_0 hlc_0); try (refine keepc hbc (w.heap.size + 1) ?_ ?_; (focus (first | omega | (simp <;> omega))); intro hcc_1 hfc_1 hlc_1); try (refine keepc hbc (w.heap.size + 1 + 1) ?_ ?_; (focus (first | omega | (simp <;> omega))); intro hcc_2 hfc_2 hlc_2))
  go_wp2_with fail
  refine (HI.out _).mono ?_; rintro e wd ⟨rfl, hbd⟩
  have hzd := hbd.size; (try simp only [World.size_alloc, World.size_setCell, World.size_drew, World.heap_drewN] at hzd); try (refine keepc hbd (w.heap.size) ?_ ?_; (focus (first | omega | (simp <;> omega))); intro hcd_0 hfd_0 hld_0); try (refine keepc hbd (w.heap.size + 1) ?_ ?_; (focus (first | omega | (simp <;> omega))); intro hcd_1 hfd_1 hld_1); try (refine keepc hbd (w.heap.size + 1 + 1) ?_ ?_; (focus (first | omega | (simp <;> omega))); intro hcd_2 hfd_2 hld_2)
  go_wp2
  go_ret
  exact gives rfl (by repeat' (first | (with_reducible exact Below.refl _ _) | (with_reducible assumption) | (with_reducible refine Below.alloc ?_ ?_ _) | (with_reducible refine Below.setCell ?_ ?_ _) | (with_reducible refine Below.drew ?_) | (with_reducible refine below_drewN ?_ _) | (apply bthen2; (with_reducible assumption)) | go_size))

set_option maxHeartbeats 1000000 in
theorem walk_FnExactLowerRank (a b M : Int) (w : World) (_w0 : (Lit.int .i64 a).wf = true) (_w1 : (Lit.int .i64 b).wf = true) (_w2 : (Lit.int .i64 M).wf = true) : Calls Try.prog 10 #[.agg #[.int .i64 a, .int .i64 b], .int .i64 M] w (Gives (.bool true) w) := by
  have HS := Lib.hid (fun w => sLowerRank_any a b M w)
  have HI := Lib.hid (fun w => LowerRank_any a b M w)
  obtain ⟨r, k, hV⟩ := lkV_ex a b M
  rw [hV] at HS HI
  clear hV
  go_enter Try.func10, Try.ntmps10
  go_wp2_with fail
  (refine (toTwoCurve_any _ _ _).mono ?_; rintro e wa ⟨rfl, hba⟩; have hza := hba.size; (try simp only [World.size_alloc, World.size_setCell, World.size_drew, World.heap_drewN] at hza); try (refine keepc hba (w.heap.size) ?_ ?_; (focus (first | omega | (simp <;> omega))); intro hca_0 hfa_0 hla_0); try (refine keepc hba (w.heap.size + 1) ?_ ?_; (focus (first | omega | (simp <;> omega))); intro hca_1 hfa_1 hla_1); try (refine keepc hba (w.heap.size + 1 + 1) ?_ ?_; (focus (first | omega | (simp <;> omega))); intro hca_2 hfa_2 hla_2))
  go_wp2_with fail
  refine (HS.out _).mono ?_; rintro e wb ⟨rfl, hbb⟩
  have hzb := hbb.size; (try simp only [World.size_alloc, World.size_setCell, World.size_drew, World.heap_drewN] at hzb); try (refine keepc hbb (w.heap.size) ?_ ?_; (focus (first | omega | (simp <;> omega))); intro hcb_0 hfb_0 hlb_0); try (refine keepc hbb (w.heap.size + 1) ?_ ?_; (focus (first | omega | (simp <;> omega))); intro hcb_1 hfb_1 hlb_1); try (refine keepc hbb (w.heap.size + 1 + 1) ?_ ?_; (focus (first | omega | (simp <;> omega))); intro hcb_2 hfb_2 hlb_2)
  go_wp2_with fail
  (refine (toTwoCurve_any _ _ _).mono ?_; rintro e wc ⟨rfl, hbc⟩; have hzc := hbc.size; (try simp only [World.size_alloc, World.size_setCell, World.size_drew, World.heap_drewN] at hzc); try (refine keepc hbc (w.heap.size) ?_ ?_; (focus (first | omega | (simp <;> omega))); intro hcc_0 hfc_0 hlc_0); try (refine keepc hbc (w.heap.size + 1) ?_ ?_; (focus (first | omega | (simp <;> omega))); intro hcc_1 hfc_1 hlc_1); try (refine keepc hbc (w.heap.size + 1 + 1) ?_ ?_; (focus (first | omega | (simp <;> omega))); intro hcc_2 hfc_2 hlc_2))
  go_wp2_with fail
  refine (HI.out _).mono ?_; rintro e wd ⟨rfl, hbd⟩
  have hzd := hbd.size; (try simp only [World.size_alloc, World.size_setCell, World.size_drew, World.heap_drewN] at hzd); try (refine keepc hbd (w.heap.size) ?_ ?_; (focus (first | omega | (simp <;> omega))); intro hcd_0 hfd_0 hld_0); try (refine keepc hbd (w.heap.size + 1) ?_ ?_; (focus (first | omega | (simp <;> omega))); intro hcd_1 hfd_1 hld_1); try (refine keepc hbd (w.heap.size + 1 + 1) ?_ ?_; (focus (first | omega | (simp <;> omega))); intro hcd_2 hfd_2 hld_2)
  go_wp2
  go_ret
  exact gives rfl (by repeat' (first | (with_reducible exact Below.refl _ _) | (with_reducible assumption) | (with_reducible refine Below.alloc ?_ ?_ _) | (with_reducible refine Below.setCell ?_ ?_ _) | (with_reducible refine Below.drew ?_) | (with_reducible refine below_drewN ?_ _) | (apply bthen2; (with_reducible assumption)) | go_size))

set_option maxRecDepth 100000 in
set_option maxHeartbeats 4000000 in
theorem walk_FnExactClassGroup (a : Option Addr) (len cap : Nat) (xs : List Int) (w : World) (hx : Ints w (.slice a len cap) xs) : Calls Try.prog 6 #[.slice a len cap] w (Gives (.bool true) w) := by
  have hl := hx.cell.1
  subst hl
  have hl2 := hx.cell.2.1
  by_cases hbig : 1048576 < xs.length
  · clear hx
    go_enter Try.func6, Try.ntmps6
    go_wp2
    go_ret; exact gives rfl (by repeat' (first | (with_reducible exact Below.refl _ _) | (with_reducible assumption) | (with_reducible refine Below.alloc ?_ ?_ _) | (with_reducible refine Below.setCell ?_ ?_ _) | (with_reducible refine Below.drew ?_) | (with_reducible refine below_drewN ?_ _) | (apply bthen2; (with_reducible assumption)) | go_size))
  · have HT := Lib.hid (fun w hx => toIntS_any (.slice a xs.length cap) xs w hx (by omega))
    have HS := Lib.hid (fun a l c w hx => sClassGroup_any a l c xs w hx)
    have HI := Lib.hid (fun a l c w hx => ClassGroup_any a l c xs w hx)
    have HLR := Lib.hid (caR_len xs)
    have HLX := Lib.hid hbig
    have hbig' : ¬ (1048576 : Int) < (xs.length : Int) := by omega
    have HX := Lib.hid hx
    clear hx hl2 hbig
    generalize caR xs = R at *
    generalize caOk xs = ok at *
    go_enter Try.func6, Try.ntmps6
    go_wp2_with fail
    refine (HT.out _ HX.out).mono ?_
    rintro e wa ⟨a1, l1, c1, rfl, owna, hba⟩
    have OA := Lib.hid owna
    clear owna
    go_wp2_with fail
    refine (HS.out _ _ _ _ OA.out.ints).mono ?_
    rintro e wb ⟨sa, sl, sc, rfl, ownb, hbb⟩
    have Wb := Lib.hid (hba.trans (hbb.mono hba.size))
    have Sb := Lib.hid (Seg.of ownb)
    clear OA ownb hba hbb
    go_wp2_with fail
    refine (HT.out _ (HX.out.below Wb.out)).mono ?_
    rintro e wc ⟨a3, l3, c3, rfl, ownc, hbc⟩
    have Wc := Lib.hid (Wb.out.trans (hbc.mono Wb.out.size))
    have Sb2 := Lib.hid (Sb.out.belowS hbc)
    have Sc := Lib.hid (Seg.of ownc)
    have hZ := hbc.size
    clear Sb ownc hbc
    go_wp2_with fail
    refine (HI.out _ _ _ _ Sc.out.ints).mono ?_
    rintro e wd ⟨ga, gl, gc, rfl, ownd, hbd⟩
    have Wd := Lib.hid (Wc.out.trans (hbd.mono Wc.out.size))
    have Sb3 := Lib.hid (Sb2.out.belowS hbd)
    have Sc3 := Lib.hid (Sc.out.belowS hbd)
    have Sd := Lib.hid (Seg.of ownd)
    clear Sb2 Sc ownd hbd
    go_wp2_with fail
    refine (eqIntS_same _ _ R _ Sd.out.ints Sb3.out.ints).mono ?_
    rintro e we ⟨rfl, hbe⟩
    have We := Lib.hid (Wd.out.trans (hbe.mono Wd.out.size))
    have Sb4 := Lib.hid (Sb3.out.belowS hbe)
    have Sc4 := Lib.hid (Sc3.out.belowS hbe)
    have Sd4 := Lib.hid (Sd.out.belowS hbe)
    clear Sb3 Sc3 Sd hbe
    go_wp2_with fail
    refine (HT.out _ (HX.out.below We.out)).mono ?_
    rintro e wf ⟨a6, l6, c6, rfl, ownf, hbf⟩
    have Wf := Lib.hid (We.out.trans (hbf.mono We.out.size))
    have Sb5 := Lib.hid (Sb4.out.belowS hbf)
    have Sc5 := Lib.hid (Sc4.out.belowS hbf)
    have Sd5 := Lib.hid (Sd4.out.belowS hbf)
    have Of := Lib.hid ownf
    clear Sb4 Sc4 Sd4 hbf ownf
    go_wp2_with fail
    refine (eqIntS_same _ _ xs _ Sc5.out.ints Of.out.ints).mono ?_
    rintro e wg ⟨rfl, hbg⟩
    have Wg := Lib.hid (Wf.out.trans (hbg.mono Wf.out.size))
    have Sb6 := Lib.hid (Sb5.out.belowS hbg)
    have Sc6 := Lib.hid (Sc5.out.belowS hbg)
    have Sd6 := Lib.hid (Sd5.out.belowS hbg)
    clear Sb5 Sc5 Sd5 hbg Of
    go_wp2_with fail
    refine (markIntS_any _ _ xs 1 _ Sc6.out.1 (by omega) (by omega)).mono ?_
    rintro e wh ⟨rfl, ownh, hon⟩
    have Wh := Lib.hid (Wg.out.trans (hon.below Wg.out.size (fun q hq => by have := Sc6.out.rng hq; have := Wb.out.size; omega)))
    have Sb7 := Lib.hid (Sb6.out.chgS (ChgS.of hon) (fun q hq e => by have := Sb6.out.rng hq; have := Sc6.out.rng e; omega))
    have Sd7 := Lib.hid (Sd6.out.chgS (ChgS.of hon) (fun q hq e => by have := Sd6.out.rng hq; have := Sc6.out.rng e; omega))
    clear Sb6 Sc6 Sd6 hon ownh
    go_wp2_with fail
    refine (eqIntS_same _ _ R _ Sd7.out.ints Sb7.out.ints).mono ?_
    rintro e wi ⟨rfl, hbi⟩
    have Wi := Lib.hid (Wh.out.trans (hbi.mono Wh.out.size))
    have Sb8 := Lib.hid (Sb7.out.belowS hbi)
    have Sd8 := Lib.hid (Sd7.out.belowS hbi)
    clear Sb7 Sd7 hbi
    have hlr := HLR.out
    go_wp2_with fail
    refine (markIntS_any _ _ R 1 _ Sd8.out.1 (by omega) (by omega)).mono ?_
    rintro e wj ⟨rfl, ownj, hon⟩
    have Wj := Lib.hid (Wi.out.trans (hon.below Wi.out.size (fun q hq => by have := Sd8.out.rng hq; have := Wc.out.size; omega)))
    have Sb9 := Lib.hid (Sb8.out.chgS (ChgS.of hon) (fun q hq e => by have := Sb8.out.rng hq; have := Sd8.out.rng e; omega))
    have Oj := Lib.hid ownj.ints
    clear Sb8 Sd8 hon ownj
    go_wp2_with fail
    refine (heldIntS_any _ R.length 1 _ Oj.out (by omega) (by omega)).mono ?_
    rintro e wj' ⟨rfl, rfl⟩
    go_wp2_with fail
    refine (HT.out _ (HX.out.below Wj.out)).mono ?_
    rintro e wk ⟨a8, l8, c8, rfl, ownk, hbk⟩
    have Wk := Lib.hid (Wj.out.trans (hbk.mono Wj.out.size))
    have Sb10 := Lib.hid (Sb9.out.belowS hbk)
    have Oj2 := Lib.hid (Oj.out.below hbk)
    have Ok := Lib.hid ownk
    clear Sb9 Oj ownk hbk
    go_wp2_with fail
    refine (HI.out _ _ _ _ Ok.out.ints).mono ?_
    rintro e wl ⟨ha, hl, hc, rfl, ownl, hbl⟩
    have Wl := Lib.hid (Wk.out.trans (hbl.mono Wk.out.size))
    have Sb11 := Lib.hid (Sb10.out.belowS hbl)
    have Oj3 := Lib.hid (Oj2.out.below hbl)
    have Ol := Lib.hid ownl
    clear Sb10 Oj2 ownl hbl Ok
    go_wp2_with fail
    refine (eqIntS_same _ _ R _ Ol.out.ints Sb11.out.ints).mono ?_
    rintro e wm ⟨rfl, hbm⟩
    have Wm := Lib.hid (Wl.out.trans (hbm.mono Wl.out.size))
    have Oj4 := Lib.hid (Oj3.out.below hbm)
    clear Sb11 Oj3 Ol hbm
    go_wp2_with fail
    refine (heldIntS_any _ R.length 1 _ Oj4.out (by omega) (by omega)).mono ?_
    rintro e wm' ⟨rfl, rfl⟩
    go_wp2
    go_ret
    exact gives rfl Wm.out

end Go.Proofs.Ytldmledjdcphmaa
