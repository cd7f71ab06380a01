import Derived.Test.YtldmledjdcphmaaGrp3
set_option linter.unusedSimpArgs false
set_option linter.unusedVariables false
namespace Go.Proofs.Ytldmledjdcphmaa
open Go.RowKit
/-! ### groups of classes: the reference's test; the rank -/

set_option maxRecDepth 100000 in
set_option maxHeartbeats 4000000 in
theorem dsIsGroup_any (s : Value) (xs : List Int) (w : World) (hx : Ints w s xs) : Calls Try.prog 98 #[s] w (GivesIff (Grp xs) w) := by
  obtain ⟨a, len, cap, rfl⟩ : ∃ a len cap, s = .slice a len cap := by
    rcases hx with ⟨a, cap, rfl, _⟩ | ⟨b, off, len, cap, rfl, _⟩ <;> exact ⟨_, _, _, rfl⟩
  obtain ⟨h1, h2, h3⟩ := hx.cell
  subst h1
  have HX := Lib.hid hx
  have HC := Lib.hid h3
  have HL := Lib.hid (fun w hx => dsList_any (.slice a xs.length cap) xs 64 w hx)
  have HR := Lib.hid (fun w hx => l1Rising_any (.slice a xs.length cap) xs w hx)
  have HK := Lib.hid (fun n w hx => l1Has_any (.slice a xs.length cap) xs n w hx)
  have HG := Lib.hid (show Grp xs = (1 ≤ xs.length ∧ xs.length ≤ 64 ∧ xs.contains 1 = true ∧ ClsK xs xs.length ∧ RisK xs xs.length ∧ ∀ a b, a < xs.length → b < xs.length → xs.contains (prd (xs.getD a 0) (xs.getD b 0)) = true) from rfl)
  have HIN := Lib.hid (show ClsK xs xs.length → ∀ i, i < xs.length → inB (xs.getD i 0) (-1000000) 1000000 = true from fun h i hi => by have := clB_f (h i hi); exact inB_t this.1 this.2.1)
  clear h3 hx
  generalize hn : xs.length = len at *
  generalize Grp xs = G at *
  clear hn
  cases g2 : xs.contains 1
  · have HNO := Lib.hid (show ¬ G by rw [HG.out]; rintro ⟨p1, p2, p3, -⟩; rw [g2] at p3; cases p3)
    have hk := fun w hx => HK.out 1 w hx
    rw [g2] at hk
    have HK1 := Lib.hid hk
    clear hk g2 HG
    go_enter Try.func98, Try.ntmps98
    go_wp2_with fail
    refine (HL.out _ HX.out).mono ?_
    rintro e wa ⟨r, rfl, -, hba⟩
    cases r
    · go_wp2
      go_ret
      exact iff_f HNO.out hba
    · go_wp2_with fail
      refine (HR.out _ (HX.out.below hba)).mono ?_
      rintro e wb ⟨r, rfl, -, rfl⟩
      cases r
      · go_wp2
        go_ret
        exact iff_f HNO.out hba
      · go_wp2_with (first | (go_at_call 72; refine (HK1.out _ (HX.out.below hba)).mono ?_; rintro e w1 ⟨rfl, rfl⟩))
        go_ret
        exact iff_f HNO.out hba
  · have hk := fun w hx => HK.out 1 w hx
    rw [g2] at hk
    have HK1 := Lib.hid hk
    have G2 := Lib.hid g2
    clear hk g2
    go_enter Try.func98, Try.ntmps98
    go_wp2_with fail
    refine (HL.out _ HX.out).mono ?_
    rintro e wa ⟨r, rfl, hr, hba⟩
    cases r
    · have HNO := Lib.hid (show ¬ G by rw [HG.out]; rintro ⟨p1, p2, p3, p4, -⟩; have := hr.2 ⟨p4, by omega, by omega⟩; cases this)
      clear hr
      go_wp2
      go_ret
      exact iff_f HNO.out hba
    · obtain ⟨hcl, hb1, hb2⟩ := hr.1 rfl
      have HCL := Lib.hid hcl
      clear hr hcl
      go_wp2_with fail
      refine (HR.out _ (HX.out.below hba)).mono ?_
      rintro e wb ⟨r, rfl, hr, rfl⟩
      cases r
      · have HNO := Lib.hid (show ¬ G by rw [HG.out]; rintro ⟨p1, p2, p3, p4, p5, -⟩; have := hr.2 ⟨HIN.out p4, p5⟩; cases this)
        clear hr
        go_wp2
        go_ret
        exact iff_f HNO.out hba
      · have HRI := Lib.hid (hr.1 rfl).2
        clear hr
        have HG2 := Lib.hid (show G ↔ (∀ a b, a < len → b < len → xs.contains (prd (xs.getD a 0) (xs.getD b 0)) = true) by
          rw [HG.out]
          exact ⟨fun h => h.2.2.2.2.2, fun h => ⟨by omega, by omega, G2.out, HCL.out, HRI.out, h⟩⟩)
        clear HG
        go_wp2_with (first | (go_at_call 72; refine (HK1.out _ (HX.out.below hba)).mono ?_; rintro e w1 ⟨rfl, rfl⟩))
        go_loopw [22] (fun v22 wi => ∃ i : Nat, i ≤ len ∧ v22 = .int .i64 i ∧ Hid (∀ a b, a < i → b < len → xs.contains (prd (xs.getD a 0) (xs.getD b 0)) = true) ∧ Below w.heap.size w wi) (fun v22 _ => len - (intOf v22).toNat)
        case atStart => exact ⟨0, by omega, rfl, Lib.hid (fun a b h => by omega), hba⟩
        case round =>
          clear hba
          obtain ⟨i, hi, rfl, HP, hbw⟩ := hrel
          by_cases hli : i < len
          · obtain ⟨b, off, ha, hbl, c0⟩ := HC.out i hli
            subst ha
            have c0' := (hbw.cell (p := ⟨b, off + i, none⟩) hbl).trans c0
            have hci := HCL.out i hli
            generalize hX : xs.getD i 0 = X at *
            have HXE := Lib.hid hX
            clear hX c0
            go_wp2
            refine name_world (fun W3 hW3 => ?_)
            subst hW3
            go_loopw [28] (fun v28 wj => ∃ j : Nat, j ≤ len ∧ v28 = .int .i64 j ∧ Hid (∀ b, b < j → xs.contains (prd X (xs.getD b 0)) = true) ∧ Below w.heap.size w wj) (fun v28 _ => len - (intOf v28).toNat)
            case atStart => exact ⟨0, by omega, rfl, Lib.hid (fun b h => by omega), hbw⟩
            case round =>
              clear hbw c0'
              obtain ⟨j, hj, rfl, HQ, hbw⟩ := hrel
              have hz := hbw.size
              by_cases hlj : j < len
              · obtain ⟨b', off', ha', hbl', c1⟩ := HC.out j hlj
                simp only [Option.some.injEq, Addr.mk.injEq, and_true] at ha'
                obtain ⟨rfl, rfl⟩ := ha'
                have c1' := (hbw.cell (p := ⟨b, off + j, none⟩) hbl).trans c1
                have hcj := HCL.out j hlj
                generalize hY : xs.getD j 0 = Y at *
                have HYE := Lib.hid hY
                have HPC := Lib.hid (fun w => dsProduct_any X Y hci hcj w)
                have hxw := HX.out.below hbw
                clear hY c1
                have hk := fun w hx => HK.out (prd X Y) w hx
                cases g3 : xs.contains (prd X Y)
                · have HNO := Lib.hid (show ¬ G by
                    rw [HG2.out]; intro h
                    have := h i j hli hlj
                    rw [HXE.out, HYE.out, g3] at this; cases this)
                  rw [g3] at hk
                  have HKK := Lib.hid hk
                  clear hk g3 hci hcj
                  go_wp2_with (first | (go_at_call 76; refine (HPC.out _).mono ?_; rintro e wa ⟨rfl, hba⟩; have hza := hba.size; (try simp only [World.size_alloc, World.size_setCell, World.size_drew, World.heap_drewN] at hza); try (refine keepc hba (w.heap.size) ?_ ?_; (focus (first | omega | (simp <;> omega))); intro hca_0 hfa_0 hla_0); try (refine keepc hba (w.heap.size + 1) ?_ ?_; (focus (first | omega | (simp <;> omega))); intro hca_1 hfa_1 hla_1); try (refine keepc hba (w.heap.size + 1 + 1) ?_ ?_; (focus (first | omega | (simp <;> omega))); intro hca_2 hfa_2 hla_2)) | (go_at_call 72; refine (HKK.out _ (hxw.below hba)).mono ?_; rintro e w1 ⟨rfl, rfl⟩))
                  go_ret
                  exact iff_f HNO.out (bthen2 hba hbw)
                · have HQ2 := Lib.hid (show ∀ b, b < j + 1 → xs.contains (prd X (xs.getD b 0)) = true from fun b hb => by
                    by_cases e : b = j
                    · subst e; rw [HYE.out]; exact g3
                    · exact HQ.out b (by omega))
                  rw [g3] at hk
                  have HKK := Lib.hid hk
                  have HCI := Lib.hid hci
                  clear hk g3 hcj
                  go_wp2_with (first | (go_at_call 76; refine (HPC.out _).mono ?_; rintro e wa ⟨rfl, hba⟩; have hza := hba.size; (try simp only [World.size_alloc, World.size_setCell, World.size_drew, World.heap_drewN] at hza); try (refine keepc hba (w.heap.size) ?_ ?_; (focus (first | omega | (simp <;> omega))); intro hca_0 hfa_0 hla_0); try (refine keepc hba (w.heap.size + 1) ?_ ?_; (focus (first | omega | (simp <;> omega))); intro hca_1 hfa_1 hla_1); try (refine keepc hba (w.heap.size + 1 + 1) ?_ ?_; (focus (first | omega | (simp <;> omega))); intro hca_2 hfa_2 hla_2)) | (go_at_call 72; refine (HKK.out _ (hxw.below hba)).mono ?_; rintro e w1 ⟨rfl, rfl⟩))
                  go_roundw
                  case rel => exact ⟨j + 1, by omega, by go_num, HQ2, bthen2 hba hbw⟩
                  case measure => simp [intOf]; omega
              · have HP2 := Lib.hid (show ∀ a b, a < i + 1 → b < len → xs.contains (prd (xs.getD a 0) (xs.getD b 0)) = true from fun a b h1 h2 => by
                  by_cases ea : a = i
                  · subst ea; rw [HXE.out]; exact HQ.out b (by omega)
                  · exact HP.out a b (by omega) h2)
                go_wp2
                go_roundw
                case rel => exact ⟨i + 1, by omega, by go_num, HP2, hbw⟩
                case measure => simp [intOf]; omega
          · have HYES := Lib.hid (show G by rw [HG2.out]; exact fun a b h1 h2 => HP.out a b (by omega) h2)
            go_wp2
            go_ret
            exact iff_t HYES.out hbw

theorem bl_step (n : Nat) (h : n ≤ 64) (h1 : 1 < n) : Lib.bitLen n = 1 + Lib.bitLen (n / 2) := by
  have : ∀ m : Fin 65, 1 < m.val → Lib.bitLen m.val = 1 + Lib.bitLen (m.val / 2) := by decide +kernel
  exact this ⟨n, by omega⟩ h1
theorem bl_one : Lib.bitLen 1 = 1 := by decide +kernel
theorem bl_pos (n : Nat) (h : n ≤ 64) (h1 : 1 ≤ n) : 1 ≤ Lib.bitLen n ∧ Lib.bitLen n ≤ 7 := by
  have : ∀ m : Fin 65, 1 ≤ m.val → 1 ≤ Lib.bitLen m.val ∧ Lib.bitLen m.val ≤ 7 := by decide +kernel
  exact this ⟨n, by omega⟩ h1
noncomputable def rkR (xs : List Int) : Value := if grB xs then .tuple #[.int .i64 ((Lib.bitLen xs.length : Int) - 1), .bool true] else .tuple #[.int .i64 0, .bool false]
theorem RankOfClasses_any (s : Value) (xs : List Int) (w : World) (hx : Ints w s xs) : Calls Try.prog 84 #[s] w (Gives (rkR xs) w) := by
  obtain ⟨a, len, cap, rfl⟩ : ∃ a len cap, s = .slice a len cap := by
    rcases hx with ⟨a, cap, rfl, _⟩ | ⟨b, off, len, cap, rfl, _⟩ <;> exact ⟨_, _, _, rfl⟩
  have hl := hx.cell.1
  subst hl
  have HX := Lib.hid hx
  have HG := Lib.hid (fun w hx => isClassGroup_any (.slice a xs.length cap) xs w hx)
  have hr : Grp xs → rkR xs = .tuple #[.int .i64 ((Lib.bitLen xs.length : Int) - 1), .bool true] := fun h => by unfold rkR; rw [grB_t h]; rfl
  have hr2 : ¬ Grp xs → rkR xs = .tuple #[.int .i64 0, .bool false] := fun h => by unfold rkR; rw [grB_f h]; rfl
  have HR := Lib.hid hr; have HR2 := Lib.hid hr2
  have HB := Lib.hid (show Grp xs → 1 ≤ xs.length ∧ xs.length ≤ 64 from fun h => ⟨h.1, h.2.1⟩)
  clear hx hr hr2
  generalize xs.length = len at *
  generalize Grp xs = G at *
  generalize rkR xs = R at *
  go_enter Try.func84, Try.ntmps84
  go_wp2_with fail
  refine (HG.out _ HX.out).mono ?_
  rintro e wa ⟨r, rfl, hr, hba⟩
  cases r
  · have E := Lib.hid (HR2.out (fun h => by have := hr.2 h; cases this))
    clear hr
    go_wp2
    go_ret2
    exact gives E.out.symm hba
  · have hG := hr.1 rfl
    have E := Lib.hid (HR.out hG)
    obtain ⟨b1, b2⟩ := HB.out hG
    obtain ⟨b3, b4⟩ := bl_pos len b2 b1
    clear hr hG
    have HLn := Lib.hid (fun w => Go.Proofs.Try.bits_Len (len : Int) w (by omega) (by omega))
    have e1 : ((len : Int)).toNat = len := by omega
    rw [e1] at HLn
    clear e1
    generalize Lib.bitLen len = L at *
    go_wp2_with (first | (go_at_call 88; refine (HLn.out _).mono ?_; rintro e w1 ⟨rfl, rfl⟩))
    go_ret2
    exact gives E.out.symm hba
theorem sRankOfClasses_any (s : Value) (xs : List Int) (w : World) (hx : Ints w s xs) : Calls Try.prog 83 #[s] w (Gives (rkR xs) w) := by
  obtain ⟨a, len, cap, rfl⟩ : ∃ a len cap, s = .slice a len cap := by
    rcases hx with ⟨a, cap, rfl, _⟩ | ⟨b, off, len, cap, rfl, _⟩ <;> exact ⟨_, _, _, rfl⟩
  have hl := hx.cell.1
  subst hl
  have HX := Lib.hid hx
  have HG := Lib.hid (fun w hx => dsIsGroup_any (.slice a xs.length cap) xs w hx)
  have hr : Grp xs → rkR xs = .tuple #[.int .i64 ((Lib.bitLen xs.length : Int) - 1), .bool true] := fun h => by unfold rkR; rw [grB_t h]; rfl
  have hr2 : ¬ Grp xs → rkR xs = .tuple #[.int .i64 0, .bool false] := fun h => by unfold rkR; rw [grB_f h]; rfl
  have HR := Lib.hid hr; have HR2 := Lib.hid hr2
  have HB := Lib.hid (show Grp xs → 1 ≤ xs.length ∧ xs.length ≤ 64 from fun h => ⟨h.1, h.2.1⟩)
  clear hx hr hr2
  generalize xs.length = len at *
  generalize Grp xs = G at *
  generalize rkR xs = R at *
  go_enter Try.func83, Try.ntmps83
  go_wp2_with fail
  refine (HG.out _ HX.out).mono ?_
  rintro e wa ⟨r, rfl, hr, hba⟩
  cases r
  · have E := Lib.hid (HR2.out (fun h => by have := hr.2 h; cases this))
    clear hr
    go_wp2
    go_ret2
    exact gives E.out.symm hba
  · have hG := hr.1 rfl
    have E := Lib.hid (HR.out hG)
    obtain ⟨b1, b2⟩ := HB.out hG
    clear hr hG
    go_wp2
    go_loop [4, 5] (fun v4 v5 => ∃ (n r : Nat), v4 = .int .i64 r ∧ v5 = .int .i64 n ∧ 1 ≤ n ∧ n ≤ 64 ∧ r ≤ 64 ∧ Hid (r + Lib.bitLen n = Lib.bitLen len)) (fun _ v5 => (intOf v5).toNat)
    case atStart => exact ⟨len, 0, rfl, rfl, b1, b2, by omega, Lib.hid (by simp)⟩
    case round =>
      obtain ⟨n, r, rfl, rfl, n1, n2, r1, HQ⟩ := hrel
      by_cases hlt : 1 < n
      · have hs := bl_step n n2 hlt
        have hp := bl_pos (n / 2) (by omega) (by omega)
        have hpl := bl_pos len b2 b1
        have hq := HQ.out
        have hr2 : r + 1 ≤ 64 := by omega
        have HQ2 := Lib.hid (show (r + 1) + Lib.bitLen (n / 2) = Lib.bitLen len by omega)
        clear hs hp hpl hq
        go_wp2
        go_round
        case rel => exact ⟨n / 2, r + 1, by go_num, by go_num, by omega, by omega, hr2, HQ2⟩
        case measure => simp [intOf]; omega
      · have hn : n = 1 := by omega
        have hq := HQ.out
        rw [hn, bl_one] at hq
        have E2 := Lib.hid (show R = .tuple #[.int .i64 (r : Int), .bool true] by rw [E.out, show ((Lib.bitLen len : Nat) : Int) - 1 = r by omega])
        clear hn hq
        go_wp2
        go_ret2
        exact gives E2.out.symm hba

end Go.Proofs.Ytldmledjdcphmaa
