import Derived.Test.YtldmledjdcphmaaGrp2
set_option linter.unusedSimpArgs false
set_option linter.unusedVariables false
namespace Go.Proofs.Ytldmledjdcphmaa
open Go.RowKit
/-! ### groups of classes: the tests -/

theorem prR_split (d e : Int) : (clB (prd d e) = true ∧ prR d e = .tuple #[.int .i64 (prd d e), .bool true]) ∨ (clB (prd d e) = false ∧ prR d e = .tuple #[.int .i64 0, .bool false]) := by
  unfold prR
  cases h : clB (prd d e)
  · right; simp
  · left; simp
set_option maxRecDepth 100000 in
set_option maxHeartbeats 4000000 in
theorem isClassGroup_any (s : Value) (xs : List Int) (w : World) (hx : Ints w s xs) : Calls Try.prog 99 #[s] w (GivesIff (Grp xs) w) := by
  obtain ⟨a, len, cap, rfl⟩ : ∃ a len cap, s = .slice a len cap := by
    rcases hx with ⟨a, cap, rfl, _⟩ | ⟨b, off, len, cap, rfl, _⟩ <;> exact ⟨_, _, _, rfl⟩
  obtain ⟨h1, h2, h3⟩ := hx.cell
  subst h1
  have HX := Lib.hid hx
  have HC := Lib.hid h3
  have HI := Lib.hid (fun w => inside_any (xs.length : Int) 1 64 w)
  have HK := Lib.hid (fun n w hx => Contains_any (.slice a xs.length cap) xs n w hx)
  have HG := Lib.hid (show Grp xs = (1 ≤ xs.length ∧ xs.length ≤ 64 ∧ xs.contains 1 = true ∧ ClsK xs xs.length ∧ RisK xs xs.length ∧ ∀ a b, a < xs.length → b < xs.length → xs.contains (prd (xs.getD a 0) (xs.getD b 0)) = true) from rfl)
  have HCC := Lib.hid (@contains_cls xs)
  clear h3 hx
  generalize hn : xs.length = len at *
  generalize Grp xs = G at *
  clear hn
  cases g1 : inB (len : Int) 1 64
  · have HNO := Lib.hid (show ¬ G by rw [HG.out]; rintro ⟨p1, p2, -⟩; rw [inB_t (by omega) (by omega)] at g1; cases g1)
    rw [g1] at HI
    go_enter Try.func99, Try.ntmps99
    go_wp2_with (first | (go_at_call 48; refine (HI.out _).mono ?_; rintro e w1 ⟨rfl, rfl⟩))
    go_ret
    exact iff_f HNO.out (by repeat' (first | (with_reducible exact Below.refl _ _) | (with_reducible assumption) | (with_reducible refine Below.alloc ?_ ?_ _) | (with_reducible refine Below.setCell ?_ ?_ _) | (with_reducible refine Below.drew ?_) | (with_reducible refine below_drewN ?_ _) | (apply bthen2; (with_reducible assumption)) | go_size))
  · rw [g1] at HI
    have hb := inB_iff.1 g1
    have hb1 : 1 ≤ len := by omega
    have hb2 : len ≤ 64 := by omega
    clear g1 hb
    have hk1 := fun w hx => HK.out 1 w hx
    cases g2 : xs.contains 1
    · have HNO := Lib.hid (show ¬ G by rw [HG.out]; rintro ⟨p1, p2, p3, -⟩; rw [g2] at p3; cases p3)
      rw [g2] at hk1
      have HK1 := Lib.hid hk1
      clear hk1 g2
      go_enter Try.func99, Try.ntmps99
      go_wp2_with (first | (go_at_call 48; refine (HI.out _).mono ?_; rintro e w1 ⟨rfl, rfl⟩) | (go_at_call 44; refine (HK1.out _ HX.out).mono ?_; rintro e w1 ⟨rfl, rfl⟩))
      go_ret
      exact iff_f HNO.out (by repeat' (first | (with_reducible exact Below.refl _ _) | (with_reducible assumption) | (with_reducible refine Below.alloc ?_ ?_ _) | (with_reducible refine Below.setCell ?_ ?_ _) | (with_reducible refine Below.drew ?_) | (with_reducible refine below_drewN ?_ _) | (apply bthen2; (with_reducible assumption)) | go_size))
    · have HG2 := Lib.hid (show G ↔ (ClsK xs len ∧ RisK xs len ∧ ∀ a b, a < len → b < len → xs.contains (prd (xs.getD a 0) (xs.getD b 0)) = true) by
        rw [HG.out]
        exact ⟨fun h => ⟨h.2.2.2.1, h.2.2.2.2.1, h.2.2.2.2.2⟩, fun h => ⟨hb1, hb2, g2, h.1, h.2.1, h.2.2⟩⟩)
      rw [g2] at hk1
      have HK1 := Lib.hid hk1
      clear hk1 g2 HG
      go_enter Try.func99, Try.ntmps99
      go_wp2_with (first | (go_at_call 48; refine (HI.out _).mono ?_; rintro e w1 ⟨rfl, rfl⟩) | (go_at_call 44; refine (HK1.out _ HX.out).mono ?_; rintro e w1 ⟨rfl, rfl⟩))
      clear HK1
      go_loopw [22] (fun v22 wr => ∃ k : Nat, k ≤ len ∧ v22 = .int .i64 k ∧ Hid (ClsK xs k) ∧ Hid (RisK xs k) ∧ Below w.heap.size w wr) (fun v22 _ => len - (intOf v22).toNat)
      case atStart => exact ⟨0, by omega, rfl, Lib.hid (fun j hj => by omega), Lib.hid (fun j _ hj => by omega), Below.refl _ _⟩
      case round =>
        obtain ⟨k, hk, rfl, HJ, HR, hbw⟩ := hrel
        by_cases hlt : k < len
        · obtain ⟨b, off, ha, hbl, c0⟩ := HC.out k hlt
          subst ha
          have c0' := (hbw.cell (p := ⟨b, off + k, none⟩) hbl).trans c0
          cases he : clB (xs.getD k 0)
          · have HNO := Lib.hid (show ¬ G by rw [HG2.out]; intro h; have := h.1 k hlt; rw [he] at this; cases this)
            have hd := fun w => isClass_any (xs.getD k 0) w
            rw [he] at hd
            generalize xs.getD k 0 = X at *
            have HDD := Lib.hid hd
            clear hd he c0
            go_wp2_with (first | (go_at_call 49; refine (HDD.out _).mono ?_; rintro e wa ⟨rfl, hba⟩; have hza := hba.size; (try simp only [World.size_alloc, World.size_setCell, World.size_drew, World.heap_drewN] at hza); try (refine keepc hba (w.heap.size) ?_ ?_; (focus (first | omega | (simp <;> omega))); intro hca_0 hfa_0 hla_0); try (refine keepc hba (w.heap.size + 1) ?_ ?_; (focus (first | omega | (simp <;> omega))); intro hca_1 hfa_1 hla_1); try (refine keepc hba (w.heap.size + 1 + 1) ?_ ?_; (focus (first | omega | (simp <;> omega))); intro hca_2 hfa_2 hla_2)))
            go_ret
            exact iff_f HNO.out (bthen2 hba hbw)
          · have HJ2 := Lib.hid (show ClsK xs (k + 1) from fun j hj => by
              by_cases e : j = k
              · subst e; exact he
              · exact HJ.out j (by omega))
            have hd := fun w => isClass_any (xs.getD k 0) w
            rw [he] at hd
            clear he
            by_cases h0 : k = 0
            · have HR2 := Lib.hid (show RisK xs (k + 1) from fun j h1 h2 => by omega)
              have hk0 : ¬ (0 : Int) < (k : Int) := by omega
              generalize xs.getD k 0 = X at *
              have HDD := Lib.hid hd
              clear hd c0 h0
              go_wp2_with (first | (go_at_call 49; refine (HDD.out _).mono ?_; rintro e wa ⟨rfl, hba⟩; have hza := hba.size; (try simp only [World.size_alloc, World.size_setCell, World.size_drew, World.heap_drewN] at hza); try (refine keepc hba (w.heap.size) ?_ ?_; (focus (first | omega | (simp <;> omega))); intro hca_0 hfa_0 hla_0); try (refine keepc hba (w.heap.size + 1) ?_ ?_; (focus (first | omega | (simp <;> omega))); intro hca_1 hfa_1 hla_1); try (refine keepc hba (w.heap.size + 1 + 1) ?_ ?_; (focus (first | omega | (simp <;> omega))); intro hca_2 hfa_2 hla_2)))
              go_roundw
              case rel => exact ⟨k + 1, by omega, by go_num, HJ2, HR2, bthen2 hba hbw⟩
              case measure => simp [intOf]; omega
            · obtain ⟨b', off', ha', hbl', c1⟩ := HC.out (k - 1) (by omega)
              simp only [Option.some.injEq, Addr.mk.injEq, and_true] at ha'
              obtain ⟨rfl, rfl⟩ := ha'
              have c1' := (hbw.cell (p := ⟨b, off + (k - 1), none⟩) hbl).trans c1
              have hz := hbw.size
              have hk0 : (0 : Int) < (k : Int) := by omega
              have hidx : ((k : Int) - 1).toNat = k - 1 := by omega
              by_cases hr : xs.getD (k - 1) 0 < xs.getD k 0
              · have HR2 := Lib.hid (show RisK xs (k + 1) from fun j h1 h2 => by
                  by_cases e : j = k
                  · subst e; exact hr
                  · exact HR.out j h1 (by omega))
                generalize xs.getD (k - 1) 0 = Y at *
                generalize xs.getD k 0 = X at *
                have HDD := Lib.hid hd
                clear hd c0 c1
                go_wp2_with (first | (go_at_call 49; refine (HDD.out _).mono ?_; rintro e wa ⟨rfl, hba⟩; have c2 := (hba.cell (p := ⟨b, off + (k - 1), none⟩) (show b < wr.heap.size by omega)).trans c1'))
                go_roundw
                case rel => exact ⟨k + 1, by omega, by go_num, HJ2, HR2, bthen2 hba hbw⟩
                case measure => simp [intOf]; omega
              · have HNO := Lib.hid (show ¬ G by rw [HG2.out]; exact fun h => hr (h.2.1 k (by omega) hlt))
                generalize xs.getD (k - 1) 0 = Y at *
                generalize xs.getD k 0 = X at *
                have HDD := Lib.hid hd
                clear hd c0 c1
                go_wp2_with (first | (go_at_call 49; refine (HDD.out _).mono ?_; rintro e wa ⟨rfl, hba⟩; have c2 := (hba.cell (p := ⟨b, off + (k - 1), none⟩) (show b < wr.heap.size by omega)).trans c1'))
                go_ret
                exact iff_f HNO.out (bthen2 hba hbw)
        · have e : k = len := by omega
          have HCL := Lib.hid (show ClsK xs len by rw [← e]; exact HJ.out)
          have HRI := Lib.hid (show RisK xs len by rw [← e]; exact HR.out)
          clear e HJ HR
          go_wp2
          refine name_world (fun W2 hW2 => ?_)
          subst hW2
          go_loopw [46] (fun v46 wi => ∃ i : Nat, i ≤ len ∧ v46 = .int .i64 i ∧ Hid (∀ a b, a < i → b < len → xs.contains (prd (xs.getD a 0) (xs.getD b 0)) = true) ∧ Below w.heap.size w wi) (fun v46 _ => len - (intOf v46).toNat)
          case atStart => exact ⟨0, by omega, rfl, Lib.hid (fun a b h => by omega), hbw⟩
          case round =>
            clear hbw hk hlt
            obtain ⟨i, hi, rfl, HP, hbw⟩ := hrel
            by_cases hli : i < len
            · obtain ⟨b, off, ha, hbl, c0⟩ := HC.out i hli
              subst ha
              have c0' := (hbw.cell (p := ⟨b, off + i, none⟩) hbl).trans c0
              have hci := HCL.out i hli
              generalize hX : xs.getD i 0 = X at *
              have HXE := Lib.hid hX
              clear hX c0
              go_wp2
              refine name_world (fun W3 hW3 => ?_)
              subst hW3
              go_loopw [52] (fun v52 wj => ∃ j : Nat, j ≤ len ∧ v52 = .int .i64 j ∧ Hid (∀ b, b < j → xs.contains (prd X (xs.getD b 0)) = true) ∧ Below w.heap.size w wj) (fun v52 _ => len - (intOf v52).toNat)
              case atStart => exact ⟨0, by omega, rfl, Lib.hid (fun b h => by omega), hbw⟩
              case round =>
                clear hbw c0'
                obtain ⟨j, hj, rfl, HQ, hbw⟩ := hrel
                have hz := hbw.size
                by_cases hlj : j < len
                · obtain ⟨b', off', ha', hbl', c1⟩ := HC.out j hlj
                  simp only [Option.some.injEq, Addr.mk.injEq, and_true] at ha'
                  obtain ⟨rfl, rfl⟩ := ha'
                  have c1' := (hbw.cell (p := ⟨b, off + j, none⟩) hbl).trans c1
                  have hcj := HCL.out j hlj
                  generalize hY : xs.getD j 0 = Y at *
                  have HYE := Lib.hid hY
                  have hpc := fun w => productClass_any X Y hci hcj w
                  have hxw := HX.out.below hbw
                  clear hY c1
                  rcases prR_split X Y with ⟨q1, q2⟩ | ⟨q1, q2⟩
                  · rw [q2] at hpc
                    have hk := fun w hx => HK.out (prd X Y) w hx
                    cases g3 : xs.contains (prd X Y)
                    · have HNO := Lib.hid (show ¬ G by
                        rw [HG2.out]; intro h
                        have := h.2.2 i j hli hlj
                        rw [HXE.out, HYE.out, g3] at this; cases this)
                      rw [g3] at hk
                      have HPC := Lib.hid hpc; have HKK := Lib.hid hk
                      clear hpc hk g3 q1 q2 hci hcj
                      go_wp2_with (first | (go_at_call 79; refine (HPC.out _).mono ?_; rintro e wa ⟨rfl, hba⟩; have hza := hba.size; (try simp only [World.size_alloc, World.size_setCell, World.size_drew, World.heap_drewN] at hza); try (refine keepc hba (w.heap.size) ?_ ?_; (focus (first | omega | (simp <;> omega))); intro hca_0 hfa_0 hla_0); try (refine keepc hba (w.heap.size + 1) ?_ ?_; (focus (first | omega | (simp <;> omega))); intro hca_1 hfa_1 hla_1); try (refine keepc hba (w.heap.size + 1 + 1) ?_ ?_; (focus (first | omega | (simp <;> omega))); intro hca_2 hfa_2 hla_2)) | (go_at_call 44; refine (HKK.out _ (hxw.below hba)).mono ?_; rintro e w1 ⟨rfl, rfl⟩))
                      go_ret
                      exact iff_f HNO.out (bthen2 hba hbw)
                    · have HQ2 := Lib.hid (show ∀ b, b < j + 1 → xs.contains (prd X (xs.getD b 0)) = true from fun b hb => by
                        by_cases e : b = j
                        · subst e; rw [HYE.out]; exact g3
                        · exact HQ.out b (by omega))
                      rw [g3] at hk
                      have HPC := Lib.hid hpc; have HKK := Lib.hid hk
                      have HCI := Lib.hid hci
                      clear hpc hk g3 q1 q2 hcj
                      go_wp2_with (first | (go_at_call 79; refine (HPC.out _).mono ?_; rintro e wa ⟨rfl, hba⟩; have hza := hba.size; (try simp only [World.size_alloc, World.size_setCell, World.size_drew, World.heap_drewN] at hza); try (refine keepc hba (w.heap.size) ?_ ?_; (focus (first | omega | (simp <;> omega))); intro hca_0 hfa_0 hla_0); try (refine keepc hba (w.heap.size + 1) ?_ ?_; (focus (first | omega | (simp <;> omega))); intro hca_1 hfa_1 hla_1); try (refine keepc hba (w.heap.size + 1 + 1) ?_ ?_; (focus (first | omega | (simp <;> omega))); intro hca_2 hfa_2 hla_2)) | (go_at_call 44; refine (HKK.out _ (hxw.below hba)).mono ?_; rintro e w1 ⟨rfl, rfl⟩))
                      go_roundw
                      case rel => exact ⟨j + 1, by omega, by go_num, HQ2, bthen2 hba hbw⟩
                      case measure => simp [intOf]; omega
                  · rw [q2] at hpc
                    have HNO := Lib.hid (show ¬ G by
                      rw [HG2.out]; intro h
                      have := HCC.out h.1 (h.2.2 i j hli hlj)
                      rw [HXE.out, HYE.out, q1] at this; cases this)
                    have HPC := Lib.hid hpc
                    clear hpc q1 q2 hci hcj
                    go_wp2_with (first | (go_at_call 79; refine (HPC.out _).mono ?_; rintro e wa ⟨rfl, hba⟩; have hza := hba.size; (try simp only [World.size_alloc, World.size_setCell, World.size_drew, World.heap_drewN] at hza); try (refine keepc hba (w.heap.size) ?_ ?_; (focus (first | omega | (simp <;> omega))); intro hca_0 hfa_0 hla_0); try (refine keepc hba (w.heap.size + 1) ?_ ?_; (focus (first | omega | (simp <;> omega))); intro hca_1 hfa_1 hla_1); try (refine keepc hba (w.heap.size + 1 + 1) ?_ ?_; (focus (first | omega | (simp <;> omega))); intro hca_2 hfa_2 hla_2)))
                    go_ret
                    exact iff_f HNO.out (bthen2 hba hbw)
                · have e : j = len := by omega
                  have HP2 := Lib.hid (show ∀ a b, a < i + 1 → b < len → xs.contains (prd (xs.getD a 0) (xs.getD b 0)) = true from fun a b h1 h2 => by
                    by_cases ea : a = i
                    · subst ea; rw [HXE.out]; exact HQ.out b (by omega)
                    · exact HP.out a b (by omega) h2)
                  clear e
                  go_wp2
                  go_roundw
                  case rel => exact ⟨i + 1, by omega, by go_num, HP2, hbw⟩
                  case measure => simp [intOf]; omega
            · have HYES := Lib.hid (show G by rw [HG2.out]; exact ⟨HCL.out, HRI.out, fun a b h1 h2 => HP.out a b (by omega) h2⟩)
              go_wp2
              go_ret
              exact iff_t HYES.out hbw

end Go.Proofs.Ytldmledjdcphmaa
