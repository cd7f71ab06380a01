import Derived.Test.YtldmledjdcphmaaSqD
import Derived.Test.YtldmledjdcphmaaGp
import Derived.Test.YtldmledjdcphmaaDvs
import Derived.Test.YtldmledjdcphmaaDesc2
import Derived.Test.YtldmledjdcphmaaGrp
import Derived.Test.YtldmledjdcphmaaLawG
set_option linter.unusedSimpArgs false
set_option linter.unusedVariables false
namespace Go.Proofs.Ytldmledjdcphmaa
open Go.RowKit
/-! ### the group that some classes make -/

noncomputable def cgR (xs : List Int) : List Int := (gsm clB xs [1]).getD []
noncomputable def cgOk (xs : List Int) : Bool := (gsm clB xs [1]).isSome
theorem clB_one : clB 1 = true := clB_of sqz_one (by decide)
theorem gin_GI {cl : Int → Bool} (hcl : ∀ x, cl x = true → Sqz x) {S o : List Int} {d : Int} (h : GI cl S) (hd : cl d = true) (hn : d ∉ S) (hg : gin cl d S S = some o) : GI cl o := by
  have hne : S ≠ [] := fun e => by rw [e] at h; exact absurd h.one (by simp)
  by_cases hb : ∃ e ∈ S, cl (pZ d e) = false
  · rw [gin_none S S hb] at hg; cases hg
  · have hb2 : ∀ e ∈ S, cl (pZ d e) = true := fun e he => by
      cases q : cl (pZ d e)
      · exact absurd ⟨e, he, q⟩ hb
      · rfl
    by_cases hl : S.length = 64
    · rw [gin_full hne hl] at hg; cases hg
    · obtain ⟨k, hk, hlk⟩ := h.pow
      have hk5 : k ≤ 5 := by
        rcases Nat.lt_or_ge k 6 with q | q
        · omega
        · exfalso; have : k = 6 := by omega
          subst this; exact hl hlk
      have h32 : S.length ≤ 32 := by rw [hlk]; exact Nat.pow_le_pow_right (by omega) hk5
      rw [gin_some S S hb2 (by omega)] at hg
      cases hg
      exact h.next hcl hd hn hb2 hl
theorem GI.len64 {cl : Int → Bool} {S : List Int} (h : GI cl S) : S.length ≤ 64 := by
  obtain ⟨k, hk, hlk⟩ := h.pow
  rw [hlk]; exact Nat.pow_le_pow_right (by omega) hk
theorem gim_at {cl : Int → Bool} (ds out : List Int) (i : Nat) (hi : i < ds.length) : gim cl (ds.drop i) out = if out.contains (ds.getD i 0) = true then gim cl (ds.drop (i + 1)) out else match gin cl (ds.getD i 0) out out with
    | some o => gim cl (ds.drop (i + 1)) o
    | none => none := by
  rw [List.drop_eq_getElem_cons hi, gim, show ds.getD i 0 = ds[i] by simp [List.getD, List.getElem?_eq_getElem hi]]
  rfl
theorem gsm_at {cl : Int → Bool} (ds out : List Int) (i : Nat) (hi : i < ds.length) : gsm cl (ds.drop i) out = if out.contains (ds.getD i 0) = true then gsm cl (ds.drop (i + 1)) out else match gsn cl (ds.getD i 0) out out with
    | some o => if o.length > 64 then none else gsm cl (ds.drop (i + 1)) o
    | none => none := by
  rw [List.drop_eq_getElem_cons hi, gsm, show ds.getD i 0 = ds[i] by simp [List.getD, List.getElem?_eq_getElem hi]]
  rfl
theorem gin_at {cl : Int → Bool} (d : Int) (es cur : List Int) (i : Nat) (hi : i < es.length) : gin cl d (es.drop i) cur = if (cl (pZ d (es.getD i 0)) && decide (cur.length ≠ 64)) = true then gin cl d (es.drop (i + 1)) (cur ++ [pZ d (es.getD i 0)]) else none := by
  rw [List.drop_eq_getElem_cons hi, gin, show es.getD i 0 = es[i] by simp [List.getD, List.getElem?_eq_getElem hi]]
theorem gsn_at {cl : Int → Bool} (d : Int) (es more : List Int) (i : Nat) (hi : i < es.length) : gsn cl d (es.drop i) more = if cl (pZ d (es.getD i 0)) = true then gsn cl d (es.drop (i + 1)) (putL more (pZ d (es.getD i 0))) else none := by
  rw [List.drop_eq_getElem_cons hi, gsn, show es.getD i 0 = es[i] by simp [List.getD, List.getElem?_eq_getElem hi]]

set_option maxRecDepth 100000 in
set_option maxHeartbeats 4000000 in
theorem classGroup_any (a : Option Addr) (len cap : Nat) (xs : List Int) (w : World) (hx : Ints w (.slice a len cap) xs) (hcl : ∀ d ∈ xs, clB d = true) (hn : xs.length ≤ 1000000) : Calls Try.prog 50 #[.slice a len cap] w (GivesIB (cgR xs) (cgOk xs) w) := by
  obtain ⟨hl, hl2, hc⟩ := hx.cell
  have HC := Lib.hid hc
  have HSQ := Lib.hid (fun x (h : clB x = true) => clB_sq h)
  have hG0 := gim_gsm (fun x h => clB_sq h) xs [1] [1] hcl (GI.one_ clB_one) ⟨by simp, fun x => Iff.rfl⟩
  have HFIN := Lib.hid (show gim clB xs [1] = none → cgR xs = [] ∧ cgOk xs = false from fun h => by
    rcases hG0 with ⟨_, h2⟩ | ⟨S, T, h1, _⟩
    · simp [cgR, cgOk, h2]
    · rw [h] at h1; cases h1)
  have HFIS := Lib.hid (show ∀ o, gim clB xs [1] = some o → cgR xs = (o.mergeSort fun x y => decide (x ≤ y)) ∧ cgOk xs = true from fun o h => by
    rcases hG0 with ⟨h2, _⟩ | ⟨S, T, h1, h2, h3, h4⟩
    · rw [h] at h2; cases h2
    · rw [h] at h1; cases h1
      have := srt_perm h4 h3.nd (sort_perm o) (sort_le o)
      rw [this]
      simp [cgR, cgOk, h2])
  obtain ⟨G, hG⟩ : ∃ G, gim clB xs [1] = G := ⟨_, rfl⟩
  rw [hG] at HFIN HFIS
  have HCLS := Lib.hid hcl
  have hmade : Own (w.alloc (Obj.cells #[.int .i64 1] 3)) w.heap.size (.slice (some ⟨w.heap.size, 0, none⟩) 1 1) [1] := own_made (xs := [1]) (by decide)
  have hGI : GI clB [1] := GI.one_ clB_one
  have hb0 : Below w.heap.size w (w.alloc (Obj.cells #[.int .i64 1] 3)) := (Below.refl _ _).alloc (Nat.le_refl _) _
  have HM := Lib.hid hmade; have HGI := Lib.hid hGI; have HG := Lib.hid hG; have HB0 := Lib.hid hb0
  have hll : xs.length = len := hl
  have HLL := Lib.hid hll
  clear hl hl2 hc hG0 hmade hGI hG hb0 hll hcl hx
  go_enter Try.func50, Try.ntmps50
  go_wp2_with fail
  go_loopw [4, 14] (fun v4 v14 wr => ∃ (i g cap : Nat) (out : List Int), i ≤ len ∧ v14 = .int .i64 i ∧ v4 = .slice (some ⟨g, 0, none⟩) out.length cap ∧ gim clB (xs.drop i) out = G ∧ GI clB out ∧ Own wr w.heap.size (.slice (some ⟨g, 0, none⟩) out.length cap) out ∧ Below w.heap.size w wr) (fun _ v14 _ => len - (intOf v14).toNat)
  case atStart => exact ⟨0, w.heap.size, 1, [1], by omega, rfl, rfl, HG.out, HGI.out, HM.out, HB0.out⟩
  case round =>
    obtain ⟨i, g, cap, out, hi, rfl, rfl, hgim, hgi, hown, hbw⟩ := hrel
    have h64 := hgi.len64
    by_cases hlt : i < len
    · have hlt2 : i < xs.length := by have := HLL.out; omega
      obtain ⟨pb, poff, hpa, hpb, hpc⟩ := HC.out i hlt
      subst hpa
      have hpc := (hbw.cell (p := ⟨pb, poff + i, none⟩) hpb).trans hpc
      rw [gim_at _ _ _ hlt2] at hgim
      have hcd : clB (xs.getD i 0) = true := HCLS.out _ (getD_mem hlt2)
      have HO := Lib.hid hown; have HGI := Lib.hid hgi; have HCD := Lib.hid hcd
      generalize xs.getD i 0 = d at *
      cases hcn : out.contains d
      · have HCT := Lib.hid (show Calls Try.prog 44 #[.slice (some ⟨g, 0, none⟩) out.length cap, .int .i64 d] wr (Same (.bool false) wr) from by have := Contains_any _ out d wr hown.ints; rwa [hcn] at this)
        rw [hcn, if_neg (by simp)] at hgim
        have HGM := Lib.hid hgim; have HCN := Lib.hid hcn
        clear hown hgi hcd hgim hcn
        go_wp2_with (first | (go_at_call 44; refine (HCT.out).mono ?_; rintro e w1 ⟨rfl, rfl⟩))
        refine (clone_any _ _ _ out _ HO.out.ints (by omega)).mono ?_
        rintro e W2 ⟨ca, cl, cc, rfl, hoc, hb2⟩
        have hO2 := HO.out.below hb2
        have hgl : g < wr.heap.size := (HO.out.lt (b := g) rfl).1
        have hcl := hoc.ints.len
        have hz2 := hb2.size
        have hB2 : Below w.heap.size w W2 := (by repeat' (first | (with_reducible exact Below.refl _ _) | (with_reducible assumption) | (with_reducible refine Below.alloc ?_ ?_ _) | (with_reducible refine Below.setCell ?_ ?_ _) | (with_reducible refine Below.drew ?_) | (with_reducible refine below_drewN ?_ _) | (apply bthen2; (with_reducible assumption)) | go_size))
        have hC2 := Seg.of hoc
        obtain ⟨hcl1, hcl2⟩ := hcl
        subst hcl1
        clear hoc hb2 HO
        obtain ⟨Wo, hWo⟩ : ∃ x, x = wr := ⟨_, rfl⟩
        subst hWo
        obtain ⟨H, hH⟩ : ∃ H, gin clB d out out = H := ⟨_, rfl⟩
        have HH := Lib.hid hH
        have hnm : d ∉ out := fun h => by have := HCN.out; rw [List.contains_iff_mem.2 h] at this; cases this
        have HNM := Lib.hid hnm
        have HGN := Lib.hid (show H = none → G = none from fun h => by have := HGM.out; rw [hH, h] at this; exact this.symm)
        have HGS := Lib.hid (show ∀ o, H = some o → gim clB (xs.drop (i + 1)) o = G from fun o h => by have := HGM.out; rw [hH, h] at this; exact this)
        clear hH hnm
        go_wp2_with fail
        go_loopw [4, 24] (fun v4 v24 wr => ∃ (j g2 cap2 : Nat) (cur : List Int), j ≤ out.length ∧ v24 = .int .i64 j ∧ v4 = .slice (some ⟨g2, 0, none⟩) (out.length + j) cap2 ∧ cur.length = out.length + j ∧ gin clB d (out.drop j) cur = H ∧ Own wr w.heap.size (.slice (some ⟨g2, 0, none⟩) (out.length + j) cap2) cur ∧ Seg wr Wo.heap.size W2.heap.size (.slice ca out.length cc) out ∧ W2.heap.size ≤ wr.heap.size ∧ (g2 = g ∨ W2.heap.size ≤ g2) ∧ Below w.heap.size w wr) (fun _ v24 _ => out.length - (intOf v24).toNat)
        case atStart => exact ⟨0, g, cap, out, by omega, rfl, rfl, rfl, HH.out, hO2, hC2, Nat.le_refl _, .inl rfl, hB2⟩
        case round =>
          clear hO2 hC2
          obtain ⟨j, g2, cap2, cur, hj, rfl, rfl, hcu, hgin, hown, hcs, hsq, hg2, hbq⟩ := hrel
          have HCU := Lib.hid hcu
          by_cases hjl : j < out.length
          · obtain ⟨cb, coff, hca, hcb, hcc⟩ := hcs.ints.cell.2.2 j hjl
            subst hca
            rw [gin_at _ _ _ _ hjl] at hgin
            have hce : clB (out.getD j 0) = true := HGI.out.cls _ (getD_mem hjl)
            have HCE := Lib.hid hce
            have HGJ := Lib.hid hgin
            have HO := Lib.hid hown; have HC2 := Lib.hid hcs
            have hg2l : g2 < wr.heap.size := (hown.lt (b := g2) rfl).1
            have hg2B : w.heap.size ≤ g2 := (hown.lt (b := g2) rfl).2
            generalize out.getD j 0 = X at *
            have HPC := Lib.hid (fun w => productClass_any d X HCD.out hce w)
            clear hgin hce hown hcs hcu
            rw [← prd_pZ] at HGJ
            cases hp : clB (prd d X)
            · have HP := Lib.hid (show H = none by have := HGJ.out; rw [hp] at this; simpa using this.symm)
              have HPR := Lib.hid (show prR d X = .tuple #[.int .i64 0, .bool false] by unfold prR; rw [hp]; rfl)
              clear hp
              rw [HPR.out] at HPC
              go_wp2_with (first | (go_at_call 79; refine (HPC.out _).mono ?_; rintro e wa ⟨rfl, hba⟩; have hza := hba.size; (try simp only [World.size_alloc, World.size_setCell, World.size_drew, World.heap_drewN] at hza); try (refine keepc hba (w.heap.size) ?_ ?_; (focus (first | omega | (simp <;> omega))); intro hca_0 hfa_0 hla_0); try (refine keepc hba (w.heap.size + 1) ?_ ?_; (focus (first | omega | (simp <;> omega))); intro hca_1 hfa_1 hla_1); try (refine keepc hba (w.heap.size + 1 + 1) ?_ ?_; (focus (first | omega | (simp <;> omega))); intro hca_2 hfa_2 hla_2)))
              obtain ⟨f1, f2⟩ := HFIN.out (HGN.out HP.out)
              go_ret2
              rw [f1, f2]
              exact ⟨_, _, _, rfl, Own.nil _ _, (by repeat' (first | (with_reducible exact Below.refl _ _) | (with_reducible assumption) | (with_reducible refine Below.alloc ?_ ?_ _) | (with_reducible refine Below.setCell ?_ ?_ _) | (with_reducible refine Below.drew ?_) | (with_reducible refine below_drewN ?_ _) | (apply bthen2; (with_reducible assumption)) | go_size))⟩
            · have HPR := Lib.hid (show prR d X = .tuple #[.int .i64 (prd d X), .bool true] by unfold prR; rw [hp]; rfl)
              rw [HPR.out] at HPC
              rw [hp] at HGJ
              generalize prd d X = P at *
              by_cases h6 : out.length + j = 64
              · have HP := Lib.hid (show H = none by have := HGJ.out; rw [HCU.out, h6] at this; simpa using this.symm)
                clear hp
                go_wp2_with (first | (go_at_call 79; refine (HPC.out _).mono ?_; rintro e wa ⟨rfl, hba⟩; have hza := hba.size; (try simp only [World.size_alloc, World.size_setCell, World.size_drew, World.heap_drewN] at hza); try (refine keepc hba (w.heap.size) ?_ ?_; (focus (first | omega | (simp <;> omega))); intro hca_0 hfa_0 hla_0); try (refine keepc hba (w.heap.size + 1) ?_ ?_; (focus (first | omega | (simp <;> omega))); intro hca_1 hfa_1 hla_1); try (refine keepc hba (w.heap.size + 1 + 1) ?_ ?_; (focus (first | omega | (simp <;> omega))); intro hca_2 hfa_2 hla_2)))
                obtain ⟨f1, f2⟩ := HFIN.out (HGN.out HP.out)
                go_ret2
                rw [f1, f2]
                exact ⟨_, _, _, rfl, Own.nil _ _, (by repeat' (first | (with_reducible exact Below.refl _ _) | (with_reducible assumption) | (with_reducible refine Below.alloc ?_ ?_ _) | (with_reducible refine Below.setCell ?_ ?_ _) | (with_reducible refine Below.drew ?_) | (with_reducible refine below_drewN ?_ _) | (apply bthen2; (with_reducible assumption)) | go_size))⟩
              · have HGJ2 := Lib.hid (show gin clB d (out.drop (j + 1)) (cur ++ [P]) = H by have := HGJ.out; rwa [if_pos (by rw [HCU.out]; simp [h6])] at this)
                clear hp HGJ
                go_wp2_with (first | (go_at_call 79; refine (HPC.out _).mono ?_; rintro e wa ⟨rfl, hba⟩; have hza := hba.size; (try simp only [World.size_alloc, World.size_setCell, World.size_drew, World.heap_drewN] at hza); try (refine keepc hba (w.heap.size) ?_ ?_; (focus (first | omega | (simp <;> omega))); intro hca_0 hfa_0 hla_0); try (refine keepc hba (w.heap.size + 1) ?_ ?_; (focus (first | omega | (simp <;> omega))); intro hca_1 hfa_1 hla_1); try (refine keepc hba (w.heap.size + 1 + 1) ?_ ?_; (focus (first | omega | (simp <;> omega))); intro hca_2 hfa_2 hla_2)) | (at_builtin; refine wpl_appG rfl _ _ rfl w.heap.size (.slice (some ⟨g2, 0, none⟩) (out.length + j) cap2) cur rfl ((HO.out.below hba).alloc _) wa.heap.size 0 1 1 [P] rfl rfl (by decide) (fun q hq => by obtain rfl : q = 0 := (by omega); simp) (by rw [HCU.out]; omega) (by have := hbq.size; have := hba.size; first | (simp; done) | (simp; omega)) ?_; intro g3 cap3 w3 hown3 hon3 hat3 hlt3))
                go_roundw
                case rel =>
                  have hz3 := hba.size
                  have hbz := hbq.size
                  have hb3 : Below w.heap.size w w3 := (Below.alloc (show Below w.heap.size w wa from (by repeat' (first | (with_reducible exact Below.refl _ _) | (with_reducible assumption) | (with_reducible refine Below.alloc ?_ ?_ _) | (with_reducible refine Below.setCell ?_ ?_ _) | (with_reducible refine Below.drew ?_) | (with_reducible refine below_drewN ?_ _) | (apply bthen2; (with_reducible assumption)) | go_size))) (by omega) _).trans (hon3.below (by first | (simp; done) | (simp; omega)) (fun q hq => by have hq2 : g2 = q := (by simpa [Value.ownBlock] using hq); omega))
                  have hc3 := ((HC2.out.belowS hba).alloc _).chgS (ChgS.of hon3) (fun q hq e => by have hq2 : g2 = q := (by simpa [Value.ownBlock] using e); have := HC2.out.rng hq; omega)
                  have hsz3 := hon3.size
                  simp only [World.size_alloc] at hsz3
                  refine ⟨j + 1, g3, cap3, cur ++ [P], by omega, by go_num, by rw [HCU.out, Nat.add_assoc], by rw [List.length_append, HCU.out]; rfl, HGJ2.out, ?_, hc3, by omega, ?_, hb3⟩
                  · rw [HCU.out] at hown3; exact hown3
                  · rcases hat3 with q | q
                    · have hq2 : g2 = g3 := (by simpa [Value.ownBlock] using q)
                      omega
                    · right; rw [q]; simp; omega
                case measure => simp [intOf]; omega
          · have e : j = out.length := by omega
            subst e
            have HGF := Lib.hid (show H = some cur by rw [List.drop_of_length_le (Nat.le_refl _), gin] at hgin; exact hgin.symm)
            have HGC := Lib.hid (show gin clB d out out = some cur by rw [HH.out, HGF.out])
            have HO := Lib.hid (hcu ▸ hown)
            clear hgin hown hcs hcu
            go_wp2_with fail
            go_roundw
            case rel => exact ⟨i + 1, g2, cap2, cur, by omega, by go_num, by rw [HCU.out], HGS.out _ HGF.out, gin_GI HSQ.out HGI.out HCD.out HNM.out HGC.out, HO.out, hbq⟩
            case measure => simp [intOf]; omega
      · have HCT := Lib.hid (show Calls Try.prog 44 #[.slice (some ⟨g, 0, none⟩) out.length cap, .int .i64 d] wr (Same (.bool true) wr) from by have := Contains_any _ out d wr hown.ints; rwa [hcn] at this)
        rw [hcn, if_pos rfl] at hgim
        have HGM := Lib.hid hgim; have HCN := Lib.hid hcn
        clear hown hgi hcd hgim hcn
        go_wp2_with (first | (go_at_call 44; refine (HCT.out).mono ?_; rintro e w1 ⟨rfl, rfl⟩))
        go_roundw
        case rel => exact ⟨i + 1, g, cap, out, by omega, by go_num, rfl, HGM.out, HGI.out, HO.out, hbw⟩
        case measure => simp [intOf]; omega
    · have e : i = len := by omega
      have hgs : G = some out := by
        rw [List.drop_of_length_le (by have := HLL.out; omega), gim] at hgim
        exact hgim.symm
      obtain ⟨hr, hk⟩ := HFIS.out out hgs
      have HR := Lib.hid hr; have HK := Lib.hid hk
      subst e
      have HO := Lib.hid hown
      have hgl : w.heap.size ≤ g := (hown.lt (b := g) rfl).2
      clear hgim hgi hown hgs hr hk
      go_wp2_with fail
      refine (Sort_own w.heap.size _ _ _ out _ HO.out (by omega)).mono ?_
      rintro e W3 ⟨rfl, ho3, hon3⟩
      have hb3 := hon3.below hbw.size (fun q hq => by have hq2 : g = q := (by simpa [Value.ownBlock] using hq); omega)
      go_wp2
      go_ret2
      rw [HK.out]
      exact ⟨_, _, _, rfl, by rw [HR.out]; exact ho3, hbw.trans hb3⟩

theorem gsm_step {cl : Int → Bool} (hcl : ∀ x, cl x = true → Sqz x) {S T o : List Int} {d : Int} (h : GI cl S) (hs : Same2 S T) (hd : cl d = true) (hn : T.contains d = false) (hg : gsn cl d T T = some o) (hl : ¬ o.length > 64) : ∃ S', GI cl S' ∧ Same2 S' o := by
  have e : gsm cl [d] T = some o := by
    rw [gsm, hn, if_neg (by simp), hg]
    simp only [if_neg hl, gsm]
  rcases gim_gsm hcl [d] S T (by simpa using hd) h hs with ⟨_, h2⟩ | ⟨S', T', _, h2, h3, h4⟩
  · rw [e] at h2; cases h2
  · rw [e] at h2; cases h2; exact ⟨S', h3, h4⟩
set_option maxRecDepth 100000 in
set_option maxHeartbeats 4000000 in
theorem dsGroup_any (a : Option Addr) (len cap : Nat) (xs : List Int) (w : World) (hx : Ints w (.slice a len cap) xs) (hcl : ∀ d ∈ xs, clB d = true) (hn : xs.length ≤ 1000000) : Calls Try.prog 47 #[.slice a len cap] w (GivesIB (cgR xs) (cgOk xs) w) := by
  obtain ⟨hl, hl2, hc⟩ := hx.cell
  have HC := Lib.hid hc
  have HSQ := Lib.hid (fun x (h : clB x = true) => clB_sq h)
  obtain ⟨G, hG⟩ : ∃ G, gsm clB xs [1] = G := ⟨_, rfl⟩
  have HFIN := Lib.hid (show G = none → cgR xs = [] ∧ cgOk xs = false from fun h => by simp [cgR, cgOk, hG, h])
  have HFIS := Lib.hid (show ∀ o, G = some o → cgR xs = o ∧ cgOk xs = true from fun o h => by simp [cgR, cgOk, hG, h])
  have HCLS := Lib.hid hcl
  have hmade : Own (w.alloc (Obj.cells #[.int .i64 1] 3)) w.heap.size (.slice (some ⟨w.heap.size, 0, none⟩) 1 1) [1] := own_made (xs := [1]) (by decide)
  have hb0 : Below w.heap.size w (w.alloc (Obj.cells #[.int .i64 1] 3)) := (Below.refl _ _).alloc (Nat.le_refl _) _
  have HM := Lib.hid hmade; have HG := Lib.hid hG; have HB0 := Lib.hid hb0
  have HGI := Lib.hid (show ∃ S, GI clB S ∧ Same2 S [1] from ⟨[1], GI.one_ clB_one, by simp, fun x => Iff.rfl⟩)
  have hll : xs.length = len := hl
  have HLL := Lib.hid hll
  clear hl hl2 hc hmade hG hb0 hll hcl hx
  go_enter Try.func47, Try.ntmps47
  go_wp2_with fail
  go_loopw [4, 14] (fun v4 v14 wr => ∃ (i : Nat) (b : Option Addr) (cap : Nat) (out : List Int), i ≤ len ∧ v14 = .int .i64 i ∧ v4 = .slice b out.length cap ∧ gsm clB (xs.drop i) out = G ∧ (∃ S, GI clB S ∧ Same2 S out) ∧ Own wr w.heap.size (.slice b out.length cap) out ∧ Below w.heap.size w wr) (fun _ v14 _ => len - (intOf v14).toNat)
  case atStart => exact ⟨0, some ⟨w.heap.size, 0, none⟩, 1, [1], by omega, rfl, rfl, HG.out, HGI.out, HM.out, HB0.out⟩
  case round =>
    obtain ⟨i, b, cap, out, hi, rfl, rfl, hgim, ⟨S, hgi, hs2⟩, hown, hbw⟩ := hrel
    have h64 : out.length ≤ 64 := by rw [hs2.len hgi.nd]; exact hgi.len64
    have h1m : 0 < out.length := List.length_pos_of_mem ((hs2.2 1).2 hgi.one)
    by_cases hlt : i < len
    · have hlt2 : i < xs.length := by have := HLL.out; omega
      obtain ⟨pb, poff, hpa, hpb, hpc⟩ := HC.out i hlt
      subst hpa
      have hpc := (hbw.cell (p := ⟨pb, poff + i, none⟩) hpb).trans hpc
      rw [gsm_at _ _ _ hlt2] at hgim
      have hcd : clB (xs.getD i 0) = true := HCLS.out _ (getD_mem hlt2)
      have HO := Lib.hid hown; have HCD := Lib.hid hcd
      have HCE := Lib.hid (show ∀ e ∈ out, clB e = true from fun e he => hgi.cls e ((hs2.2 e).1 he))
      have HGS2 := Lib.hid (And.intro hgi hs2)
      generalize xs.getD i 0 = d at *
      cases hcn : out.contains d
      · have HCT := Lib.hid (show Calls Try.prog 72 #[.slice b out.length cap, .int .i64 d] wr (Same (.bool false) wr) from by have := l1Has_any _ out d wr hown.ints; rwa [hcn] at this)
        rw [hcn, if_neg (by simp)] at hgim
        have HGM := Lib.hid hgim; have HCN := Lib.hid hcn
        have hoc0 := hown.ints.cell.2.2
        have HOC := Lib.hid hoc0
        clear hown hgi hs2 hcd hgim hcn hoc0
        go_wp2_with (first | (go_at_call 72; refine (HCT.out).mono ?_; rintro e w1 ⟨rfl, rfl⟩))
        refine (l1Own_any _ _ _ out _ HO.out.ints (by omega)).mono ?_
        rintro e W2 ⟨ca, cl, cc, rfl, hoc, hb2⟩
        have hcl := hoc.ints.len
        have hz2 := hb2.size
        have hbz := hbw.size
        have hO2 := hoc.mono hbz
        obtain ⟨hcl1, hcl2⟩ := hcl
        subst hcl1
        clear hoc
        obtain ⟨Wo, hWo⟩ : ∃ x, x = wr := ⟨_, rfl⟩
        subst hWo
        obtain ⟨H, hH⟩ : ∃ H, gsn clB d out out = H := ⟨_, rfl⟩
        have HH := Lib.hid hH
        have HGN := Lib.hid (show H = none → G = none from fun h => by have := HGM.out; rw [hH, h] at this; exact this.symm)
        have HGL := Lib.hid (show ∀ o, H = some o → o.length > 64 → G = none from fun o h h2 => by have := HGM.out; rw [hH, h] at this; simpa [if_pos h2] using this.symm)
        have HGS := Lib.hid (show ∀ o, H = some o → ¬ o.length > 64 → gsm clB (xs.drop (i + 1)) o = G from fun o h h2 => by have := HGM.out; rw [hH, h] at this; simpa [if_neg h2] using this)
        clear hH
        go_wp2_with fail
        go_loopw [7, 25] (fun v7 v25 wr => ∃ (j : Nat) (a2 : Option Addr) (cap2 : Nat) (more : List Int), j ≤ out.length ∧ v25 = .int .i64 j ∧ v7 = .slice a2 more.length cap2 ∧ (0 < more.length ∧ more.length ≤ out.length + j) ∧ gsn clB d (out.drop j) more = H ∧ Own wr w.heap.size (.slice a2 more.length cap2) more ∧ Below Wo.heap.size Wo wr) (fun _ v25 _ => out.length - (intOf v25).toNat)
        case atStart => exact ⟨0, ca, cc, out, by omega, rfl, rfl, by omega, HH.out, hO2, hb2⟩
        case round =>
          clear hO2
          obtain ⟨j, a2, cap2, more, hj, rfl, rfl, ⟨hm0, hm1⟩, hgin, hown, hbq⟩ := hrel
          have hzq := hbq.size
          by_cases hjl : j < out.length
          · obtain ⟨cb, coff, hca, hcb, hcc⟩ := HOC.out j hjl
            subst hca
            have c5 := (hbq.cell (p := ⟨cb, coff + j, none⟩) hcb).trans hcc
            rw [gsn_at _ _ _ _ hjl] at hgin
            have hce := HCE.out _ (getD_mem hjl)
            have HGJ := Lib.hid hgin
            have HOW := Lib.hid hown
            generalize out.getD j 0 = X at *
            have HPC := Lib.hid (fun w => dsProduct_any d X HCD.out hce w)
            have HDC := Lib.hid (fun w => dsClass_any (prd d X) w)
            have hpl := putL_len more (prd d X)
            have HPU := Lib.hid (fun W h hB => l1Put_any w.heap.size a2 more.length cap2 more (prd d X) W h (by omega) (by omega) hB)
            rw [← prd_pZ] at HGJ
            clear hgin hce hown hcc
            generalize prd d X = P at *
            cases hp : clB P
            · have HP := Lib.hid (show H = none by have := HGJ.out; rw [hp] at this; simpa using this.symm)
              rw [hp] at HDC
              clear hp
              go_wp2_with (first | (go_at_call 76; refine (HPC.out _).mono ?_; rintro e wa ⟨rfl, hba⟩; have hza := hba.size; (try simp only [World.size_alloc, World.size_setCell, World.size_drew, World.heap_drewN] at hza); try (refine keepc hba (w.heap.size) ?_ ?_; (focus (first | omega | (simp <;> omega))); intro hca_0 hfa_0 hla_0); try (refine keepc hba (w.heap.size + 1) ?_ ?_; (focus (first | omega | (simp <;> omega))); intro hca_1 hfa_1 hla_1); try (refine keepc hba (w.heap.size + 1 + 1) ?_ ?_; (focus (first | omega | (simp <;> omega))); intro hca_2 hfa_2 hla_2)) | (go_at_call 74; refine (HDC.out _).mono ?_; rintro e wb ⟨rfl, hbb⟩; have hzb := hbb.size; (try simp only [World.size_alloc, World.size_setCell, World.size_drew, World.heap_drewN] at hzb); try (refine keepc hbb (w.heap.size) ?_ ?_; (focus (first | omega | (simp <;> omega))); intro hcb_0 hfb_0 hlb_0); try (refine keepc hbb (w.heap.size + 1) ?_ ?_; (focus (first | omega | (simp <;> omega))); intro hcb_1 hfb_1 hlb_1); try (refine keepc hbb (w.heap.size + 1 + 1) ?_ ?_; (focus (first | omega | (simp <;> omega))); intro hcb_2 hfb_2 hlb_2)))
              obtain ⟨f1, f2⟩ := HFIN.out (HGN.out HP.out)
              have hbb := hbq.trans ((hba.trans (hbb.mono hba.size)).mono hzq)
              go_ret2
              rw [f1, f2]
              exact ⟨_, _, _, rfl, Own.nil _ _, hbw.trans (hbb.mono hbz)⟩
            · have HGJ2 := Lib.hid (show gsn clB d (out.drop (j + 1)) (putL more P) = H by have := HGJ.out; rwa [hp, if_pos rfl] at this)
              rw [hp] at HDC
              clear hp HGJ
              go_wp2_with (first | (go_at_call 76; refine (HPC.out _).mono ?_; rintro e wa ⟨rfl, hba⟩; have hza := hba.size; (try simp only [World.size_alloc, World.size_setCell, World.size_drew, World.heap_drewN] at hza); try (refine keepc hba (w.heap.size) ?_ ?_; (focus (first | omega | (simp <;> omega))); intro hca_0 hfa_0 hla_0); try (refine keepc hba (w.heap.size + 1) ?_ ?_; (focus (first | omega | (simp <;> omega))); intro hca_1 hfa_1 hla_1); try (refine keepc hba (w.heap.size + 1 + 1) ?_ ?_; (focus (first | omega | (simp <;> omega))); intro hca_2 hfa_2 hla_2)) | (go_at_call 74; refine (HDC.out _).mono ?_; rintro e wb ⟨rfl, hbb⟩; have hzb := hbb.size; (try simp only [World.size_alloc, World.size_setCell, World.size_drew, World.heap_drewN] at hzb); try (refine keepc hbb (w.heap.size) ?_ ?_; (focus (first | omega | (simp <;> omega))); intro hcb_0 hfb_0 hlb_0); try (refine keepc hbb (w.heap.size + 1) ?_ ?_; (focus (first | omega | (simp <;> omega))); intro hcb_1 hfb_1 hlb_1); try (refine keepc hbb (w.heap.size + 1 + 1) ?_ ?_; (focus (first | omega | (simp <;> omega))); intro hcb_2 hfb_2 hlb_2)))
              have hz3 := hba.size
              have hz4 := hbb.size
              refine (HPU.out _ ((HOW.out.below hba).below hbb) (by omega)).mono ?_
              rintro e W3 ⟨a3, l3, c3, rfl, ho3, hb3⟩
              have hl3 : l3 = (putL more P).length := (ho3.ints.len.1).symm
              subst hl3
              have HO3 := Lib.hid ho3
              have hb4 : Below Wo.heap.size Wo W3 := ((hbq.trans (hba.mono hzq)).trans (hbb.mono (by omega))).trans (hb3.mono (by omega))
              clear ho3 hb3
              obtain ⟨mo, hmo⟩ : ∃ m, putL more P = m := ⟨_, rfl⟩
              rw [hmo] at HO3 HGJ2 hpl ⊢
              clear hmo
              go_wp2_with fail
              go_roundw
              case rel => exact ⟨j + 1, a3, c3, mo, by omega, by go_num, rfl, by omega, HGJ2.out, HO3.out, hb4⟩
              case measure => simp [intOf]; omega
          · have e : j = out.length := by omega
            subst e
            have HGF := Lib.hid (show H = some more by rw [List.drop_of_length_le (Nat.le_refl _), gsn] at hgin; exact hgin.symm)
            have HOW := Lib.hid hown
            clear hgin hown
            by_cases h6 : more.length > 64
            · obtain ⟨f1, f2⟩ := HFIN.out (HGL.out _ HGF.out h6)
              have F1 := Lib.hid f1; have F2 := Lib.hid f2
              clear f1 f2
              go_wp2_with fail
              go_ret2
              rw [F1.out, F2.out]
              exact ⟨_, _, _, rfl, Own.nil _ _, hbw.trans (hbq.mono hbz)⟩
            · have HGG := Lib.hid (show ∃ S, GI clB S ∧ Same2 S more from gsm_step HSQ.out HGS2.out.1 HGS2.out.2 HCD.out HCN.out (by rw [HH.out, HGF.out]) h6)
              have HGO := Lib.hid (HGS.out _ HGF.out h6)
              go_wp2_with fail
              go_roundw
              case rel => exact ⟨i + 1, a2, cap2, more, by omega, by go_num, rfl, HGO.out, HGG.out, HOW.out, hbw.trans (hbq.mono hbz)⟩
              case measure => simp [intOf]; omega
      · have HCT := Lib.hid (show Calls Try.prog 72 #[.slice b out.length cap, .int .i64 d] wr (Same (.bool true) wr) from by have := l1Has_any _ out d wr hown.ints; rwa [hcn] at this)
        rw [hcn, if_pos rfl] at hgim
        have HGM := Lib.hid hgim
        clear hown hgi hs2 hcd hgim hcn
        go_wp2_with (first | (go_at_call 72; refine (HCT.out).mono ?_; rintro e w1 ⟨rfl, rfl⟩))
        go_roundw
        case rel => exact ⟨i + 1, b, cap, out, by omega, by go_num, rfl, HGM.out, ⟨S, HGS2.out.1, HGS2.out.2⟩, HO.out, hbw⟩
        case measure => simp [intOf]; omega
    · have e : i = len := by omega
      have hgs : G = some out := by
        rw [List.drop_of_length_le (by have := HLL.out; omega), gsm] at hgim
        exact hgim.symm
      obtain ⟨hr, hk⟩ := HFIS.out out hgs
      have HR := Lib.hid hr; have HK := Lib.hid hk
      subst e
      have HO := Lib.hid hown
      clear hgim hgi hs2 hown hgs hr hk
      go_wp2_with fail
      go_ret2
      rw [HK.out]
      exact ⟨_, _, _, rfl, by rw [HR.out]; exact HO.out, hbw⟩

end Go.Proofs.Ytldmledjdcphmaa
