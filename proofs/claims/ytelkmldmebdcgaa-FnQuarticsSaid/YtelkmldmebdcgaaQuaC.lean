import Derived.Test.YtelkmldmebdcgaaQuaB
import Derived.Test.YtelkmldmebdcgaaDrQ
set_option linter.unusedSimpArgs false
set_option linter.unusedVariables false
namespace Go.Proofs.Ytelkmldmebdcgaa
open Go.RowKit

def GAnyQ (w : World) (e : Ending) (w' : World) : Prop := ∃ r : Bool, e = .returned (.bool r) ∧ Below w.heap.size w w'
theorem bigQ_any (a b : Option Addr) (l c m d : Nat) (w : World) (h1 : l ≤ 9223372036854775807) (h2 : m ≤ 9223372036854775807) : Calls Try.prog 6 #[.slice a l c, .slice b m d] w (GAnyQ w) := by
  by_cases g : (1048576 : Int) < (l : Int)
  · go_enter Try.func6, Try.ntmps6
    go_wp2
    go_ret
    exact ⟨_, rfl, (by repeat' (first | (with_reducible exact Below.refl _ _) | (with_reducible assumption) | (with_reducible refine Below.alloc ?_ ?_ _) | (with_reducible refine Below.setCell ?_ ?_ _) | (with_reducible refine Below.drew ?_) | (with_reducible refine below_drewN ?_ _) | (apply bthen2; (with_reducible assumption)) | go_size))⟩
  · go_enter Try.func6, Try.ntmps6
    go_wp2
    go_ret
    exact ⟨_, rfl, (by repeat' (first | (with_reducible exact Below.refl _ _) | (with_reducible assumption) | (with_reducible refine Below.alloc ?_ ?_ _) | (with_reducible refine Below.setCell ?_ ?_ _) | (with_reducible refine Below.drew ?_) | (with_reducible refine below_drewN ?_ _) | (apply bthen2; (with_reducible assumption)) | go_size))⟩

set_option maxRecDepth 100000 in
set_option maxHeartbeats 16000000 in
theorem walk_FnQuartics (a0 : Option Addr) (l0 c0 : Nat) (z0 : List Int) (a1 : Option Addr) (l1 c1 : Nat) (z1 : List Int) (w : World) (h0 : IsRow .u8 w a0 l0 c0 z0) (h1 : IsRow .u8 w a1 l1 c1 z1) :
    Calls Try.prog 3 #[.slice a0 l0 c0, .slice a1 l1 c1] w (Gives (.bool true) w) := by
  have Y0 := Lib.hid h0.byts; have Y1 := Lib.hid h1.byts
  have hl0 : l0 ≤ 9223372036854775807 := by obtain ⟨_, _, _, e, h, -⟩ := Y0.out; cases e; exact h
  have hl1 : l1 ≤ 9223372036854775807 := by obtain ⟨_, _, _, e, h, -⟩ := Y1.out; cases e; exact h
  clear h0 h1
  have HBG := Lib.hid (fun a b l c m d w h1 h2 => bigQ_any a b l c m d w h1 h2)
  go_enter Try.func3, Try.ntmps3
  go_wp2_with fail
  refine (HBG.out _ _ _ _ _ _ _ hl0 hl1).mono ?_
  rintro e9 w1 ⟨r, rfl, hb1⟩
  clear HBG hl0 hl1
  cases r
  case true =>
    go_wp2
    go_ret
    exact gives rfl (by repeat' (first | (with_reducible exact Below.refl _ _) | (with_reducible assumption) | (with_reducible refine Below.alloc ?_ ?_ _) | (with_reducible refine Below.setCell ?_ ?_ _) | (with_reducible refine Below.drew ?_) | (with_reducible refine below_drewN ?_ _) | (apply bthen2; (with_reducible assumption)) | go_size))
  case false =>
    have HD1 := Lib.hid (fun a l c W h => DrawQuarticPointsC (a := a) (l := l) (c := c) (w := W) h)
    have Y0w := (Y0.out.below hb1 (Nat.le_refl _)).mono hb1.size
    go_wp2_with fail
    refine (HD1.out _ _ _ _ Y0w).mono ?_
    rintro e9 w2 ⟨d, a, c, M, rfl, hb2⟩
    clear HD1 Y0 Y0w
    have hB2 := bthen hb1 hb2
    clear hb1 hb2
    have HI := Lib.hid (fun W => QuarticPoints_any d a c M W)
    have HS := Lib.hid (fun W => sQuarticPoints_any d a c M W)
    have HT3 := Lib.hid (qpRows_3S d a c M)
    have HL := Lib.hid (qpRows_lenS d a c M)
    have HQ := Lib.hid (fun (h : qpOk d a c M = true) r hr => qM (d := d) (a := a) (c := c) (M := M) h (r := r) hr)
    have HE := Lib.hid (show qpOk d a c M = false → qpRows d a c M = [] from fun h => by unfold qpRows; rw [h]; rfl)
    generalize hok : qpOk d a c M = ok at *
    generalize hRR : qpRows d a c M = R at *
    have hok := Lib.hid hok; have hRR := Lib.hid hRR
    go_wp2_with fail
    refine (HI.out _).mono ?_; rintro e9 w3 ⟨ga, gl, gc, rfl, own3, hb3⟩
    have X3 := Box.below (show Box _ w2.heap.size [.int .i64 d, .int .i64 a, .int .i64 c] from box_three (by simp) (by simp) (by simp) (by simp) (fun o => by simp)) hb3
    have hB3 : Below w.heap.size w w3 := bthen2 hb3 (hB2.alloc (hB2.size) _)
    clear hb3 HI
    have c0 := X3.2.1 0 _ rfl; have c1 := X3.2.1 1 _ rfl; have c2 := X3.2.1 2 _ rfl; have cl := X3.1
    go_wp2_with fail
    refine (HS.out _).mono ?_; rintro e9 w4 ⟨sa, sl, sc, rfl, own4, hb4⟩
    have X4 := X3.below hb4
    have r3 := (own3.rd HT3.out).below hb4
    have r4 := own4.rd HT3.out
    have hB4 := bthen2 hb4 hB3
    clear hb4 HS X3 own3 own4 hB3 c0 c1 c2 cl
    obtain ⟨sa', sc', hsl, -, -⟩ := id r4
    obtain ⟨rfl, rfl, rfl⟩ : sa = sa' ∧ sl = R.length ∧ sc = sc' := by simpa using hsl
    clear hsl
    go_wp2_with fail
    refine (sameLists_same _ _ R _ r3 r4).mono ?_
    rintro e9 w5 ⟨rfl, hb5⟩
    have X5 := X4.below hb5
    have r5 := r4.below hb5
    have hB5 := bthen2 hb5 hB4
    have hlen := HL.out
    clear hb5 X4 r3 r4 hB4 HL
    go_upto_block 0 with fail
    go_cut [4] (fun _ wx => Below w5.heap.size w5 wx)
    case first =>
      go_wp2_with fail
      go_loopw [65] (fun v65 wr => ∃ k : Nat, v65 = .int .i64 k ∧ k ≤ R.length ∧ Below w5.heap.size w5 wr) (fun v65 _ => (R.length - intOf v65).toNat)
      case atStart => exact ⟨0, rfl, by omega, Below.refl _ _⟩
      case round =>
        obtain ⟨k, rfl, hk, hbw⟩ := hrel
        have hzw := hbw.size
        by_cases hlt : k < R.length
        · obtain ⟨r, hr⟩ : ∃ r, R[k]? = some r := ⟨_, List.getElem?_eq_getElem hlt⟩
          have hokt : ok = true := by
            cases ok with
            | true => rfl
            | false => rw [HE.out rfl] at hlt; exact absurd hlt (by simp)
          obtain ⟨m, e, n, rfl, hq⟩ := HQ.out hokt r (List.mem_of_getElem? hr)
          refine qua_round wr _ _ d a c M R w2.heap.size sa sc k m e n _ _ _ _ _ _ _ _ _ _ _ _ _ _ _ _ _ _ _ _ _ _ _ _ _ _ _ _ _ _ _ _ _ _ _ _ _ _ _ _ _ _ _ _ _ _ _ _ _ _ _ _ _ _ _ _ _ _ _ _ _ _ _ _ _ _ _ _ _ _ _ _ _ _ _ _ _ _ _ _ _ _ _ _ _ _ _ _ _ _ _ _ _ _ _ _ _ _ _ _ _ _ _ _ _ _ _ _ _ _ _ _ _ _ _ _ _ _ _ _ _ _ _ _ _ _ _ _ _ _ _ _ _ _ _ _ _ _ _ _ _ _ _ _ _ _ _ _ _ _ _ _ _ _ _ _ _ _ _ _ _ _ _ _ _ _ _ _ _ _ _ _ _ _ _ _ _ _ _ _ _ _ _ _ _ _ _ _ _ _ _ _ _ _ _ _ _ _ _ _ _ _ _ _ _ _ _ _ _ _ _ _ _ _ _ _ _ _ _ _ _ _ _ _ _ _ _ _ _ _ _ _ _ _ _ _ _ _ hlen (X5.below hbw) (Lib.hid (r5.below hbw)) hr hq ?_
          intros
          rename_i hb9
          have hBB := bthen hbw hb9
          first
            | (refine ⟨⟨k + 1, by first | rfl | go_num, by omega, by repeat' (first | (with_reducible exact Below.refl _ _) | (with_reducible assumption) | (with_reducible refine Below.alloc ?_ ?_ _) | (with_reducible refine Below.setCell ?_ ?_ _) | (with_reducible refine Below.drew ?_) | (with_reducible refine below_drewN ?_ _) | (apply bthen2; (with_reducible assumption)) | go_size)⟩, ?_⟩; simp [intOf]; omega)
            | (go_roundw; (case rel => exact ⟨k + 1, by first | rfl | go_num, by omega, by repeat' (first | (with_reducible exact Below.refl _ _) | (with_reducible assumption) | (with_reducible refine Below.alloc ?_ ?_ _) | (with_reducible refine Below.setCell ?_ ?_ _) | (with_reducible refine Below.drew ?_) | (with_reducible refine below_drewN ?_ _) | (apply bthen2; (with_reducible assumption)) | go_size)⟩); (case measure => simp [intOf]; omega))
        · clear HQ HE r5 X5
          go_wp2_with fail
          go_meet
          exact hbw
    case rest =>
      have hb9 : Below w5.heap.size w5 wc := hcut
      iterate 1 go_step
      exact qua_rest a1 l1 c1 w wc Y1 d a c M R ok w2.heap.size sa sc _ _ _ _ _ _ _ _ _ _ _ _ _ _ _ _ _ _ _ _ _ _ _ _ _ _ _ _ _ _ _ _ _ _ _ _ _ _ _ _ _ _ _ _ _ _ _ _ _ _ _ _ _ _ _ _ _ _ _ _ _ _ _ _ _ _ _ _ _ _ _ _ _ _ _ _ _ _ _ _ _ _ _ _ _ _ _ _ _ _ _ _ _ _ _ _ _ _ _ _ _ _ _ _ _ _ _ _ _ _ _ _ _ _ _ _ _ _ _ _ _ _ _ _ _ _ _ _ _ _ _ _ _ _ _ _ _ _ _ _ _ _ _ _ _ _ _ _ _ _ _ _ _ _ _ _ _ _ _ _ _ _ _ _ _ _ _ _ _ _ _ _ _ _ _ _ _ _ _ _ _ _ _ _ _ _ _ _ _ _ _ _ _ _ _ _ _ _ _ _ _ _ _ _ _ _ _ _ _ _ _ _ _ _ _ _ _ _ _ _ _ _ _ _ _ _ _ _ _ _ _ _ _ _ _ _ _ _ (by rw [hRR.out]) hok.out (X5.below hb9) (bthen2 hb9 hB5)

end Go.Proofs.Ytelkmldmebdcgaa
