import Derived.Test.YtelkmldmebdcgaaSeaB
import Derived.Test.YtelkmldmebdcgaaSeaE
set_option linter.unusedSimpArgs false
set_option linter.unusedVariables false
namespace Go.Proofs.Ytelkmldmebdcgaa
open Go.RowKit

set_option maxRecDepth 100000 in
set_option maxHeartbeats 16000000 in
theorem walk_FnSearches (a0 : Option Addr) (l0 c0 : Nat) (z0 : List Int) (a1 : Option Addr) (l1 c1 : Nat) (z1 : List Int) (w : World) (h0 : IsRow .u8 w a0 l0 c0 z0) (h1 : IsRow .u8 w a1 l1 c1 z1) :
    Calls Try.prog 4 #[.slice a0 l0 c0, .slice a1 l1 c1] w (Gives (.bool true) w) := by
  have Y0 := Lib.hid h0.byts; have Y1 := Lib.hid h1.byts
  have hl0 : l0 ≤ 9223372036854775807 := by obtain ⟨_, _, _, e, h, -⟩ := Y0.out; cases e; exact h
  have hl1 : l1 ≤ 9223372036854775807 := by obtain ⟨_, _, _, e, h, -⟩ := Y1.out; cases e; exact h
  clear h0 h1
  have HBG := Lib.hid (fun a b l c m d w h1 h2 => big_any a b l c m d w h1 h2)
  go_enter Try.func4, Try.ntmps4
  go_wp2_with fail
  refine (HBG.out _ _ _ _ _ _ _ hl0 hl1).mono ?_
  rintro e9 w1 ⟨r, rfl, hb1⟩
  clear HBG hl0 hl1
  cases r
  case true =>
    go_wp2
    go_ret
    exact gives rfl (by repeat' (first | (with_reducible exact Below.refl _ _) | (with_reducible assumption) | (with_reducible refine Below.alloc ?_ ?_ _) | (with_reducible refine Below.setCell ?_ ?_ _) | (with_reducible refine Below.drew ?_) | (with_reducible refine below_drewN ?_ _) | (apply bthen2; (with_reducible assumption)) | go_size))
  case false =>
    have HD1 := Lib.hid (fun a l c W h => DrawSearchPointsC (a := a) (l := l) (c := c) (w := W) h)
    have Y0w := (Y0.out.below hb1 (Nat.le_refl _)).mono hb1.size
    go_wp2_with fail
    refine (HD1.out _ _ _ _ Y0w).mono ?_
    rintro e9 w2 ⟨A, B, M, D, rfl, hb2⟩
    clear HD1 Y0 Y0w
    have hB2 := bthen hb1 hb2
    clear hb1 hb2
    have HI := Lib.hid (fun W => SearchPoints_any A B M D W)
    have HS := Lib.hid (fun W => sSearchPoints_any A B M D W)
    have HFI := Lib.hid (fun W => FirstPoint_any A B M D W)
    have HFS := Lib.hid (fun W => sFirstPoint_any A B M D W)
    obtain ⟨fx, fy, fe, fd, hfp, hfd1, hfd0⟩ := fp_f A B M D
    rw [hfp] at HFI HFS
    clear hfp
    have HF1 := Lib.hid hfd1; have HF0 := Lib.hid hfd0
    clear hfd1 hfd0
    generalize hok : spOk A B M D = ok at *
    generalize hRR : spPs A B M D = R at *
    have hok := Lib.hid hok; have hRR := Lib.hid hRR
    go_wp2_with fail
    refine (HI.out _).mono ?_; rintro e9 w3 ⟨ga, gl, gc, rfl, own3, hb3⟩
    have X3 := Box.below (box_made2 _ _ _ _) hb3
    have hB3 : Below w.heap.size w w3 := bthen2 hb3 (hB2.alloc (hB2.size) _)
    have c0 := X3.2.1 0 _ rfl; have c1 := X3.2.1 1 _ rfl; have cl := X3.1
    clear hb3 HI
    go_wp2_with fail
    refine (HS.out _).mono ?_; rintro e9 w4 ⟨sa, sl, sc, rfl, own4, hb4⟩
    have X4 := X3.below hb4
    have PG4 := own3.pts.below hb4
    have PS4 := own4.pts
    have hB4 := bthen2 hb4 hB3
    have cs0 := hb4.size
    clear hb4 HS X3 own3 own4 hB3 c0 c1 cl
    have c0 := X4.2.1 0 _ rfl; have c1 := X4.2.1 1 _ rfl; have cl := X4.1
    go_wp2_with fail
    refine (HFI.out _).mono ?_; rintro e9 w5 ⟨rfl, hb5⟩
    have X5 := X4.below hb5
    have PG5 := PG4.below hb5
    have PS5 := PS4.below hb5
    have hB5 := bthen2 hb5 hB4
    have cs1 := hb5.size
    clear hb5 HFI X4 PG4 PS4 hB4 c0 c1 cl
    have c0 := X5.2.1 0 _ rfl; have c1 := X5.2.1 1 _ rfl; have cl := X5.1
    go_wp2_with fail
    refine (HFS.out _).mono ?_; rintro e9 w6 ⟨rfl, hb6⟩
    have Z6 := Box.below (show Box _ w5.heap.size [.int .i64 fx, .int .i64 fy, .int .i64 fe] from box_three (by simp) (by simp) (by simp) (by simp) (fun o => by simp)) hb6
    have X6 := (X5.alloc _).below hb6
    have PG6 := PG5.below (bthen2 hb6 (Below.alloc (Below.refl _ _) (Nat.le_refl _) _))
    have PS6 := PS5.below (bthen2 hb6 (Below.alloc (Below.refl _ _) (Nat.le_refl _) _))
    have hB6 := bthen2 hb6 (hB5.alloc hB5.size _)
    have cs2 := hb6.size
    clear hb6 HFS X5 PG5 PS5 hB5 c0 c1 cl
    (try simp only [World.size_alloc] at cs2)
    go_upto_region 8 with fail
    refine name_world (fun V hV => ?_)
    have X : Box V w2.heap.size [.int .i64 A, .int .i64 B] := by subst hV; exact X6.alloc _
    have Z : Box V w5.heap.size [.int .i64 fx, .int .i64 fy, .int .i64 fe] := by subst hV; exact Z6.alloc _
    have F : Box V w6.heap.size [.int .i64 fx, .int .i64 fy, .int .i64 fe] := by subst hV; exact box_three (by simp) (by simp) (by simp) (by simp) (fun o => by simp)
    have PG : PtsR V (.slice ga gl gc) R := by subst hV; exact PG6.below (Below.alloc (Below.refl _ _) (Nat.le_refl _) _)
    have PS : PtsR V (.slice sa sl sc) R := by subst hV; exact PS6.below (Below.alloc (Below.refl _ _) (Nat.le_refl _) _)
    have hB : Below w.heap.size w V := by subst hV; exact hB6.alloc hB6.size _
    clear hV X6 Z6 PG6 PS6 hB6 cs0 cs1 cs2
    obtain ⟨sa', sc', hsl, hml, -⟩ := id PS
    obtain ⟨rfl, rfl, rfl⟩ : sa = sa' ∧ sl = R.length ∧ sc = sc' := by simpa using hsl
    clear hsl
    have HEQ := Lib.hid (fun s t ps W h h' => pSamePoints_same s t ps W h h')
    have z0 := Z.2.1 0 _ rfl; have z1 := Z.2.1 1 _ rfl; have z2 := Z.2.1 2 _ rfl; have zl := Z.1
    have y0 := F.2.1 0 _ rfl; have y1 := F.2.1 1 _ rfl; have y2 := F.2.1 2 _ rfl; have yl := F.1
    have GG := Lib.hid PG; have GS := Lib.hid PS
    clear PG
    go_cut [123] (fun s123 wx => s123 = .bool false ∧ Below V.heap.size V wx)
    case first =>
      cases ok
      case false =>
        cases fd
        case true => exact absurd (HF1.out rfl).1 (by simp)
        clear PS
        refine sea_r8a V _ _ w5.heap.size w6.heap.size fx fy fe R ga gl gc sa sc _ _ _ _ _ _ _ _ _ _ _ _ _ _ _ _ _ _ _ _ _ _ _ _ _ _ _ _ _ _ _ _ _ _ _ _ _ _ _ _ _ _ _ _ _ _ _ _ _ _ _ _ _ _ _ _ _ _ _ _ _ _ _ _ _ _ _ _ _ _ _ _ _ _ _ _ _ _ _ _ _ _ _ _ _ _ _ _ _ _ _ _ _ _ _ _ _ _ _ _ _ _ _ _ _ _ _ _ _ _ _ _ _ _ _ _ _ _ _ _ _ _ _ _ _ _ _ _ _ _ _ _ _ _ _ _ _ _ _ _ _ _ _ _ _ _ _ _ _ _ _ _ _ _ _ _ _ _ _ _ _ _ _ _ _ _ _ _ _ _ _ _ _ _ _ _ _ _ _ _ _ _ _ _ _ _ _ _ _ _ _ _ _ _ _ _ _ _ _ _ _ _ _ _ _ _ _ _ _ _ _ _ _ _ _ _ _ _ _ _ _ _ _ _ _ _ _ _ _ _ _ _ _ _ _ _ _ _ _ _ _ _ _ _ _ _ _ _ _ _ _ _ _ _ _ _ _ _ _ _ _ _ _ _ _ _ _ _ _ _ _ _ _ _ _ _ _ _ _ _ _ _ _ _ _ _ _ _ _ _ _ _ _ _ _ _ _ _ _ _ _ _ _ _ _ _ _ _ _ _ _ _ _ _ _ _ _ _ _ _ _ _ _ _ _ _ _ _ _ _ _ _ _ _ _ _ _ _ _ _ _ _ _ zl yl z0 z1 z2 y0 y1 y2 GG GS ?_
        intros
        go_wp2_with fail
        go_meet
        exact ⟨rfl, by assumption⟩
      case true =>
        cases fd
        case false =>
          have hR := HF0.out rfl
          have kn : decide ((0 : Int) < (R.length : Int)) = false := by rw [hR]; rfl
          have kn2 : decide (0 < R.length) = false := by rw [hR]; rfl
          clear hR PS
          refine sea_r8b V _ _ w5.heap.size w6.heap.size fx fy fe R ga gl gc sa sc _ _ _ _ _ _ _ _ _ _ _ _ _ _ _ _ _ _ _ _ _ _ _ _ _ _ _ _ _ _ _ _ _ _ _ _ _ _ _ _ _ _ _ _ _ _ _ _ _ _ _ _ _ _ _ _ _ _ _ _ _ _ _ _ _ _ _ _ _ _ _ _ _ _ _ _ _ _ _ _ _ _ _ _ _ _ _ _ _ _ _ _ _ _ _ _ _ _ _ _ _ _ _ _ _ _ _ _ _ _ _ _ _ _ _ _ _ _ _ _ _ _ _ _ _ _ _ _ _ _ _ _ _ _ _ _ _ _ _ _ _ _ _ _ _ _ _ _ _ _ _ _ _ _ _ _ _ _ _ _ _ _ _ _ _ _ _ _ _ _ _ _ _ _ _ _ _ _ _ _ _ _ _ _ _ _ _ _ _ _ _ _ _ _ _ _ _ _ _ _ _ _ _ _ _ _ _ _ _ _ _ _ _ _ _ _ _ _ _ _ _ _ _ _ _ _ _ _ _ _ _ _ _ _ _ _ _ _ _ _ _ _ _ _ _ _ _ _ _ _ _ _ _ _ _ _ _ _ _ _ _ _ _ _ _ _ _ _ _ _ _ _ _ _ _ _ _ _ _ _ _ _ _ _ _ _ _ _ _ _ _ _ _ _ _ _ _ _ _ _ _ _ _ _ _ _ _ _ _ _ _ _ _ _ _ _ _ _ _ _ _ _ _ _ _ _ _ _ _ _ _ _ _ _ _ _ _ _ _ _ _ _ _ zl yl z0 z1 z2 y0 y1 y2 GG GS kn kn2 ?_
          intros
          go_wp2_with fail
          go_meet
          exact ⟨rfl, by assumption⟩
        case true =>
          have hR := (HF1.out rfl).2
          have kn : decide ((0 : Int) < (R.length : Int)) = true := by
            cases R with
            | nil => cases hR
            | cons p t => simp
          have kp : (0 : Int) < (R.length : Int) := by simpa using kn
          have kp2 : 0 < R.length := by omega
          have kn2 : decide (0 < R.length) = true := by simpa using kp2
          obtain ⟨sa2, sc2, hsl, -, hcells⟩ := PS
          obtain ⟨b9, off, ha, hbl, x0, x1, x2⟩ := hcells 0 _ hR
          have hca : sa = some ⟨b9, off, none⟩ := by
            have : sa = sa2 := by simpa using congrArg (fun v => match v with | Value.slice a _ _ => a | _ => none) hsl
            rw [this, ha]
          subst hca
          simp only [Nat.zero_mul, Nat.add_zero, Nat.zero_add] at x0 x1 x2
          clear hcells hsl ha hR
          refine sea_r8c V _ _ w5.heap.size w6.heap.size fx fy fe R ga gl gc sc b9 off _ _ _ _ _ _ _ _ _ _ _ _ _ _ _ _ _ _ _ _ _ _ _ _ _ _ _ _ _ _ _ _ _ _ _ _ _ _ _ _ _ _ _ _ _ _ _ _ _ _ _ _ _ _ _ _ _ _ _ _ _ _ _ _ _ _ _ _ _ _ _ _ _ _ _ _ _ _ _ _ _ _ _ _ _ _ _ _ _ _ _ _ _ _ _ _ _ _ _ _ _ _ _ _ _ _ _ _ _ _ _ _ _ _ _ _ _ _ _ _ _ _ _ _ _ _ _ _ _ _ _ _ _ _ _ _ _ _ _ _ _ _ _ _ _ _ _ _ _ _ _ _ _ _ _ _ _ _ _ _ _ _ _ _ _ _ _ _ _ _ _ _ _ _ _ _ _ _ _ _ _ _ _ _ _ _ _ _ _ _ _ _ _ _ _ _ _ _ _ _ _ _ _ _ _ _ _ _ _ _ _ _ _ _ _ _ _ _ _ _ _ _ _ _ _ _ _ _ _ _ _ _ _ _ _ _ _ _ _ _ _ _ _ _ _ _ _ _ _ _ _ _ _ _ _ _ _ _ _ _ _ _ _ _ _ _ _ _ _ _ _ _ _ _ _ _ _ _ _ _ _ _ _ _ _ _ _ _ _ _ _ _ _ _ _ _ _ _ _ _ _ _ _ _ _ _ _ _ _ _ _ _ _ _ _ _ _ _ _ _ _ _ _ _ _ _ _ _ _ _ _ _ _ _ _ _ _ _ _ _ _ _ _ zl yl z0 z1 z2 y0 y1 y2 GG GS hbl x0 x1 x2 kp kp2 kn kn2 ?_
          intros
          go_wp2_with fail
          go_meet
          exact ⟨rfl, by assumption⟩
    case rest =>
      obtain ⟨rfl, hb9⟩ := hcut
      obtain ⟨wf, hV⟩ : ∃ x, x = wc := ⟨_, rfl⟩
      subst hV
      have XW := X.below hb9
      have PSW := Lib.hid (GS.out.below hb9)
      have hBW : Below w.heap.size w wf := bthen2 hb9 hB
      clear hb9 hB X Z F GG GS PS HF0 HF1 HEQ z0 z1 z2 zl y0 y1 y2 yl
      iterate 5 go_step
      exact sea_rest a1 l1 c1 w wf Y1 A B M D R ok w2.heap.size ga gl gc sa sc _ _ _ _ _ _ _ _ _ _ _ _ _ _ _ _ _ _ _ _ _ _ _ _ _ _ _ _ _ _ _ _ _ _ _ _ _ _ _ _ _ _ _ _ _ _ _ _ _ _ _ _ _ _ _ _ _ _ _ _ _ _ _ _ _ _ _ _ _ _ _ _ _ _ _ _ _ _ _ _ _ _ _ _ _ _ _ _ _ _ _ _ _ _ _ _ _ _ _ _ _ _ _ _ _ _ _ _ _ _ _ _ _ _ _ _ _ _ _ _ _ _ _ _ _ _ _ _ _ _ _ _ _ _ _ _ _ _ _ _ _ _ _ _ _ _ _ _ _ _ _ _ _ _ _ _ _ _ _ _ _ _ _ _ _ _ _ _ _ _ _ _ _ _ _ _ _ _ _ _ _ _ _ _ _ _ _ _ _ _ _ _ _ _ _ _ _ _ _ _ _ _ _ _ _ _ _ _ _ _ _ _ _ _ _ _ _ _ _ _ _ _ _ _ _ _ _ _ _ _ _ _ _ _ _ _ _ _ _ _ _ _ _ _ _ _ _ _ _ _ _ _ _ _ _ _ _ _ _ _ _ _ _ _ _ _ _ _ _ _ _ _ _ _ _ _ _ _ _ _ _ _ _ _ _ _ _ _ _ _ _ _ _ _ _ _ _ _ _ _ _ _ _ _ _ _ _ _ _ _ _ _ _ _ _ _ _ _ _ _ _ _ _ _ _ _ _ _ _ _ _ _ _ _ _ _ _ _ _ _ _ _ _ hRR.out hok.out XW PSW hBW

end Go.Proofs.Ytelkmldmebdcgaa
