import Derived.Test.YtngnnkbgiligaaaEcF
import Derived.Test.YtngnnkbgiligaaaXR
set_option linter.unusedSimpArgs false
set_option linter.unusedVariables false
namespace Go.Proofs.Ytngnnkbgiligaaa
open Go.RowKit
/-! ### is a point among points? -/

def GivesIdx (p : P3) (L : List P3) (w : World) (e : Ending) (w' : World) : Prop := ∃ r : Int, e = .returned (.int .i64 r) ∧ -1 ≤ r ∧ r ≤ 1000000 ∧ (0 ≤ r ↔ p ∈ L) ∧ Below w.heap.size w w'
theorem mem_take_succ {L : List P3} {k : Nat} {q : P3} (h : L[k]? = some q) (p : P3) (hn : p ∉ L.take k) (hq : p ≠ q) : p ∉ L.take (k + 1) := by
  have hk : k < L.length := by
    rcases Nat.lt_or_ge k L.length with q | q
    · exact q
    · rw [List.getElem?_eq_none q] at h; cases h
  have e : L[k] = q := by rw [List.getElem?_eq_getElem hk] at h; exact Option.some.inj h
  rw [List.take_succ_eq_append_getElem hk, e]
  intro hm
  rcases List.mem_append.1 hm with h1 | h1
  · exact hn h1
  · exact hq (List.mem_singleton.1 h1)
set_option maxRecDepth 100000 in
set_option maxHeartbeats 4000000 in
theorem IndexP_any (x y e : Int) (L : List P3) (hL2 : L.length ≤ 1000000) (ca : Option Addr) (cl cc : Nat) (w : World) (hl : PtsR w (.slice ca cl cc) L) :
    Calls Try.prog 75 #[.slice ca cl cc, .agg #[.int .i64 x, .int .i64 y, .int .i64 e]] w (GivesIdx (x, y, e) L w) := by
  obtain ⟨ca', cc', hsl, hml, -⟩ := id hl
  obtain ⟨rfl, rfl, rfl⟩ : ca = ca' ∧ cl = L.length ∧ cc = cc' := by simpa using hsl
  have HL := Lib.hid hl
  unfold GivesIdx
  clear hsl hl hml
  go_enter Try.func75, Try.ntmps75
  go_wp2_with fail
  refine name_world (fun W1 hW1 => ?_)
  have Bp : Box W1 w.heap.size [.int .i64 x, .int .i64 y, .int .i64 e] := by subst hW1; exact box_three (by first | omega | (simp; done) | (simp; omega)) (by simp [go_sem]) (by simp [go_sem]) (by simp [go_sem]) (fun o => by simp [go_sem])
  have hB : Below w.heap.size w W1 := by subst hW1; exact (by repeat' (first | (with_reducible exact Below.refl _ _) | (with_reducible assumption) | (with_reducible refine Below.alloc ?_ ?_ _) | (with_reducible refine Below.setCell ?_ ?_ _) | (with_reducible refine Below.drew ?_) | (with_reducible refine below_drewN ?_ _) | (apply bthen2; (with_reducible assumption)) | go_size))
  clear hW1
  go_loopw [8] (fun v8 wr => ∃ k : Nat, v8 = .int .i64 k ∧ k ≤ L.length ∧ Hid ((x, y, e) ∉ L.take k) ∧ Below W1.heap.size W1 wr) (fun v8 _ => (L.length - intOf v8).toNat)
  case atStart => exact ⟨0, rfl, by omega, Lib.hid (by simp), Below.refl _ _⟩
  case round =>
    obtain ⟨k, rfl, hk, HM, hbw⟩ := hrel
    have Bw := Bp.below hbw
    have c0 := Bw.2.1 0 _ rfl; have c1 := Bw.2.1 1 _ rfl; have c2 := Bw.2.1 2 _ rfl; have cl := Bw.1
    by_cases hlt : k < L.length
    · obtain ⟨⟨px, py, pe⟩, hp⟩ : ∃ p, L[k]? = some p := ⟨_, List.getElem?_eq_getElem hlt⟩
      obtain ⟨ca2, cc2, hsl, hml, hcells⟩ := (HL.out.below hB).below hbw
      obtain ⟨b, off, ha, hbl, x0, x1, x2⟩ := hcells k _ hp
      have hca : ca = some ⟨b, off, none⟩ := by
        have : ca = ca2 := by simpa using congrArg (fun v => match v with | Value.slice a _ _ => a | _ => none) hsl
        rw [this, ha]
      subst hca
      clear hcells hsl ha
      simp only at x0 x1 x2
      have hlt' : (k : Int) < (L.length : Int) := by omega
      have HS := Lib.hid (fun hne => mem_take_succ hp (x, y, e) HM.out hne)
      have HP := Lib.hid hp
      clear hp HM
      by_cases g1 : x = px
      · by_cases g2 : y = py
        · by_cases g3 : e = pe
          · have HQ := Lib.hid (show (x, y, e) ∈ L from by rw [g1, g2, g3]; exact List.mem_of_getElem? HP.out)
            subst g1; subst g2; subst g3
            clear HS HP
            go_wp2_with fail
            (try (go_quiet (fail); go_wp2_with fail))
            go_ret
            exact ⟨k, rfl, by omega, by omega, ⟨fun _ => HQ.out, fun _ => by omega⟩, (by repeat' (first | (with_reducible exact Below.refl _ _) | (with_reducible assumption) | (with_reducible refine Below.alloc ?_ ?_ _) | (with_reducible refine Below.setCell ?_ ?_ _) | (with_reducible refine Below.drew ?_) | (with_reducible refine below_drewN ?_ _) | (apply bthen2; (with_reducible assumption)) | go_size))⟩
          · have q : (e == pe) = false := by simpa using g3
            have HN := Lib.hid (HS.out (by simp [g3]))
            subst g1; subst g2
            clear HS HP
            go_wp2_with fail
            (try (go_quiet (fail); go_wp2_with fail))
            go_roundw
            case rel => exact ⟨k + 1, rfl, by omega, HN, (by repeat' (first | (with_reducible exact Below.refl _ _) | (with_reducible assumption) | (with_reducible refine Below.alloc ?_ ?_ _) | (with_reducible refine Below.setCell ?_ ?_ _) | (with_reducible refine Below.drew ?_) | (with_reducible refine below_drewN ?_ _) | (apply bthen2; (with_reducible assumption)) | go_size))⟩
            case measure => simp [intOf]; omega
        · have q : (y == py) = false := by simpa using g2
          have HN := Lib.hid (HS.out (by simp [g2]))
          subst g1
          clear HS HP
          go_wp2_with fail
          (try (go_quiet (fail); go_wp2_with fail))
          go_roundw
          case rel => exact ⟨k + 1, rfl, by omega, HN, (by repeat' (first | (with_reducible exact Below.refl _ _) | (with_reducible assumption) | (with_reducible refine Below.alloc ?_ ?_ _) | (with_reducible refine Below.setCell ?_ ?_ _) | (with_reducible refine Below.drew ?_) | (with_reducible refine below_drewN ?_ _) | (apply bthen2; (with_reducible assumption)) | go_size))⟩
          case measure => simp [intOf]; omega
      · have q : (x == px) = false := by simpa using g1
        have HN := Lib.hid (HS.out (by simp [g1]))
        clear HS HP
        go_wp2_with fail
        (try (go_quiet (fail); go_wp2_with fail))
        go_roundw
        case rel => exact ⟨k + 1, rfl, by omega, HN, (by repeat' (first | (with_reducible exact Below.refl _ _) | (with_reducible assumption) | (with_reducible refine Below.alloc ?_ ?_ _) | (with_reducible refine Below.setCell ?_ ?_ _) | (with_reducible refine Below.drew ?_) | (with_reducible refine below_drewN ?_ _) | (apply bthen2; (with_reducible assumption)) | go_size))⟩
        case measure => simp [intOf]; omega
    · obtain rfl : k = L.length := by omega
      have HN := Lib.hid (show (x, y, e) ∉ L from by have := HM.out; rwa [List.take_length] at this)
      clear HM
      go_wp2_with fail
      go_ret
      exact ⟨-1, rfl, by omega, by omega, ⟨fun h => by omega, fun h => absurd h HN.out⟩, (by repeat' (first | (with_reducible exact Below.refl _ _) | (with_reducible assumption) | (with_reducible refine Below.alloc ?_ ?_ _) | (with_reducible refine Below.setCell ?_ ?_ _) | (with_reducible refine Below.drew ?_) | (with_reducible refine below_drewN ?_ _) | (apply bthen2; (with_reducible assumption)) | go_size))⟩

theorem ContainsP_any (x y e : Int) (L : List P3) (hL2 : L.length ≤ 1000000) (ca : Option Addr) (cl cc : Nat) (w : World) (hl : PtsR w (.slice ca cl cc) L) :
    Calls Try.prog 46 #[.slice ca cl cc, .agg #[.int .i64 x, .int .i64 y, .int .i64 e]] w (Gives (.bool (decide ((x, y, e) ∈ L))) w) := by
  have HI := Lib.hid (fun W h => IndexP_any x y e L hL2 ca cl cc W h)
  have HL := Lib.hid hl
  clear hl hL2
  by_cases hm : (x, y, e) ∈ L
  · rw [decide_eq_true hm]
    have HM := Lib.hid hm
    clear hm
    go_enter Try.func46, Try.ntmps46
    go_wp2_with fail
    refine (HI.out _ ?_).mono ?_
    · refine PtsR.below HL.out ?_; repeat' (first | (with_reducible exact Below.refl _ _) | (with_reducible assumption) | (with_reducible refine Below.alloc ?_ ?_ _) | (with_reducible refine Below.setCell ?_ ?_ _) | (with_reducible refine Below.drew ?_) | (with_reducible refine below_drewN ?_ _) | (apply bthen2; (with_reducible assumption)) | go_size)
    rintro e9 wa ⟨r, rfl, h1, h2, h3, hba⟩
    have h4 : 0 ≤ r := h3.2 HM.out
    clear h3
    go_wp2_with fail
    go_ret
    first | exact gives rfl (by repeat' (first | (with_reducible exact Below.refl _ _) | (with_reducible assumption) | (with_reducible refine Below.alloc ?_ ?_ _) | (with_reducible refine Below.setCell ?_ ?_ _) | (with_reducible refine Below.drew ?_) | (with_reducible refine below_drewN ?_ _) | (apply bthen2; (with_reducible assumption)) | go_size)) | exact gives (show Value.bool (decide (0 ≤ r)) = Value.bool true from by rw [decide_eq_true (show 0 ≤ r by omega)]) (by repeat' (first | (with_reducible exact Below.refl _ _) | (with_reducible assumption) | (with_reducible refine Below.alloc ?_ ?_ _) | (with_reducible refine Below.setCell ?_ ?_ _) | (with_reducible refine Below.drew ?_) | (with_reducible refine below_drewN ?_ _) | (apply bthen2; (with_reducible assumption)) | go_size))
  · rw [decide_eq_false hm]
    have HM := Lib.hid hm
    clear hm
    go_enter Try.func46, Try.ntmps46
    go_wp2_with fail
    refine (HI.out _ ?_).mono ?_
    · refine PtsR.below HL.out ?_; repeat' (first | (with_reducible exact Below.refl _ _) | (with_reducible assumption) | (with_reducible refine Below.alloc ?_ ?_ _) | (with_reducible refine Below.setCell ?_ ?_ _) | (with_reducible refine Below.drew ?_) | (with_reducible refine below_drewN ?_ _) | (apply bthen2; (with_reducible assumption)) | go_size)
    rintro e9 wa ⟨r, rfl, h1, h2, h3, hba⟩
    have h4 : ¬ 0 ≤ r := fun h => HM.out (h3.1 h)
    clear h3
    go_wp2_with fail
    go_ret
    first | exact gives rfl (by repeat' (first | (with_reducible exact Below.refl _ _) | (with_reducible assumption) | (with_reducible refine Below.alloc ?_ ?_ _) | (with_reducible refine Below.setCell ?_ ?_ _) | (with_reducible refine Below.drew ?_) | (with_reducible refine below_drewN ?_ _) | (apply bthen2; (with_reducible assumption)) | go_size)) | exact gives (show Value.bool (decide (0 ≤ r)) = Value.bool false from by rw [decide_eq_false (show ¬ 0 ≤ r by omega)]) (by repeat' (first | (with_reducible exact Below.refl _ _) | (with_reducible assumption) | (with_reducible refine Below.alloc ?_ ?_ _) | (with_reducible refine Below.setCell ?_ ?_ _) | (with_reducible refine Below.drew ?_) | (with_reducible refine below_drewN ?_ _) | (apply bthen2; (with_reducible assumption)) | go_size))

def itV (a b x y e : Int) : Value := if ptB a b x y e then .tuple #[.bool (ordV a (x, y, e)).2, .bool true] else .tuple #[.bool false, .bool false]
theorem ptB_PV {a b x y e : Int} (h : ptB a b x y e = true) : isC a b = true ∧ EC.PV a b (x, y, e) := by
  unfold ptB at h
  simp only [Bool.and_eq_true, Bool.or_eq_true, decide_eq_true_eq, inB_iff] at h
  refine ⟨h.1, ?_⟩
  rcases h.2 with ⟨rfl, rfl, rfl⟩ | ⟨⟨⟨h1, h2⟩, h3⟩, h4⟩
  · exact .inl rfl
  · exact .inr ⟨h1.1, h1.2, h2.1, h2.2, h3, h4⟩
set_option maxHeartbeats 2000000 in
theorem sIsTorsionPoint_any (a b x y e : Int) (w : World) : Calls Try.prog 11 #[.agg #[.int .i64 a, .int .i64 b], .agg #[.int .i64 x, .int .i64 y, .int .i64 e]] w (Gives (itV a b x y e) w) := by
  have HF := Lib.hid (fun w => IsPointOf_any a b x y e w)
  unfold itV
  cases g1 : ptB a b x y e
  · rw [g1] at HF
    go_enter Try.func11, Try.ntmps11
    go_wp2_with (first | (go_at_call 43; refine (HF.out _).mono ?_; rintro e wa ⟨rfl, hba⟩; have hza := hba.size; (try simp only [World.size_alloc, World.size_setCell, World.size_drew, World.heap_drewN] at hza); try (refine keepc hba (w.heap.size) ?_ ?_; (focus (first | omega | (simp <;> omega))); intro hca_0 hfa_0 hla_0); try (refine keepc hba (w.heap.size + 1) ?_ ?_; (focus (first | omega | (simp <;> omega))); intro hca_1 hfa_1 hla_1); try (refine keepc hba (w.heap.size + 1 + 1) ?_ ?_; (focus (first | omega | (simp <;> omega))); intro hca_2 hfa_2 hla_2)))
    go_ret2
    exact gives rfl (by repeat' (first | (with_reducible exact Below.refl _ _) | (with_reducible assumption) | (with_reducible refine Below.alloc ?_ ?_ _) | (with_reducible refine Below.setCell ?_ ?_ _) | (with_reducible refine Below.drew ?_) | (with_reducible refine below_drewN ?_ _) | (apply bthen2; (with_reducible assumption)) | go_size))
  · obtain ⟨hC, hp⟩ := ptB_PV g1
    rw [g1] at HF
    rw [if_pos rfl]
    have HO := Lib.hid (fun W => ptOrder_any a b x y e hC hp W)
    generalize ordV a (x, y, e) = R at *
    clear hC hp g1
    go_enter Try.func11, Try.ntmps11
    go_wp2_with fail
    refine (HF.out _).mono ?_
    rintro e wa ⟨rfl, hba⟩; have hza := hba.size; (try simp only [World.size_alloc, World.size_setCell, World.size_drew, World.heap_drewN] at hza); try (refine keepc hba (w.heap.size) ?_ ?_; (focus (first | omega | (simp <;> omega))); intro hca_0 hfa_0 hla_0); try (refine keepc hba (w.heap.size + 1) ?_ ?_; (focus (first | omega | (simp <;> omega))); intro hca_1 hfa_1 hla_1); try (refine keepc hba (w.heap.size + 1 + 1) ?_ ?_; (focus (first | omega | (simp <;> omega))); intro hca_2 hfa_2 hla_2)
    go_wp2_with fail
    refine (HO.out _).mono ?_
    rintro e wb ⟨rfl, hbb⟩; have hzb := hbb.size; (try simp only [World.size_alloc, World.size_setCell, World.size_drew, World.heap_drewN] at hzb); try (refine keepc hbb (w.heap.size) ?_ ?_; (focus (first | omega | (simp <;> omega))); intro hcb_0 hfb_0 hlb_0); try (refine keepc hbb (w.heap.size + 1) ?_ ?_; (focus (first | omega | (simp <;> omega))); intro hcb_1 hfb_1 hlb_1); try (refine keepc hbb (w.heap.size + 1 + 1) ?_ ?_; (focus (first | omega | (simp <;> omega))); intro hcb_2 hfb_2 hlb_2)
    go_wp2_with fail
    go_ret2
    exact gives rfl (by repeat' (first | (with_reducible exact Below.refl _ _) | (with_reducible assumption) | (with_reducible refine Below.alloc ?_ ?_ _) | (with_reducible refine Below.setCell ?_ ?_ _) | (with_reducible refine Below.drew ?_) | (with_reducible refine below_drewN ?_ _) | (apply bthen2; (with_reducible assumption)) | go_size))
set_option maxHeartbeats 4000000 in
theorem IsTorsionPoint_any (a b x y e : Int) (w : World) : Calls Try.prog 14 #[.agg #[.int .i64 a, .int .i64 b], .agg #[.int .i64 x, .int .i64 y, .int .i64 e]] w (Gives (itV a b x y e) w) := by
  have HF := Lib.hid (fun w => isPoint_any a b x y e w)
  unfold itV
  cases g1 : ptB a b x y e
  · rw [g1] at HF
    go_enter Try.func14, Try.ntmps14
    go_wp2_with (first | (go_at_call 45; refine (HF.out _).mono ?_; rintro e wa ⟨rfl, hba⟩; have hza := hba.size; (try simp only [World.size_alloc, World.size_setCell, World.size_drew, World.heap_drewN] at hza); try (refine keepc hba (w.heap.size) ?_ ?_; (focus (first | omega | (simp <;> omega))); intro hca_0 hfa_0 hla_0); try (refine keepc hba (w.heap.size + 1) ?_ ?_; (focus (first | omega | (simp <;> omega))); intro hca_1 hfa_1 hla_1); try (refine keepc hba (w.heap.size + 1 + 1) ?_ ?_; (focus (first | omega | (simp <;> omega))); intro hca_2 hfa_2 hla_2)))
    go_ret2
    exact gives rfl (by repeat' (first | (with_reducible exact Below.refl _ _) | (with_reducible assumption) | (with_reducible refine Below.alloc ?_ ?_ _) | (with_reducible refine Below.setCell ?_ ?_ _) | (with_reducible refine Below.drew ?_) | (with_reducible refine below_drewN ?_ _) | (apply bthen2; (with_reducible assumption)) | go_size))
  · obtain ⟨hC, hp⟩ := ptB_PV g1
    rw [g1] at HF
    rw [if_pos rfl]
    have HT := Lib.hid (fun W => torsionPoints_any a b hC W)
    have HK := Lib.hid (fun ca cl cc W h => ContainsP_any x y e (tps a b) (by have := tps_len a b; omega) ca cl cc W h)
    have hm : decide ((x, y, e) ∈ tps a b) = (ordV a (x, y, e)).2 := by rw [Bool.eq_iff_iff, decide_eq_true_eq]; exact mem_tps hC hp
    rw [hm] at HK
    clear hm
    generalize tps a b = L at *
    generalize (ordV a (x, y, e)).2 = R at *
    clear hC hp g1
    go_enter Try.func14, Try.ntmps14
    go_wp2_with fail
    refine (HF.out _).mono ?_
    rintro e9 wa ⟨rfl, hba⟩
    have Bc := Box.below (show Box _ w.heap.size [.int .i64 a, .int .i64 b] from Box.alloc (box_made2 _ _ _ _) _) hba
    have Bp := Box.below (show Box _ (w.heap.size + 1) [.int .i64 x, .int .i64 y, .int .i64 e] from box_three (by simp) (by simp [go_sem]) (by simp [go_sem]) (by simp [go_sem]) (fun o => by simp [go_sem])) hba
    have hB : Below w.heap.size w wa := bthen2 hba (by repeat' (first | (with_reducible exact Below.refl _ _) | (with_reducible assumption) | (with_reducible refine Below.alloc ?_ ?_ _) | (with_reducible refine Below.setCell ?_ ?_ _) | (with_reducible refine Below.drew ?_) | (with_reducible refine below_drewN ?_ _) | (apply bthen2; (with_reducible assumption)) | go_size))
    have z0 := Bc.2.1 0 _ rfl; have z1 := Bc.2.1 1 _ rfl; have zl := Bc.1
    have y0 := Bp.2.1 0 _ rfl; have y1 := Bp.2.1 1 _ rfl; have y2 := Bp.2.1 2 _ rfl; have yl := Bp.1
    go_upto_region 3 with fail
    go_region_held3 (fun w' => Below wa.heap.size wa w' ∧ w'.cell? ⟨w.heap.size, 0, none⟩ = some (.int .i64 a) ∧ w'.cell? ⟨w.heap.size, 1, none⟩ = some (.int .i64 b) ∧ w'.cell? ⟨w.heap.size + 1, 0, none⟩ = some (.int .i64 x) ∧ w'.cell? ⟨w.heap.size + 1, 1, none⟩ = some (.int .i64 y) ∧ w'.cell? ⟨w.heap.size + 1, 2, none⟩ = some (.int .i64 e)) ((refine (fun hbK => And.intro hbK (by exact ⟨(hbK.cell (p := ⟨w.heap.size, 0, none⟩) (by first | assumption | omega | (simp; omega))).trans z0, (hbK.cell (p := ⟨w.heap.size, 1, none⟩) (by first | assumption | omega | (simp; omega))).trans z1, (hbK.cell (p := ⟨w.heap.size + 1, 0, none⟩) (by first | assumption | omega | (simp; omega))).trans y0, (hbK.cell (p := ⟨w.heap.size + 1, 1, none⟩) (by first | assumption | omega | (simp; omega))).trans y1, (hbK.cell (p := ⟨w.heap.size + 1, 2, none⟩) (by first | assumption | omega | (simp; omega))).trans y2⟩)) ?_; repeat' (first | (with_reducible exact Below.refl _ _) | (with_reducible assumption) | (with_reducible refine Below.alloc ?_ ?_ _) | (with_reducible refine Below.setCell ?_ ?_ _) | (with_reducible refine Below.drew ?_) | (with_reducible refine below_drewN ?_ _) | (apply bthen2; (with_reducible assumption)) | go_size))) ((first | (go_at_call 47; refine (HT.out _).mono ?_; rintro e9 wf ⟨a3, l3, c3, rfl, ho3, hbf⟩; have PT := ho3.pts) | (go_at_call 46; refine (HK.out _ _ _ _ ?_).mono ?_; (focus (refine PtsR.below PT ?_; repeat' (first | (with_reducible exact Below.refl _ _) | (with_reducible assumption) | (with_reducible refine Below.alloc ?_ ?_ _) | (with_reducible refine Below.setCell ?_ ?_ _) | (with_reducible refine Below.drew ?_) | (with_reducible refine below_drewN ?_ _) | (apply bthen2; (with_reducible assumption)) | go_size))); rintro e9 wg ⟨rfl, hbg⟩)))
    go_wp2_with fail
    go_ret2
    exact gives rfl (by apply bthen hB; repeat' (first | (with_reducible exact Below.refl _ _) | (with_reducible assumption) | (with_reducible refine Below.alloc ?_ ?_ _) | (with_reducible refine Below.setCell ?_ ?_ _) | (with_reducible refine Below.drew ?_) | (with_reducible refine below_drewN ?_ _) | (apply bthen2; (with_reducible assumption)) | go_size))

set_option maxHeartbeats 4000000 in
theorem walk_FnExactIsTorsionPoint (a b x y e : Int) (w : World) (_w_a : (Lit.int .i64 a).wf = true) (_w_b : (Lit.int .i64 b).wf = true) (_w_x : (Lit.int .i64 x).wf = true) (_w_y : (Lit.int .i64 y).wf = true) (_w_e : (Lit.int .i64 e).wf = true) : Calls Try.prog 3 #[.agg #[.int .i64 a, .int .i64 b], .agg #[.int .i64 x, .int .i64 y, .int .i64 e]] w (Gives (.bool true) w) := by
  have HS := Lib.hid (fun W => sIsTorsionPoint_any a b x y e W)
  have HI := Lib.hid (fun W => IsTorsionPoint_any a b x y e W)
  have HC := Lib.hid (fun W => toCurve_any a b W)
  have HP := Lib.hid (fun W => toPoint_any x y e W)
  obtain ⟨r0, r1, hv⟩ : ∃ r0 r1, itV a b x y e = .tuple #[.bool r0, .bool r1] := by unfold itV; split <;> exact ⟨_, _, rfl⟩
  rw [hv] at HS HI
  clear hv
  go_enter Try.func3, Try.ntmps3
  go_upto_region 1 with fail
  refine name_world (fun V0 hV0 => ?_)
  have B1 : Box V0 (w.heap.size) [.int .i64 a, .int .i64 b] := by subst hV0; exact box_two (by first | omega | (simp; done) | (simp; omega)) (by simp [go_sem]) (by simp [go_sem]) (fun o => by simp [go_sem])
  have B2 : Box V0 (w.heap.size + 1) [.int .i64 x, .int .i64 y, .int .i64 e] := by subst hV0; exact box_three (by first | omega | (simp; done) | (simp; omega)) (by simp [go_sem]) (by simp [go_sem]) (by simp [go_sem]) (fun o => by simp [go_sem])
  have hB : Below w.heap.size w V0 := by subst hV0; exact (by repeat' (first | (with_reducible exact Below.refl _ _) | (with_reducible assumption) | (with_reducible refine Below.alloc ?_ ?_ _) | (with_reducible refine Below.setCell ?_ ?_ _) | (with_reducible refine Below.drew ?_) | (with_reducible refine below_drewN ?_ _) | (apply bthen2; (with_reducible assumption)) | go_size))
  clear hV0
  have z0 := B1.2.1 0 _ rfl; have z1 := B1.2.1 1 _ rfl; have zl := B1.1
  have y0 := B2.2.1 0 _ rfl; have y1 := B2.2.1 1 _ rfl; have y2 := B2.2.1 2 _ rfl; have yl := B2.1
  go_region_held3 (fun w' => Below V0.heap.size V0 w' ∧ w'.cell? ⟨w.heap.size, 0, none⟩ = some (.int .i64 a) ∧ w'.cell? ⟨w.heap.size, 1, none⟩ = some (.int .i64 b) ∧ w'.cell? ⟨w.heap.size + 1, 0, none⟩ = some (.int .i64 x) ∧ w'.cell? ⟨w.heap.size + 1, 1, none⟩ = some (.int .i64 y) ∧ w'.cell? ⟨w.heap.size + 1, 2, none⟩ = some (.int .i64 e)) ((refine (fun hbK => And.intro hbK (by exact ⟨(hbK.cell (p := ⟨w.heap.size, 0, none⟩) (by first | assumption | omega | (simp; omega))).trans z0, (hbK.cell (p := ⟨w.heap.size, 1, none⟩) (by first | assumption | omega | (simp; omega))).trans z1, (hbK.cell (p := ⟨w.heap.size + 1, 0, none⟩) (by first | assumption | omega | (simp; omega))).trans y0, (hbK.cell (p := ⟨w.heap.size + 1, 1, none⟩) (by first | assumption | omega | (simp; omega))).trans y1, (hbK.cell (p := ⟨w.heap.size + 1, 2, none⟩) (by first | assumption | omega | (simp; omega))).trans y2⟩)) ?_; repeat' (first | (with_reducible exact Below.refl _ _) | (with_reducible assumption) | (with_reducible refine Below.alloc ?_ ?_ _) | (with_reducible refine Below.setCell ?_ ?_ _) | (with_reducible refine Below.drew ?_) | (with_reducible refine below_drewN ?_ _) | (apply bthen2; (with_reducible assumption)) | go_size))) ((first | (go_at_call 12; refine (HC.out _).mono ?_; rintro e9 wf ⟨rfl, hbf⟩) | (go_at_call 13; refine (HP.out _).mono ?_; rintro e9 wg ⟨rfl, hbg⟩) | (go_at_call 11; refine (HS.out _).mono ?_; rintro e9 wh ⟨rfl, hbh⟩)))
  go_upto_region 2 with fail
  refine name_world (fun V1 hV1 => ?_)
  have hb1 : Below V0.heap.size V0 V1 := by subst hV1; repeat' (first | (with_reducible exact Below.refl _ _) | (with_reducible assumption) | (with_reducible refine Below.alloc ?_ ?_ _) | (with_reducible refine Below.setCell ?_ ?_ _) | (with_reducible refine Below.drew ?_) | (with_reducible refine below_drewN ?_ _) | (apply bthen2; (with_reducible assumption)) | go_size)
  have C1 := B1.below hb1; have C2 := B2.below hb1
  have hB1 := bthen2 hb1 hB
  clear hV1 z0 z1 zl y0 y1 y2 yl hbf hbg hbh
  have z0 := C1.2.1 0 _ rfl; have z1 := C1.2.1 1 _ rfl; have zl := C1.1
  have y0 := C2.2.1 0 _ rfl; have y1 := C2.2.1 1 _ rfl; have y2 := C2.2.1 2 _ rfl; have yl := C2.1
  go_region_held3 (fun w' => Below V1.heap.size V1 w' ∧ w'.cell? ⟨w.heap.size, 0, none⟩ = some (.int .i64 a) ∧ w'.cell? ⟨w.heap.size, 1, none⟩ = some (.int .i64 b) ∧ w'.cell? ⟨w.heap.size + 1, 0, none⟩ = some (.int .i64 x) ∧ w'.cell? ⟨w.heap.size + 1, 1, none⟩ = some (.int .i64 y) ∧ w'.cell? ⟨w.heap.size + 1, 2, none⟩ = some (.int .i64 e)) ((refine (fun hbK => And.intro hbK (by exact ⟨(hbK.cell (p := ⟨w.heap.size, 0, none⟩) (by first | assumption | omega | (simp; omega))).trans z0, (hbK.cell (p := ⟨w.heap.size, 1, none⟩) (by first | assumption | omega | (simp; omega))).trans z1, (hbK.cell (p := ⟨w.heap.size + 1, 0, none⟩) (by first | assumption | omega | (simp; omega))).trans y0, (hbK.cell (p := ⟨w.heap.size + 1, 1, none⟩) (by first | assumption | omega | (simp; omega))).trans y1, (hbK.cell (p := ⟨w.heap.size + 1, 2, none⟩) (by first | assumption | omega | (simp; omega))).trans y2⟩)) ?_; repeat' (first | (with_reducible exact Below.refl _ _) | (with_reducible assumption) | (with_reducible refine Below.alloc ?_ ?_ _) | (with_reducible refine Below.setCell ?_ ?_ _) | (with_reducible refine Below.drew ?_) | (with_reducible refine below_drewN ?_ _) | (apply bthen2; (with_reducible assumption)) | go_size))) ((first | (go_at_call 12; refine (HC.out _).mono ?_; rintro e9 wi ⟨rfl, hbi⟩) | (go_at_call 13; refine (HP.out _).mono ?_; rintro e9 wj ⟨rfl, hbj⟩) | (go_at_call 14; refine (HI.out _).mono ?_; rintro e9 wk ⟨rfl, hbk⟩)))
  go_wp2
  go_ret
  exact gives rfl (by apply bthen hB1; repeat' (first | (with_reducible exact Below.refl _ _) | (with_reducible assumption) | (with_reducible refine Below.alloc ?_ ?_ _) | (with_reducible refine Below.setCell ?_ ?_ _) | (with_reducible refine Below.drew ?_) | (with_reducible refine below_drewN ?_ _) | (apply bthen2; (with_reducible assumption)) | go_size))

set_option maxRecDepth 100000 in
set_option maxHeartbeats 4000000 in
theorem pSamePoints_same (s t : Value) (ps : List P3) (w : World) (hs : PtsR w s ps) (ht : PtsR w t ps) : Calls Try.prog 19 #[s, t] w (Gives (.bool true) w) := by
  obtain ⟨a, cap, rfl, hl, hc⟩ := hs
  obtain ⟨a2, cap2, rfl, hl2, hc2⟩ := ht
  have HC := Lib.hid hc; have HC2 := Lib.hid hc2
  clear hc hc2
  go_enter Try.func19, Try.ntmps19
  go_wp2_with fail
  go_loopw [13] (fun v13 wr => ∃ k : Nat, v13 = .int .i64 k ∧ k ≤ ps.length ∧ Below w.heap.size w wr) (fun v13 _ => (ps.length - intOf v13).toNat)
  case atStart => exact ⟨0, rfl, by omega, Below.refl _ _⟩
  case round =>
    obtain ⟨k, rfl, hk, hbw⟩ := hrel
    by_cases hlt : k < ps.length
    · obtain ⟨⟨px, py, pe⟩, hp⟩ : ∃ p, ps[k]? = some p := ⟨_, List.getElem?_eq_getElem hlt⟩
      obtain ⟨b, off, ha, hbl, x0, x1, x2⟩ := HC.out k _ hp
      obtain ⟨b2, off2, ha2, hbl2, y0, y1, y2⟩ := HC2.out k _ hp
      subst ha; subst ha2
      simp only at x0 x1 x2 y0 y1 y2
      have e0 := (hbw.cell (p := ⟨b, _, none⟩) hbl).trans x0
      have e1 := (hbw.cell (p := ⟨b, _, none⟩) hbl).trans x1
      have e2 := (hbw.cell (p := ⟨b, _, none⟩) hbl).trans x2
      have f0 := (hbw.cell (p := ⟨b2, _, none⟩) hbl2).trans y0
      have f1 := (hbw.cell (p := ⟨b2, _, none⟩) hbl2).trans y1
      have f2 := (hbw.cell (p := ⟨b2, _, none⟩) hbl2).trans y2
      have hlt' : (k : Int) < (ps.length : Int) := by omega
      clear hp HC HC2 x0 x1 x2 y0 y1 y2
      go_wp2_with fail
      (try (go_quiet (fail); go_wp2_with fail))
      go_roundw
      case rel => exact ⟨k + 1, rfl, by omega, (by repeat' (first | (with_reducible exact Below.refl _ _) | (with_reducible assumption) | (with_reducible refine Below.alloc ?_ ?_ _) | (with_reducible refine Below.setCell ?_ ?_ _) | (with_reducible refine Below.drew ?_) | (with_reducible refine below_drewN ?_ _) | (apply bthen2; (with_reducible assumption)) | go_size))⟩
      case measure => simp [intOf]; omega
    · obtain rfl : k = ps.length := by omega
      go_wp2_with fail
      go_ret
      exact gives rfl (by repeat' (first | (with_reducible exact Below.refl _ _) | (with_reducible assumption) | (with_reducible refine Below.alloc ?_ ?_ _) | (with_reducible refine Below.setCell ?_ ?_ _) | (with_reducible refine Below.drew ?_) | (with_reducible refine below_drewN ?_ _) | (apply bthen2; (with_reducible assumption)) | go_size))

theorem iIsPointOf_any (a b x y e : Int) (w : World) : Calls Try.prog 20 #[.agg #[.int .i64 a, .int .i64 b], .agg #[.int .i64 x, .int .i64 y, .int .i64 e]] w (Gives (.bool (ptB a b x y e)) w) := by
  have HF := Lib.hid (fun w => isPoint_any a b x y e w)
  generalize ptB a b x y e = R at *
  go_enter Try.func20, Try.ntmps20
  go_wp2_with (first | (go_at_call 45; refine (HF.out _).mono ?_; rintro e wa ⟨rfl, hba⟩; have hza := hba.size; (try simp only [World.size_alloc, World.size_setCell, World.size_drew, World.heap_drewN] at hza); try (refine keepc hba (w.heap.size) ?_ ?_; (focus (first | omega | (simp <;> omega))); intro hca_0 hfa_0 hla_0); try (refine keepc hba (w.heap.size + 1) ?_ ?_; (focus (first | omega | (simp <;> omega))); intro hca_1 hfa_1 hla_1); try (refine keepc hba (w.heap.size + 1 + 1) ?_ ?_; (focus (first | omega | (simp <;> omega))); intro hca_2 hfa_2 hla_2)))
  go_ret
  exact gives rfl (by repeat' (first | (with_reducible exact Below.refl _ _) | (with_reducible assumption) | (with_reducible refine Below.alloc ?_ ?_ _) | (with_reducible refine Below.setCell ?_ ?_ _) | (with_reducible refine Below.drew ?_) | (with_reducible refine below_drewN ?_ _) | (apply bthen2; (with_reducible assumption)) | go_size))

def opV (a b x y e : Int) : Value := if ptB a b x y e then .tuple #[.int .i64 (ordV a (x, y, e)).1, .bool (ordV a (x, y, e)).2] else .tuple #[.int .i64 0, .bool false]
set_option maxHeartbeats 2000000 in
theorem OrderOfPoint_any (a b x y e : Int) (w : World) : Calls Try.prog 21 #[.agg #[.int .i64 a, .int .i64 b], .agg #[.int .i64 x, .int .i64 y, .int .i64 e]] w (Gives (opV a b x y e) w) := by
  have HF := Lib.hid (fun w => isPoint_any a b x y e w)
  unfold opV
  cases g1 : ptB a b x y e
  · rw [g1] at HF
    go_enter Try.func21, Try.ntmps21
    go_wp2_with (first | (go_at_call 45; refine (HF.out _).mono ?_; rintro e wa ⟨rfl, hba⟩; have hza := hba.size; (try simp only [World.size_alloc, World.size_setCell, World.size_drew, World.heap_drewN] at hza); try (refine keepc hba (w.heap.size) ?_ ?_; (focus (first | omega | (simp <;> omega))); intro hca_0 hfa_0 hla_0); try (refine keepc hba (w.heap.size + 1) ?_ ?_; (focus (first | omega | (simp <;> omega))); intro hca_1 hfa_1 hla_1); try (refine keepc hba (w.heap.size + 1 + 1) ?_ ?_; (focus (first | omega | (simp <;> omega))); intro hca_2 hfa_2 hla_2)))
    go_ret2
    exact gives rfl (by repeat' (first | (with_reducible exact Below.refl _ _) | (with_reducible assumption) | (with_reducible refine Below.alloc ?_ ?_ _) | (with_reducible refine Below.setCell ?_ ?_ _) | (with_reducible refine Below.drew ?_) | (with_reducible refine below_drewN ?_ _) | (apply bthen2; (with_reducible assumption)) | go_size))
  · obtain ⟨hC, hp⟩ := ptB_PV g1
    rw [g1] at HF
    rw [if_pos rfl]
    have HO := Lib.hid (fun W => orderOfPoint_any a b x y e hC hp W)
    generalize ordV a (x, y, e) = R at *
    clear hC hp g1
    go_enter Try.func21, Try.ntmps21
    go_wp2_with fail
    refine (HF.out _).mono ?_
    rintro e wa ⟨rfl, hba⟩; have hza := hba.size; (try simp only [World.size_alloc, World.size_setCell, World.size_drew, World.heap_drewN] at hza); try (refine keepc hba (w.heap.size) ?_ ?_; (focus (first | omega | (simp <;> omega))); intro hca_0 hfa_0 hla_0); try (refine keepc hba (w.heap.size + 1) ?_ ?_; (focus (first | omega | (simp <;> omega))); intro hca_1 hfa_1 hla_1); try (refine keepc hba (w.heap.size + 1 + 1) ?_ ?_; (focus (first | omega | (simp <;> omega))); intro hca_2 hfa_2 hla_2)
    go_wp2_with fail
    refine (HO.out _).mono ?_
    rintro e wb ⟨rfl, hbb⟩; have hzb := hbb.size; (try simp only [World.size_alloc, World.size_setCell, World.size_drew, World.heap_drewN] at hzb); try (refine keepc hbb (w.heap.size) ?_ ?_; (focus (first | omega | (simp <;> omega))); intro hcb_0 hfb_0 hlb_0); try (refine keepc hbb (w.heap.size + 1) ?_ ?_; (focus (first | omega | (simp <;> omega))); intro hcb_1 hfb_1 hlb_1); try (refine keepc hbb (w.heap.size + 1 + 1) ?_ ?_; (focus (first | omega | (simp <;> omega))); intro hcb_2 hfb_2 hlb_2)
    go_wp2_with fail
    go_ret2
    exact gives rfl (by repeat' (first | (with_reducible exact Below.refl _ _) | (with_reducible assumption) | (with_reducible refine Below.alloc ?_ ?_ _) | (with_reducible refine Below.setCell ?_ ?_ _) | (with_reducible refine Below.drew ?_) | (with_reducible refine below_drewN ?_ _) | (apply bthen2; (with_reducible assumption)) | go_size))

theorem PV_ptB {a b x y e : Int} (hC : isC a b = true) (h : EC.PV a b (x, y, e)) : ptB a b x y e = true := by
  unfold ptB
  rw [hC, Bool.true_and]
  rcases h with h | ⟨h1, h2, h3, h4, h5, h6⟩
  · simp only [Prod.mk.injEq] at h
    simp [h.1, h.2.1, h.2.2]
  · simp only at h1 h2 h3 h4 h5 h6
    rw [inB_t h1 h2, inB_t h3 h4, decide_eq_true h5, decide_eq_true h6]
    simp
set_option maxRecDepth 100000 in
set_option maxHeartbeats 8000000 in
theorem walk_FnTorsionExact (a b x y e : Int) (w : World) (_w_a : (Lit.int .i64 a).wf = true) (_w_b : (Lit.int .i64 b).wf = true) (_w_x : (Lit.int .i64 x).wf = true) (_w_y : (Lit.int .i64 y).wf = true) (_w_e : (Lit.int .i64 e).wf = true) : Calls Try.prog 5 #[.agg #[.int .i64 a, .int .i64 b], .agg #[.int .i64 x, .int .i64 y, .int .i64 e]] w (Gives (.bool true) w) := by
  have HS := Lib.hid (fun W => sTorsionPoints_any a b W)
  have HI := Lib.hid (fun W => TorsionPoints_any a b W)
  have HP := Lib.hid (fun u v t W => iIsPointOf_any a b u v t W)
  have HO := Lib.hid (fun W => OrderOfPoint_any a b x y e W)
  have HE := Lib.hid (fun s t ps W h h' => pSamePoints_same s t ps W h h')
  have hlen := tpPs_len a b
  have HM := Lib.hid (show ∀ p ∈ tpPs a b, ptB a b p.1 p.2.1 p.2.2 = true from by
    intro p hp
    unfold tpPs at hp
    split at hp
    · rename_i hC
      exact PV_ptB hC (tps_PV hC p hp)
    · cases hp)
  have HT := Lib.hid (show ptB a b x y e = true → (ordV a (x, y, e)).2 = decide ((x, y, e) ∈ tpPs a b) from by
    intro h
    obtain ⟨hC, hp⟩ := ptB_PV h
    have := mem_tps hC hp
    unfold tpPs
    rw [if_pos hC, Bool.eq_iff_iff, decide_eq_true_eq]
    exact this.symm)
  generalize tpPs a b = R at *
  cases g : isC a b
  · rw [g] at HS HI
    clear HM HT HP HO g
    go_enter Try.func5, Try.ntmps5
    go_wp2_with fail
    refine (HI.out _).mono ?_; rintro e9 wa ⟨ga, gl, gc, rfl, owna, hba⟩
    have hza := hba.size; (try simp only [World.size_alloc, World.size_setCell, World.size_drew, World.heap_drewN] at hza); try (refine keepc hba (w.heap.size) ?_ ?_; (focus (first | omega | (simp <;> omega))); intro hca_0 hfa_0 hla_0); try (refine keepc hba (w.heap.size + 1) ?_ ?_; (focus (first | omega | (simp <;> omega))); intro hca_1 hfa_1 hla_1); try (refine keepc hba (w.heap.size + 1 + 1) ?_ ?_; (focus (first | omega | (simp <;> omega))); intro hca_2 hfa_2 hla_2)
    go_wp2_with fail
    refine (HS.out _).mono ?_; rintro e9 wb ⟨sa, sl, sc, rfl, ownb, hbb⟩
    have hzb := hbb.size; (try simp only [World.size_alloc, World.size_setCell, World.size_drew, World.heap_drewN] at hzb); try (refine keepc hbb (w.heap.size) ?_ ?_; (focus (first | omega | (simp <;> omega))); intro hcb_0 hfb_0 hlb_0); try (refine keepc hbb (w.heap.size + 1) ?_ ?_; (focus (first | omega | (simp <;> omega))); intro hcb_1 hfb_1 hlb_1); try (refine keepc hbb (w.heap.size + 1 + 1) ?_ ?_; (focus (first | omega | (simp <;> omega))); intro hcb_2 hfb_2 hlb_2)
    go_wp2_with fail
    refine (HE.out _ _ R _ ?_ ?_).mono ?_
    · refine PtsR.below owna.pts ?_; repeat' (first | (with_reducible exact Below.refl _ _) | (with_reducible assumption) | (with_reducible refine Below.alloc ?_ ?_ _) | (with_reducible refine Below.setCell ?_ ?_ _) | (with_reducible refine Below.drew ?_) | (with_reducible refine below_drewN ?_ _) | (apply bthen2; (with_reducible assumption)) | go_size)
    · refine PtsR.below ownb.pts ?_; repeat' (first | (with_reducible exact Below.refl _ _) | (with_reducible assumption) | (with_reducible refine Below.alloc ?_ ?_ _) | (with_reducible refine Below.setCell ?_ ?_ _) | (with_reducible refine Below.drew ?_) | (with_reducible refine below_drewN ?_ _) | (apply bthen2; (with_reducible assumption)) | go_size)
    rintro e9 wc ⟨rfl, hbc⟩
    go_wp2_with fail
    go_ret
    exact gives rfl (by repeat' (first | (with_reducible exact Below.refl _ _) | (with_reducible assumption) | (with_reducible refine Below.alloc ?_ ?_ _) | (with_reducible refine Below.setCell ?_ ?_ _) | (with_reducible refine Below.drew ?_) | (with_reducible refine below_drewN ?_ _) | (apply bthen2; (with_reducible assumption)) | go_size))
  · rw [g] at HS HI
    clear g
    go_enter Try.func5, Try.ntmps5
    go_wp2_with fail
    refine (HI.out _).mono ?_; rintro e9 wa ⟨ga, gl, gc, rfl, owna, hba⟩
    have Bc1 := Box.below (show Box _ w.heap.size [.int .i64 a, .int .i64 b] from Box.alloc (box_made2 _ _ _ _) _) hba
    have Bp1 := Box.below (show Box _ (w.heap.size + 1) [.int .i64 x, .int .i64 y, .int .i64 e] from box_three (by simp) (by simp [go_sem]) (by simp [go_sem]) (by simp [go_sem]) (fun o => by simp [go_sem])) hba
    have hB1 : Below w.heap.size w wa := bthen2 hba (by repeat' (first | (with_reducible exact Below.refl _ _) | (with_reducible assumption) | (with_reducible refine Below.alloc ?_ ?_ _) | (with_reducible refine Below.setCell ?_ ?_ _) | (with_reducible refine Below.drew ?_) | (with_reducible refine below_drewN ?_ _) | (apply bthen2; (with_reducible assumption)) | go_size))
    have c0 := Bc1.2.1 0 _ rfl; have c1 := Bc1.2.1 1 _ rfl; have cl := Bc1.1
    go_wp2_with fail
    refine (HS.out _).mono ?_; rintro e9 wb ⟨sa, sl, sc, rfl, ownb, hbb⟩
    have Bc2 := Bc1.below hbb; have Bp2 := Bp1.below hbb
    have hB2 := bthen2 hbb hB1
    have PA := owna.pts.below hbb
    clear c0 c1 cl
    go_wp2_with fail
    refine (HE.out _ _ R _ ?_ ?_).mono ?_
    · exact PA
    · exact ownb.pts
    rintro e9 wc ⟨rfl, hbc⟩
    have Bc := Bc2.below hbc; have Bp := Bp2.below hbc
    have hB := bthen2 hbc hB2
    have PT := PA.below hbc
    obtain ⟨ca', cc', hsl, hml, -⟩ := id PT
    obtain ⟨rfl, rfl, rfl⟩ : ga = ca' ∧ gl = R.length ∧ gc = cc' := by simpa using hsl
    clear hsl hml PA owna ownb Bc1 Bp1 Bc2 Bp2 HS HI HE hba hbb hbc hB1 hB2
    have HL := Lib.hid PT
    clear PT
    go_wp2_with fail
    go_loopw [9, 37] (fun v9 v37 wr => ∃ k : Nat, v37 = .int .i64 k ∧ k ≤ R.length ∧ v9 = .bool (decide ((x, y, e) ∈ R.take k)) ∧ Below wc.heap.size wc wr) (fun _ v37 _ => (R.length - intOf v37).toNat)
    case atStart => exact ⟨0, rfl, by omega, by simp, Below.refl _ _⟩
    case round =>
      obtain ⟨k, rfl, hk, rfl, hbw⟩ := hrel
      have hzw := hbw.size
      have Bcw := Bc.below hbw; have Bpw := Bp.below hbw
      have c0 := Bcw.2.1 0 _ rfl; have c1 := Bcw.2.1 1 _ rfl; have cl := Bcw.1
      have p0 := Bpw.2.1 0 _ rfl; have p1 := Bpw.2.1 1 _ rfl; have p2 := Bpw.2.1 2 _ rfl; have pl := Bpw.1
      by_cases hlt : k < R.length
      · obtain ⟨⟨px, py, pe⟩, hp⟩ : ∃ p, R[k]? = some p := ⟨_, List.getElem?_eq_getElem hlt⟩
        obtain ⟨ca2, cc2, hsl, hml, hcells⟩ := HL.out.below hbw
        obtain ⟨bb, off, ha, hbl, x0, x1, x2⟩ := hcells k _ hp
        have hca : ga = some ⟨bb, off, none⟩ := by
          have : ga = ca2 := by simpa using congrArg (fun v => match v with | Value.slice a _ _ => a | _ => none) hsl
          rw [this, ha]
        subst hca
        clear hcells hsl ha
        simp only at x0 x1 x2
        have hlt' : (k : Int) < (R.length : Int) := by omega
        have HPP := HP.out px py pe
        rw [HM.out _ (List.mem_of_getElem? hp)] at HPP
        have HPP := Lib.hid HPP
        have hts : decide ((x, y, e) ∈ R.take (k + 1)) = (decide ((x, y, e) ∈ R.take k) || decide ((x, y, e) = (px, py, pe))) := by
          have ee : R[k] = (px, py, pe) := by rw [List.getElem?_eq_getElem hlt] at hp; exact Option.some.inj hp
          rw [List.take_succ_eq_append_getElem hlt, ee, Bool.eq_iff_iff]
          simp [List.mem_append]
        clear hp HM HT HP HO HL
        obtain ⟨t0, ht0⟩ : ∃ t, decide ((x, y, e) ∈ R.take k) = t := ⟨_, rfl⟩
        rw [ht0] at hts ⊢
        clear ht0
        cases t0
        · by_cases g1 : x = px
          · by_cases g2 : y = py
            · by_cases g3 : e = pe
              · have HTS := Lib.hid (show decide ((x, y, e) ∈ R.take (k + 1)) = true from by rw [hts]; simp [g1, g2, g3])
                subst g1; subst g2; subst g3
                clear hts
                go_wp2_with fail
                refine (HPP.out _).mono ?_
                rintro e9 wd ⟨rfl, hbd⟩
                have hzd := hbd.size
                go_wp2_with fail
                go_roundw
                case rel => exact ⟨k + 1, rfl, by omega, by rw [HTS.out], (by repeat' (first | (with_reducible exact Below.refl _ _) | (with_reducible assumption) | (with_reducible refine Below.alloc ?_ ?_ _) | (with_reducible refine Below.setCell ?_ ?_ _) | (with_reducible refine Below.drew ?_) | (with_reducible refine below_drewN ?_ _) | (apply bthen2; (with_reducible assumption)) | go_size))⟩
                case measure => simp [intOf]; omega
              · have HTS := Lib.hid (show decide ((x, y, e) ∈ R.take (k + 1)) = false from by rw [hts]; simp [g3])
                have q : (pe == e) = false := by simpa using fun h => g3 h.symm
                have q' : ¬ pe = e := fun h => g3 h.symm
                subst g1; subst g2
                clear hts
                go_wp2_with fail
                refine (HPP.out _).mono ?_
                rintro e9 wd ⟨rfl, hbd⟩
                have hzd := hbd.size
                go_wp2_with fail
                go_roundw
                case rel => exact ⟨k + 1, rfl, by omega, by rw [HTS.out], (by repeat' (first | (with_reducible exact Below.refl _ _) | (with_reducible assumption) | (with_reducible refine Below.alloc ?_ ?_ _) | (with_reducible refine Below.setCell ?_ ?_ _) | (with_reducible refine Below.drew ?_) | (with_reducible refine below_drewN ?_ _) | (apply bthen2; (with_reducible assumption)) | go_size))⟩
                case measure => simp [intOf]; omega
            · have HTS := Lib.hid (show decide ((x, y, e) ∈ R.take (k + 1)) = false from by rw [hts]; simp [g2])
              have q : (py == y) = false := by simpa using fun h => g2 h.symm
              have q' : ¬ py = y := fun h => g2 h.symm
              subst g1
              clear hts
              go_wp2_with fail
              refine (HPP.out _).mono ?_
              rintro e9 wd ⟨rfl, hbd⟩
              have hzd := hbd.size
              go_wp2_with fail
              go_roundw
              case rel => exact ⟨k + 1, rfl, by omega, by rw [HTS.out], (by repeat' (first | (with_reducible exact Below.refl _ _) | (with_reducible assumption) | (with_reducible refine Below.alloc ?_ ?_ _) | (with_reducible refine Below.setCell ?_ ?_ _) | (with_reducible refine Below.drew ?_) | (with_reducible refine below_drewN ?_ _) | (apply bthen2; (with_reducible assumption)) | go_size))⟩
              case measure => simp [intOf]; omega
          · have HTS := Lib.hid (show decide ((x, y, e) ∈ R.take (k + 1)) = false from by rw [hts]; simp [g1])
            have q : (px == x) = false := by simpa using fun h => g1 h.symm
            have q' : ¬ px = x := fun h => g1 h.symm
            clear hts
            go_wp2_with fail
            refine (HPP.out _).mono ?_
            rintro e9 wd ⟨rfl, hbd⟩
            have hzd := hbd.size
            go_wp2_with fail
            go_roundw
            case rel => exact ⟨k + 1, rfl, by omega, by rw [HTS.out], (by repeat' (first | (with_reducible exact Below.refl _ _) | (with_reducible assumption) | (with_reducible refine Below.alloc ?_ ?_ _) | (with_reducible refine Below.setCell ?_ ?_ _) | (with_reducible refine Below.drew ?_) | (with_reducible refine below_drewN ?_ _) | (apply bthen2; (with_reducible assumption)) | go_size))⟩
            case measure => simp [intOf]; omega
        · have HTS := Lib.hid (show decide ((x, y, e) ∈ R.take (k + 1)) = true from by rw [hts]; simp)
          clear hts
          go_wp2_with fail
          refine (HPP.out _).mono ?_
          rintro e9 wd ⟨rfl, hbd⟩
          have hzd := hbd.size
          go_wp2_with fail
          go_roundw
          case rel => exact ⟨k + 1, rfl, by omega, by rw [HTS.out], (by repeat' (first | (with_reducible exact Below.refl _ _) | (with_reducible assumption) | (with_reducible refine Below.alloc ?_ ?_ _) | (with_reducible refine Below.setCell ?_ ?_ _) | (with_reducible refine Below.drew ?_) | (with_reducible refine below_drewN ?_ _) | (apply bthen2; (with_reducible assumption)) | go_size))⟩
          case measure => simp [intOf]; omega
      · obtain rfl : k = R.length := by omega
        have e1 : decide ((x, y, e) ∈ R.take R.length) = decide ((x, y, e) ∈ R) := by rw [List.take_length]
        have HPP := HP.out x y e
        have HMM := HM.out
        have HTT := HT.out
        unfold opV at HO
        rw [e1]
        obtain ⟨t0, ht0⟩ : ∃ t, decide ((x, y, e) ∈ R) = t := ⟨_, rfl⟩
        rw [ht0] at HTT ⊢
        cases g : ptB a b x y e
        · have hf : t0 = false := by
            rw [← ht0, decide_eq_false_iff_not]
            intro hm
            have := HMM _ hm
            simp only at this
            rw [g] at this; cases this
          subst hf
          rw [g] at HPP
          have HPP := Lib.hid HPP
          clear HP HM HT HO HTT HMM HL e1 ht0 g
          go_wp2_with fail
          refine (HPP.out _).mono ?_
          rintro e9 wd ⟨rfl, hbd⟩
          have hzd := hbd.size
          go_wp2_with fail
          go_ret
          exact gives rfl (by repeat' (first | (with_reducible exact Below.refl _ _) | (with_reducible assumption) | (with_reducible refine Below.alloc ?_ ?_ _) | (with_reducible refine Below.setCell ?_ ?_ _) | (with_reducible refine Below.drew ?_) | (with_reducible refine below_drewN ?_ _) | (apply bthen2; (with_reducible assumption)) | go_size))
        · have hv := HTT g
          rw [g] at HPP HO
          rw [if_pos rfl, hv] at HO
          have HPP := Lib.hid HPP
          clear HP HM HT HTT HMM HL e1 ht0 g hv
          generalize (ordV a (x, y, e)).1 = o1 at *
          go_wp2_with fail
          refine (HPP.out _).mono ?_
          rintro e9 wd ⟨rfl, hbd⟩
          have hzd := hbd.size
          have Bcd := Bcw.below hbd; have Bpd := Bpw.below hbd
          have d0 := Bcd.2.1 0 _ rfl; have d1 := Bcd.2.1 1 _ rfl; have dl := Bcd.1
          have q0 := Bpd.2.1 0 _ rfl; have q1 := Bpd.2.1 1 _ rfl; have q2 := Bpd.2.1 2 _ rfl; have ql := Bpd.1
          go_wp2_with fail
          refine (HO.out _).mono ?_
          rintro e9 wf ⟨rfl, hbf⟩
          have hzf := hbf.size
          go_wp2_with fail
          go_ret
          exact gives (by first | rfl | simp) (by repeat' (first | (with_reducible exact Below.refl _ _) | (with_reducible assumption) | (with_reducible refine Below.alloc ?_ ?_ _) | (with_reducible refine Below.setCell ?_ ?_ _) | (with_reducible refine Below.drew ?_) | (with_reducible refine below_drewN ?_ _) | (apply bthen2; (with_reducible assumption)) | go_size))

end Go.Proofs.Ytngnnkbgiligaaa
