import Derived.Test.YtfcfjlfobflmaaaDoorDrA
import Derived.Test.YtfcfjlfobflmaaaDoorMk2
import Derived.Test.YtfcfjlfobflmaaaDoorAdd
import Derived.Test.YtfcfjlfobflmaaaDoorSum
import Derived.Test.YtfcfjlfobflmaaaDoorBits
import Derived.Test.YtfcfjlfobflmaaaDoorCmp
import Derived.Test.YtfcfjlfobflmaaaDoorRatio
import Derived.Test.YtfcfjlfobflmaaaDoorRegX
import Derived.Test.YtfcfjlfobflmaaaDoorCmpR
import Derived.Deep.AppendLies
set_option linter.unusedSimpArgs false
set_option linter.unusedVariables false
namespace Go.Proofs.YtfcfjlfobflmaaaDoor
open Go.RowKit
/-! ### drawn wholes -/

theorem Own.chg {S : Nat → Prop} {w w' : World} {B : Nat} {s : Value} {xs : List Int} (h : Own w B s xs) (hc : ChgS S w w') (hn : ∀ k, B ≤ k → ¬ S k) : Own w' B s xs := by
  obtain ⟨h2, h3⟩ := h
  refine ⟨h2, ?_⟩
  rcases h3 with h3 | ⟨g, cap, cur, hv, hg, hh, r⟩
  · exact .inl h3
  · have hlt : g < w.heap.size := by
      rcases Nat.lt_or_ge g w.heap.size with q | q
      · exact q
      · rw [Array.getElem?_eq_none q] at hh; cases hh
    exact .inr ⟨g, cap, cur, hv, hg, (hc.block g hlt (hn g hg)).trans hh, r⟩
theorem Own.chgB {b : Nat} {w w' : World} {B : Nat} {s : Value} {xs : List Int} (h : Own w B s xs) (hc : ChgS (fun k => k = b) w w') (hb : b < B) : Own w' B s xs := h.chg hc (fun k hk e => by omega)
theorem Own.drewR {w : World} {B : Nat} {s : Value} {xs : List Int} (h : Own w B s xs) : Own w.drew B s xs := h
theorem Box.drewW {w : World} {b : Nat} {vs : List Value} (h : Box w b vs) : Box w.drew b vs := Box.drewN h 1
theorem ChgS.stepN {S : Nat → Prop} {a b c : World} {N : Nat} (h : ChgS S a b) (hb : Below N b c) (hN : a.heap.size ≤ N) : ChgS S a c :=
  ⟨hb.os.trans h.os, hb.tape.trans h.tape, hb.output.trans h.output, Nat.le_trans h.size hb.size, fun k hk hq => (hb.block k (by omega)).trans (h.block k hk hq)⟩
theorem Box.belowG {w w' : World} {b N : Nat} {vs : List Value} (h : Box w b vs) (hb : Below N w w') (hN : b < N) : Box w' b vs :=
  ⟨Nat.lt_of_lt_of_le h.1 hb.size, fun i v hi => (hb.cell (p := ⟨b, i, none⟩) hN).trans (h.2.1 i v hi), fun o => (hb.frozen (p := ⟨b, o, none⟩) hN).trans (h.2.2 o)⟩
theorem Own.pt {w : World} {B : Nat} {a : Option Addr} {len cap : Nat} {xs : List Int} (h : Own w B (.slice a len cap) xs) (h0 : 0 < xs.length) : ∃ g, a = some ⟨g, 0, none⟩ ∧ B ≤ g ∧ g < w.heap.size := by
  obtain ⟨h2, h3⟩ := h
  rcases h3 with ⟨hv, hn⟩ | ⟨g, cap', cur, hv, hg, hh, r⟩
  · omega
  · have hlt : g < w.heap.size := by
      rcases Nat.lt_or_ge g w.heap.size with q | q
      · exact q
      · rw [Array.getElem?_eq_none q] at hh; cases hh
    injection hv with ha
    exact ⟨g, ha, hg, hlt⟩
theorem Own.len {w : World} {B : Nat} {a : Option Addr} {len cap : Nat} {xs : List Int} (h : Own w B (.slice a len cap) xs) : len = xs.length := by
  obtain ⟨a', c', e⟩ := h.slice
  injection e
theorem trim_len (xs : List Int) : (trim xs).length ≤ xs.length := by unfold trim; simp; omega
theorem wpl_appW {ops : Array Oper} {rest : List Oper} {o : Oper} {a : Act} {Q : Exit → Act → World → Prop} {w : World} (hgd : o.guard = none) (s x : Operand)
    (ho : o.op = .call { callee := .builtin .append, args := #[s, x], argTypes := #[38, 38] }) (B : Nat) (v : Value) (xs : List Int) (hs : a.eval s = v) (hown : Own w B v xs)
    (b off m c : Nat) (ys : List Int) (hx : a.eval x = .slice (some ⟨b, off, none⟩) m c) (hy : ys.length = m) (hm : 0 < m) (hc : ∀ i, i < m → w.cell? ⟨b, off + i, none⟩ = some (.int .i64 (ys.getD i 0))) (hlen : xs.length + m ≤ 1000000000000) (hB : B ≤ w.heap.size)
    (h : ∀ g' cap' w', Own w' B (.slice (some ⟨g', 0, none⟩) (xs.length + m) cap') (xs ++ ys) → Only v.ownBlock w w' → (v.ownBlock = some g' ∨ g' = w.heap.size) → g' < w'.heap.size → wpList Tryd.prog ops Q rest (a.put o.dst (.slice (some ⟨g', 0, none⟩) (xs.length + m) cap')) w') : wpList Tryd.prog ops Q (o :: rest) a w := by
  obtain ⟨i0, hi, hz0, hz1, hz2⟩ := info_parts infoInt
  refine wpList_append_lies w hgd s x 38 ho B 3 i0 (.int .i64 0) 1 8 Tryd.underlying38 hi hz0 hz1 hz2 rfl (by decide) v xs.length (xs.map (Value.int .i64)) hs hown ⟨b, off, none⟩ m c (ys.map (Value.int .i64)) hx (by simp [hy]) ?_ ?_ hm (by unfold maxLen; omega) (by omega) hB _ rfl ?_
  · intro j u hj
    rw [List.getElem?_map] at hj
    obtain ⟨y, hy2, rfl⟩ := Option.map_eq_some_iff.mp hj
    obtain ⟨hj2, rfl⟩ := List.getElem?_eq_some_iff.mp hy2
    have := hc j (by omega)
    simp only [List.getD, List.getElem?_eq_getElem hj2, Option.getD_some] at this
    cases j <;> simpa [Addr.add] using this
  · intro u hu
    obtain ⟨y, -, rfl⟩ := List.mem_map.mp hu
    rfl
  · intro g' cap' w' h1 h2 h3 h4
    refine h g' cap' w' ?_ (Only.of_grown h2) h3 h4
    unfold Own
    simpa [hy] using h1
theorem Box.only {g : Option Nat} {w w' : World} {b : Nat} {vs : List Value} (h : Box w b vs) (ho : Only g w w') (hn : ∀ k, g = some k → k ≠ b) : Box w' b vs := h.chg (ChgS.of ho) (fun e => hn b e rfl)
theorem set0of2 {w : World} {b : Nat} {x y u : Value} (h : Box w b [x, y]) : Box (w.setCell ⟨b, 0, none⟩ u) b [u, y] := Box.set h 0 (by simp) u
theorem set1of2 {w : World} {b : Nat} {x y u : Value} (h : Box w b [x, y]) : Box (w.setCell ⟨b, 1, none⟩ u) b [x, u] := Box.set h 1 (by simp) u
theorem sep_next {g' n c be s : Nat} {v : Value} (h : v.ownBlock = some g' ∨ g' = s) (hv : ∀ k, v.ownBlock = some k → k ≠ be) (hs : be < s) : ∀ k, (Value.slice (some ⟨g', 0, none⟩) n c).ownBlock = some k → k ≠ be := by
  intro k hk
  have e : g' = k := by simpa [Value.ownBlock] using hk
  subst e
  rcases h with h | h
  · exact hv _ h
  · omega
theorem Box.c1 {w : World} {b : Nat} {x y : Value} (h : Box w b [x, y]) : w.cell? ⟨b, 1, none⟩ = some y := h.2.1 1 _ rfl
theorem Box.c01 {w : World} {b : Nat} {x y : Value} (h : Box w b [x, y]) : w.cell? ⟨b, 0, none⟩ = some x ∧ w.cell? ⟨b, 1, none⟩ = some y := ⟨h.2.1 0 _ rfl, h.2.1 1 _ rfl⟩
theorem made2W {w : World} {u v : Value} {T : TypeId} {b : Nat} (h : b = w.heap.size) : Box (w.alloc (Obj.cells #[u, v] T)) b [u, v] := by
  subst h
  exact box_two (by simp) (by simp) (by simp) (fun o => by simp)
def lenV : Value → Nat
  | .slice _ l _ => l
  | _ => 0
def GRW4 (b K : Nat) (w : World) (e : Ending) (w' : World) : Prop := ∃ (n : Bool) (a : Option Addr) (l c : Nat) (xs : List Int), e = .returned (.agg #[.bool n, .slice a l c]) ∧ Own w' w.heap.size (.slice a l c) xs ∧ xs.length ≤ 400 ∧ CurAt w' b K ∧ ChgS (fun k => k = b) w w'
def GRW1 (b K : Nat) (w : World) (e : Ending) (w' : World) : Prop := ∃ (n : Bool) (a : Option Addr) (l c : Nat) (xs : List Int), e = .returned (.agg #[.bool n, .slice a l c]) ∧ Own w' w.heap.size (.slice a l c) xs ∧ xs.length ≤ 1000 ∧ CurAt w' b K ∧ ChgS (fun k => k = b) w w'
theorem GRW4.of {b K : Nat} {w : World} {e : Ending} {w' : World} {n : Bool} {a : Option Addr} {l c : Nat} {xs : List Int} (h1 : e = .returned (.agg #[.bool n, .slice a l c])) (h2 : Own w' w.heap.size (.slice a l c) xs) (h3 : xs.length ≤ 400) (h4 : CurAt w' b K) (h5 : ChgS (fun k => k = b) w w') : GRW4 b K w e w' := ⟨n, a, l, c, xs, h1, h2, h3, h4, h5⟩
theorem GRW1.of {b K : Nat} {w : World} {e : Ending} {w' : World} {n : Bool} {a : Option Addr} {l c : Nat} {xs : List Int} (h1 : e = .returned (.agg #[.bool n, .slice a l c])) (h2 : Own w' w.heap.size (.slice a l c) xs) (h3 : xs.length ≤ 1000) (h4 : CurAt w' b K) (h5 : ChgS (fun k => k = b) w w') : GRW1 b K w e w' := ⟨n, a, l, c, xs, h1, h2, h3, h4, h5⟩
theorem Byts.monoW {w : World} {b c : Nat} {v : Value} (h : Byts w b v) (hb : b ≤ c) : Byts w c v := by
  obtain ⟨a, len, cap, hv, hl, hc⟩ := h
  refine ⟨a, len, cap, hv, hl, fun i hi => ?_⟩
  obtain ⟨g, off, z, h1, h2, h3⟩ := hc i hi
  exact ⟨g, off, z, h1, by omega, h3⟩
def GDW (w : World) (e : Ending) (w' : World) : Prop := ∃ (n : Bool) (a : Option Addr) (l c : Nat) (xs : List Int), e = .returned (.agg #[.bool n, .slice a l c]) ∧ Ints w' (.slice a l c) xs ∧ xs.length ≤ 1000 ∧ Below w.heap.size w w'
def GDWI (w : World) (e : Ending) (w' : World) : Prop := ∃ (n : Bool) (a : Option Addr) (l c : Nat) (xs : List Int) (k : Int), e = .returned (.tuple #[.agg #[.bool n, .slice a l c], .int .i64 k]) ∧ Ints w' (.slice a l c) xs ∧ xs.length ≤ 1000 ∧ Below w.heap.size w w'
def GDWW (w : World) (e : Ending) (w' : World) : Prop := ∃ (n : Bool) (a : Option Addr) (l c : Nat) (xs : List Int) (n2 : Bool) (a2 : Option Addr) (l2 c2 : Nat) (ys : List Int), e = .returned (.tuple #[.agg #[.bool n, .slice a l c], .agg #[.bool n2, .slice a2 l2 c2]]) ∧ Ints w' (.slice a l c) xs ∧ xs.length ≤ 1000 ∧ Ints w' (.slice a2 l2 c2) ys ∧ ys.length ≤ 1000 ∧ Below w.heap.size w w'
def GDWWI (w : World) (e : Ending) (w' : World) : Prop := ∃ (n : Bool) (a : Option Addr) (l c : Nat) (xs : List Int) (n2 : Bool) (a2 : Option Addr) (l2 c2 : Nat) (ys : List Int) (k : Int), e = .returned (.tuple #[.agg #[.bool n, .slice a l c], .agg #[.bool n2, .slice a2 l2 c2], .int .i64 k]) ∧ Ints w' (.slice a l c) xs ∧ xs.length ≤ 1000 ∧ Ints w' (.slice a2 l2 c2) ys ∧ ys.length ≤ 1000 ∧ Below w.heap.size w w'

def GivesZW (z : Int) (w : World) (e : Ending) (w' : World) : Prop := GivesW (decide (z < 0)) (dg z.natAbs) w e w'
theorem sgn_negW (z : Int) : ((!decide (z < 0)) && decide (0 < tz (dg z.natAbs) (dg z.natAbs).length)) = decide (-z < 0) := by
  rw [tz_can (can_dg _), len0]
  by_cases h : z < 0
  · have h2 : ¬ -z < 0 := by omega
    simp [h, h2]; omega
  · by_cases h0 : z = 0
    · subst h0; simp
    · have h2 : -z < 0 := by omega
      have h3 : z.natAbs ≠ 0 := by omega
      simp [h, h2, h3, h0]; omega
theorem bgMinusW_any (z : Int) (a : Option Addr) (len cap : Nat) (w : World) (hx : Ints w (.slice a len cap) (dg z.natAbs)) (lx : (dg z.natAbs).length ≤ 1000000) :
    Calls Tryd.prog 82 #[.agg #[.bool (decide (z < 0)), .slice a len cap]] w (GivesZW (-z) w) := by
  have HT := Lib.hid (fun W h => bgMake_any (!decide (z < 0)) a len cap (dg z.natAbs) W h (by omega))
  rw [sgn_negW, trim_can (can_dg _)] at HT
  have HX := Lib.hid hx
  clear hx lx
  unfold GivesZW
  rw [Int.natAbs_neg]
  generalize decide (-z < 0) = m at *
  generalize dg z.natAbs = D at *
  obtain ⟨n, hn⟩ : ∃ n, decide (z < 0) = n := ⟨_, rfl⟩
  rw [hn] at HT ⊢
  clear hn
  cases n
  all_goals
    go_enter Tryd.func82, Tryd.ntmps82
    go_wp2_with fail
    refine (HT.out _ ?_).mono ?_
    · refine Ints.below HX.out ?_; repeat' (first | (with_reducible exact Below.refl _ _) | (with_reducible assumption) | (with_reducible refine Below.alloc ?_ ?_ _) | (with_reducible refine Below.setCell ?_ ?_ _) | (with_reducible refine Below.drew ?_) | (with_reducible refine below_drewN ?_ _) | (apply bthen2; (with_reducible assumption)) | go_size)
    rintro e wa ⟨a3, l3, c3, rfl, ho3, hba⟩
    have hza := hba.size; (try simp only [World.size_alloc, World.size_setCell, World.size_drew, World.heap_drewN] at hza); try (refine keepc hba (w.heap.size) ?_ ?_; (focus (first | omega | (simp <;> omega))); intro hca_0 hfa_0 hla_0); try (refine keepc hba (w.heap.size + 1) ?_ ?_; (focus (first | omega | (simp <;> omega))); intro hca_1 hfa_1 hla_1); try (refine keepc hba (w.heap.size + 1 + 1) ?_ ?_; (focus (first | omega | (simp <;> omega))); intro hca_2 hfa_2 hla_2)
    go_wp2_with fail
    refine bodyPost_ret (v := .agg #[.bool m, .slice a3 l3 c3]) (by simp [results, Tryd.results82, go_sem, hca_1, hla_1]) rfl ⟨_, _, _, rfl, ((ho3.set (p := ⟨w.heap.size + 1, 0, none⟩) (by first | (simp; done) | (simp; omega)) _).set (p := ⟨w.heap.size + 1, 1, none⟩) (by first | (simp; done) | (simp; omega)) _).mono (by first | (simp; done) | (simp; omega)), (by repeat' (first | (with_reducible exact Below.refl _ _) | (with_reducible assumption) | (with_reducible refine Below.alloc ?_ ?_ _) | (with_reducible refine Below.setCell ?_ ?_ _) | (with_reducible refine Below.drew ?_) | (with_reducible refine below_drewN ?_ _) | (apply bthen2; (with_reducible assumption)) | go_size))⟩

set_option maxRecDepth 100000 in
set_option maxHeartbeats 8000000 in
theorem wholeC {b K : Nat} {w : World} (h : CurAt w b K) (hK : K ≤ 100000000) : Calls Tryd.prog 66 #[.pointer (some ⟨b, 0, none⟩)] w (GRW4 b (K + 2000) w) := by
  have hblt := h.lt
  go_enter Tryd.func66, Tryd.ntmps66
  go_wp2_with fail
  refine name_worldC (fun W1 hW1 => ?_)
  have hC1 : CurAt W1 b (K) := by subst hW1; (repeat' (first | (with_reducible assumption) | (with_reducible refine CurAt.alloc ?_ _) | (with_reducible refine CurAt.set ?_ (by first | omega | (simp; done) | (simp; omega)) _) | (with_reducible refine CurAt.drewN ?_ _) | (with_reducible refine CurAt.drew ?_)))
  have hG1 : ChgS (fun k => k = b) w W1 := by subst hW1; (repeat' (first | (with_reducible exact ChgS.refl _ _) | (with_reducible assumption) | (with_reducible refine ChgS.alloc ?_ _) | (with_reducible refine ChgS.setN ?_ (.inr (by first | omega | (simp; done) | (simp; omega))) _) | (with_reducible refine ChgS.drewNX ?_ _) | (with_reducible refine ChgS.drewX ?_) | (refine ChgS.then2 (by with_reducible assumption) ?_)))
  have VR_0 : Box W1 (w.heap.size) [.bool false, .slice none 0 0] := by subst hW1; exact box_two (by first | omega | (simp; done) | (simp; omega)) (by simp [go_sem]) (by simp [go_sem]) (fun o => by simp [go_sem])
  have hz0 := VR_0.1
  clear hW1
  refine (oneC (K := K) hC1 (by omega) (by omega)).mono ?_
  rintro e1 w1 ⟨r1, rfl, hc1, hg1⟩
  have hz1 := hg1.size
  (try simp only [World.size_alloc, World.size_setCell, World.size_drew, World.heap_drewN] at hz1)
  have VR_1 : Box w1 (w.heap.size) [.bool false, .slice none 0 0] := by refine Box.chg ?_ hg1 (by show ¬ _ = _; omega); (repeat' (first | (with_reducible assumption) | (with_reducible apply set0of2) | (with_reducible apply set1of2) | (with_reducible refine Box.alloc ?_ _) | (with_reducible refine Box.drewW ?_) | (with_reducible refine Box.set_ne ?_ (by first | omega | (simp; done) | (simp; omega)) _) | fail))
  have hgw : ChgS (fun k => k = b) w w1 := hG1.trans hg1
  clear hG1 hC1 VR_0 hg1
  cases r1
  · skip
    go_wp2_with fail
    refine (pickC (K := K + 2) ?_ ?_ ?_ ?_).mono ?_
    · (repeat' (first | (with_reducible assumption) | (with_reducible refine CurAt.alloc ?_ _) | (with_reducible refine CurAt.set ?_ (by first | omega | (simp; done) | (simp; omega)) _) | (with_reducible refine CurAt.drewN ?_ _) | (with_reducible refine CurAt.drew ?_)))
    · omega
    · omega
    · omega
    rintro e2 w2 ⟨r2, rfl, ra2, rb2, hc2, hg2⟩
    have hz2 := hg2.size
    (try simp only [World.size_alloc, World.size_setCell, World.size_drew, World.heap_drewN] at hz2)
    clear hc1
    have VR_2 : Box w2 (w.heap.size) [.bool false, .slice none 0 0] := by refine Box.chg ?_ hg2 (by show ¬ _ = _; omega); (repeat' (first | (with_reducible assumption) | (with_reducible apply set0of2) | (with_reducible apply set1of2) | (with_reducible refine Box.alloc ?_ _) | (with_reducible refine Box.drewW ?_) | (with_reducible refine Box.set_ne ?_ (by first | omega | (simp; done) | (simp; omega)) _) | fail))
    go_wp2_with fail
    refine (oneC (K := K + 2 + 2) ?_ ?_ ?_).mono ?_
    · (repeat' (first | (with_reducible assumption) | (with_reducible refine CurAt.alloc ?_ _) | (with_reducible refine CurAt.set ?_ (by first | omega | (simp; done) | (simp; omega)) _) | (with_reducible refine CurAt.drewN ?_ _) | (with_reducible refine CurAt.drew ?_)))
    · omega
    · omega
    rintro e3 w3 ⟨r3, rfl, hc3, hg3⟩
    have hz3 := hg3.size
    (try simp only [World.size_alloc, World.size_setCell, World.size_drew, World.heap_drewN] at hz3)
    clear hc2
    have VR_3 : Box w3 (w.heap.size) [.bool false, .slice none 0 0] := by refine Box.chg ?_ hg3 (by show ¬ _ = _; omega); (repeat' (first | (with_reducible assumption) | (with_reducible apply set0of2) | (with_reducible apply set1of2) | (with_reducible refine Box.alloc ?_ _) | (with_reducible refine Box.drewW ?_) | (with_reducible refine Box.set_ne ?_ (by first | omega | (simp; done) | (simp; omega)) _) | fail))
    have hgA : ChgS (fun k => k = b) w w3 := by (repeat' (first | (with_reducible exact ChgS.refl _ _) | (with_reducible assumption) | (with_reducible refine ChgS.alloc ?_ _) | (with_reducible refine ChgS.setN ?_ (.inr (by first | omega | (simp; done) | (simp; omega))) _) | (with_reducible refine ChgS.drewNX ?_ _) | (with_reducible refine ChgS.drewX ?_) | (refine ChgS.then2 (by with_reducible assumption) ?_)))
    have hgw9 := Lib.hid hgw; clear hgw
    go_upto_if 19 with fail
    go_cut [3] (fun v3 wx => ∃ n : Int, v3 = .int .i64 n ∧ 1 ≤ n ∧ n ≤ 400 ∧ CurAt wx b (K + 2 + 2 + 2 + 4) ∧ Box wx (w.heap.size) [.bool false, .slice none 0 0] ∧ ChgS (fun k => k = b) w wx)
    case first =>
      cases r3
      · skip
        go_wp2_with fail
        go_meet
        exact ⟨_, rfl, by omega, by omega, CurAt.mono (K := K + 2 + 2 + 2) (by (repeat' (first | (with_reducible assumption) | (with_reducible refine CurAt.alloc ?_ _) | (with_reducible refine CurAt.set ?_ (by first | omega | (simp; done) | (simp; omega)) _) | (with_reducible refine CurAt.drewN ?_ _) | (with_reducible refine CurAt.drew ?_)))) (by omega), by (repeat' (first | (with_reducible assumption) | (with_reducible apply set0of2) | (with_reducible apply set1of2) | (with_reducible refine Box.alloc ?_ _) | (with_reducible refine Box.drewW ?_) | (with_reducible refine Box.set_ne ?_ (by first | omega | (simp; done) | (simp; omega)) _) | fail)), by (repeat' (first | (with_reducible exact ChgS.refl _ _) | (with_reducible assumption) | (with_reducible refine ChgS.alloc ?_ _) | (with_reducible refine ChgS.setN ?_ (.inr (by first | omega | (simp; done) | (simp; omega))) _) | (with_reducible refine ChgS.drewNX ?_ _) | (with_reducible refine ChgS.drewX ?_) | (refine ChgS.then2 (by with_reducible assumption) ?_)))⟩
      · skip
        go_wp2_with fail
        refine (amongC (K := K + 2 + 2 + 2) ?_ ?_ ?_ ?_ ?_ ?_ ?_).mono ?_
        · (repeat' (first | (with_reducible assumption) | (with_reducible refine CurAt.alloc ?_ _) | (with_reducible refine CurAt.set ?_ (by first | omega | (simp; done) | (simp; omega)) _) | (with_reducible refine CurAt.drewN ?_ _) | (with_reducible refine CurAt.drew ?_)))
        · omega
        · (first | rfl | (simp; done))
        · rfl
        · (simp; done)
        · (simp; done)
        · rfl
        rintro e4 w4 ⟨r4, RM4, rfl, hc4, hg4⟩
        have hz4 := hg4.size
        (try simp only [World.size_alloc, World.size_setCell, World.size_drew, World.heap_drewN] at hz4)
        clear hc3
        have VR_4 : Box w4 (w.heap.size) [.bool false, .slice none 0 0] := by refine Box.chg ?_ hg4 (by show ¬ _ = _; omega); (repeat' (first | (with_reducible assumption) | (with_reducible apply set0of2) | (with_reducible apply set1of2) | (with_reducible refine Box.alloc ?_ _) | (with_reducible refine Box.drewW ?_) | (with_reducible refine Box.set_ne ?_ (by first | omega | (simp; done) | (simp; omega)) _) | fail))
        have hn9 : 1 ≤ r4 ∧ r4 ≤ 400 := by simp at RM4; omega
        clear RM4
        go_wp2_with fail
        go_meet
        exact ⟨_, rfl, by omega, by omega, CurAt.mono (K := K + 2 + 2 + 2 + 2) (by (repeat' (first | (with_reducible assumption) | (with_reducible refine CurAt.alloc ?_ _) | (with_reducible refine CurAt.set ?_ (by first | omega | (simp; done) | (simp; omega)) _) | (with_reducible refine CurAt.drewN ?_ _) | (with_reducible refine CurAt.drew ?_)))) (by omega), by (repeat' (first | (with_reducible assumption) | (with_reducible apply set0of2) | (with_reducible apply set1of2) | (with_reducible refine Box.alloc ?_ _) | (with_reducible refine Box.drewW ?_) | (with_reducible refine Box.set_ne ?_ (by first | omega | (simp; done) | (simp; omega)) _) | fail)), by (repeat' (first | (with_reducible exact ChgS.refl _ _) | (with_reducible assumption) | (with_reducible refine ChgS.alloc ?_ _) | (with_reducible refine ChgS.setN ?_ (.inr (by first | omega | (simp; done) | (simp; omega))) _) | (with_reducible refine ChgS.drewNX ?_ _) | (with_reducible refine ChgS.drewX ?_) | (refine ChgS.then2 (by with_reducible assumption) ?_)))⟩
    case rest =>
      obtain ⟨n, rfl, hn1, hn2, hc4, VR_4, hg4⟩ := hcut
      obtain ⟨w4, hw4⟩ : ∃ x, x = wc := ⟨_, rfl⟩; subst hw4
      have hz4 := hg4.size
      clear hgA hgw9 hc3 VR_3 hg3
      have hgA := hg4
      obtain ⟨KA, hKA⟩ : ∃ KA : Nat, KA = K + 2 + 2 + 2 + 4 := ⟨_, rfl⟩
      rw [← hKA] at hc4
      obtain ⟨N, hN⟩ : ∃ N : Nat, n = N := ⟨(n).toNat, by omega⟩
      subst hN
      go_wp2_with fail
      go_loopw [4] (fun v4 wr => ∃ acc : List Int, acc.length ≤ N ∧ Own wr (w.heap.size + 1) v4 acc ∧ CurAt wr b (KA + 4 * acc.length) ∧ Box wr (w.heap.size) [.bool false, .slice none 0 0] ∧ ChgS (fun k => k = b) w wr) (fun v4 _ => N - lenV v4)
      case atStart => exact ⟨[], by simp, Own.nil _ _, by simpa using hc4, by (repeat' (first | (with_reducible assumption) | (with_reducible apply set0of2) | (with_reducible apply set1of2) | (with_reducible refine Box.alloc ?_ _) | (with_reducible refine Box.drewW ?_) | (with_reducible refine Box.set_ne ?_ (by first | omega | (simp; done) | (simp; omega)) _) | fail)), hgA⟩
      case round =>
        obtain ⟨acc, hal, hown, hcr, hvr, hgr⟩ := hrel
        obtain ⟨sa, sc, rfl⟩ := hown.slice
        have hzr := hgr.size; have hlr := hvr.1
        clear hgA VR_4 hc4 hg4
        by_cases hlt : acc.length < N
        · have hlt2 : (acc.length : Int) < N := by omega
          go_wp2_with fail
          refine (pickC (K := KA + 4 * acc.length) hcr (by omega) (by omega) (by omega)).mono ?_
          rintro e5 w5 ⟨r5, rfl, ra5, rb5, hc5, hg5⟩
          have O5 := hown.chgB hg5 (by omega)
          have V5 := hvr.chg hg5 (by show ¬ _ = _; omega)
          have hz5 := hg5.size
          go_wp2_with fail
          refine (amongC (K := KA + 4 * acc.length + 2) ?_ ?_ ?_ ?_ ?_ ?_ ?_).mono ?_
          · (repeat' (first | (with_reducible assumption) | (with_reducible refine CurAt.alloc ?_ _) | (with_reducible refine CurAt.set ?_ (by first | omega | (simp; done) | (simp; omega)) _) | (with_reducible refine CurAt.drewN ?_ _) | (with_reducible refine CurAt.drew ?_)))
          · omega
          · (first | rfl | (simp; done))
          · rfl
          · (simp; done)
          · (simp; done)
          · rfl
          rintro e6 w6 ⟨r6, rm6, rfl, hc6, hg6⟩
          clear rm6
          have O6 := (O5.alloc _).chgB hg6 (by omega)
          have V6 := (Box.alloc V5 _).chg hg6 (by show ¬ _ = _; omega)
          have hz6 := hg6.size; simp only [World.size_alloc] at hz6
          have hg56 : ChgS (fun k => k = b) w w6 := ((hgr.trans hg5).alloc _).trans hg6
          clear hg5 hg6 O5 V5 hown hvr hcr
          go_wp2_with (first | (at_builtin; refine wpl_app (W := w6) rfl _ _ rfl (w.heap.size + 1) _ acc rfl (O6.alloc _) ⟨w6.heap.size, 0, none⟩ 1 r6 rfl (by simp) (by omega) (Below.alloc (Below.refl _ _) (by omega) _) (by simp; omega) ?_; intro a1 cc1 w7 hown7 hb7 hsz7))
          go_roundw
          case rel => exact ⟨acc ++ [r6], by simp; omega, by simpa using hown7, CurAt.mono (K := KA + 4 * acc.length + 2 + 2) (hc6.belowN hb7 (by omega)) (by simp; omega), V6.belowG hb7 (by omega), hg56.stepN hb7 (by omega)⟩
          case measure => simp [lenV]; omega
        · obtain ⟨m, hm⟩ : ∃ m, N = m + 1 := ⟨N - 1, by omega⟩
          have hL : acc.length = m + 1 := by omega
          subst hm
          have hlt2 : ¬ (acc.length : Int) < ((m + 1 : Nat) : Int) := by omega
          have km : wrap64 (((m + 1 : Nat) : Int) - 1) = (m : Int) := by rw [win (by omega)]; omega
          go_wp2_with fail
          refine (pickC (K := KA + 4 * acc.length) hcr (by omega) (by omega) (by omega)).mono ?_
          rintro e5 w5 ⟨r5, rfl, ra5, rb5, hc5, hg5⟩
          have O5 := hown.chgB hg5 (by omega)
          have V5 := hvr.chg hg5 (by show ¬ _ = _; omega)
          have hz5 := hg5.size
          have hg5w : ChgS (fun k => k = b) w w5 := hgr.trans hg5
          rw [hL] at O5
          obtain ⟨g, rfl, hg1, hg2⟩ := O5.pt (by omega)
          have hat := O5.at m (by omega)
          have hat1 := hat.1; have hat2 := hat.2
          have hml : (m : Int) < (m : Int) + 1 := by omega
          clear hown hcr hvr hgr hg5
          go_wp2_with fail
          refine name_worldC (fun W6 hW6 => ?_)
          obtain ⟨v9, O6⟩ : ∃ v9 : Int, Own W6 (w.heap.size + 1) (.slice (some ⟨g, 0, none⟩) (m + 1) sc) (acc.set m v9) := by subst hW6; exact ⟨_, Own.put O5 m _⟩
          have hC6 : CurAt W6 b (KA + 4 * acc.length + 2) := by subst hW6; (repeat' (first | (with_reducible assumption) | (with_reducible refine CurAt.alloc ?_ _) | (with_reducible refine CurAt.set ?_ (by first | omega | (simp; done) | (simp; omega)) _) | (with_reducible refine CurAt.drewN ?_ _) | (with_reducible refine CurAt.drew ?_)))
          have hG6 : ChgS (fun k => k = b) w W6 := by subst hW6; (repeat' (first | (with_reducible exact ChgS.refl _ _) | (with_reducible assumption) | (with_reducible refine ChgS.alloc ?_ _) | (with_reducible refine ChgS.setN ?_ (.inr (by first | omega | (simp; done) | (simp; omega))) _) | (with_reducible refine ChgS.drewNX ?_ _) | (with_reducible refine ChgS.drewX ?_) | (refine ChgS.then2 (by with_reducible assumption) ?_)))
          have V6 : Box W6 (w.heap.size) [.bool false, .slice none 0 0] := by subst hW6; (repeat' (first | (with_reducible assumption) | (with_reducible apply set0of2) | (with_reducible apply set1of2) | (with_reducible refine Box.alloc ?_ _) | (with_reducible refine Box.drewW ?_) | (with_reducible refine Box.set_ne ?_ (by first | omega | (simp; done) | (simp; omega)) _) | fail))
          clear hW6 O5 V5 hc5 hg5w
          obtain ⟨xs, hxs⟩ : ∃ xs, acc.set m v9 = xs := ⟨_, rfl⟩
          have hxl : xs.length = m + 1 := by rw [← hxs]; simp [hL]
          rw [hxs] at O6; clear hxs
          have hz6 := hG6.size; have hl6 := V6.1
          refine (oneC (K := KA + 4 * acc.length + 2) hC6 (by omega) (by omega)).mono ?_
          rintro e7 w7 ⟨r7, rfl, hc7, hg7⟩
          have O7 := O6.chgB hg7 (by omega)
          have VR_7 := V6.chg hg7 (by show ¬ _ = _; omega)
          have hz7 := hg7.size; have hG7 : ChgS (fun k => k = b) w w7 := hG6.trans hg7
          clear hC6 hG6 hg7 O6 V6
          cases r7
          · skip
            have OL_7 := O7
            go_wp2_with fail
            refine (oneC (K := KA + 4 * acc.length + 2 + 2) ?_ ?_ ?_).mono ?_
            · (repeat' (first | (with_reducible assumption) | (with_reducible refine CurAt.alloc ?_ _) | (with_reducible refine CurAt.set ?_ (by first | omega | (simp; done) | (simp; omega)) _) | (with_reducible refine CurAt.drewN ?_ _) | (with_reducible refine CurAt.drew ?_)))
            · omega
            · omega
            rintro e8 w8 ⟨r8, rfl, hc8, hg8⟩
            have hz8 := hg8.size
            (try simp only [World.size_alloc, World.size_setCell, World.size_drew, World.heap_drewN] at hz8)
            clear hc7
            have VR_8 : Box w8 (w.heap.size) [.bool false, .slice none 0 0] := by refine Box.chg ?_ hg8 (by show ¬ _ = _; omega); (repeat' (first | (with_reducible assumption) | (with_reducible apply set0of2) | (with_reducible apply set1of2) | (with_reducible refine Box.alloc ?_ _) | (with_reducible refine Box.drewW ?_) | (with_reducible refine Box.set_ne ?_ (by first | omega | (simp; done) | (simp; omega)) _) | fail))
            have OL_8 : Own w8 (w.heap.size + 1) (.slice (some ⟨g, 0, none⟩) (m + 1) sc) xs := Own.chgB (by (repeat' (first | (with_reducible assumption) | (with_reducible refine Own.alloc ?_ _) | (with_reducible refine Own.drewR ?_) | (with_reducible refine Own.set ?_ (by first | omega | (simp; done) | (simp; omega)) _) | fail))) hg8 (by omega)
            go_wp2_with fail
            have HM := Lib.hid (bgMake_any r8 _ _ _ xs w8 OL_8.ints (by omega))
            obtain ⟨B9, hB9⟩ : ∃ B, (r8 && decide (0 < tz xs xs.length)) = B := ⟨_, rfl⟩
            rw [hB9] at HM; clear hB9
            refine HM.out.mono ?_
            rintro e9 w9 ⟨a, l, c, rfl, ho, hb9⟩
            have hc9 := hc8.below hb9
            have hg9 := ChgS.of_below (S := fun k => k = b) hb9
            have hz9 := hg9.size
            (try simp only [World.size_alloc, World.size_setCell, World.size_drew, World.heap_drewN] at hz9)
            have VR_9 := VR_8.below hb9
            have vR0_9 := VR_9.2.1 0 _ rfl
            have vR1_9 := VR_9.2.1 1 _ rfl
            have vRf_9 := VR_9.2.2; have vRl_9 := VR_9.1
            have htl := trim_len xs
            have ho2 := ho.mono (B' := w.heap.size + 1) (by omega)
            go_wp2_with fail
            refine name_worldB (fun WF hWF => ?_)
            have XF : Box WF (w.heap.size) [.bool B9, .slice a l c] := by subst hWF; exact Box.set (Box.set (VR_9) 0 (by simp) _) 1 (by simp) _
            have OF : Own WF w.heap.size (.slice a l c) (trim xs) := by subst hWF; exact Own.mono (B := w.heap.size + 1) (by (repeat' (first | (with_reducible assumption) | (with_reducible refine Own.alloc ?_ _) | (with_reducible refine Own.drewR ?_) | (with_reducible refine Own.set ?_ (by first | omega | (simp; done) | (simp; omega)) _) | fail))) (by omega)
            have hCF : CurAt WF b (KA + 4 * acc.length + 2 + 2 + 2) := by subst hWF; (repeat' (first | (with_reducible assumption) | (with_reducible refine CurAt.alloc ?_ _) | (with_reducible refine CurAt.set ?_ (by first | omega | (simp; done) | (simp; omega)) _) | (with_reducible refine CurAt.drewN ?_ _) | (with_reducible refine CurAt.drew ?_)))
            have hGF : ChgS (fun k => k = b) w WF := by subst hWF; (repeat' (first | (with_reducible exact ChgS.refl _ _) | (with_reducible assumption) | (with_reducible refine ChgS.alloc ?_ _) | (with_reducible refine ChgS.setN ?_ (.inr (by first | omega | (simp; done) | (simp; omega))) _) | (with_reducible refine ChgS.drewNX ?_ _) | (with_reducible refine ChgS.drewX ?_) | (refine ChgS.then2 (by with_reducible assumption) ?_)))
            clear hWF
            have k0 := XF.2.1 0 _ rfl; have k1 := XF.2.1 1 _ rfl; have kl := XF.1
            refine bodyPost_ret (v := .agg #[.bool B9, .slice a l c]) (by simp [results, Tryd.results66, go_sem, kl, k0, k1]) rfl ?_
            exact GRW4.of rfl OF (by (have : (trim xs).length ≤ xs.length := htl); omega) (hCF.mono (by omega)) hGF
          · skip
            go_wp2_with fail
            go_loopw [5, 46] (fun _ v46 wr => ∃ (i : Nat) (ys : List Int), v46 = .int .i64 i ∧ i ≤ m + 1 ∧ ys.length = m + 1 ∧ Own wr (w.heap.size + 1) (.slice (some ⟨g, 0, none⟩) (m + 1) sc) ys ∧ CurAt wr b (KA + 4 * acc.length + 2 + 2) ∧ Box wr (w.heap.size) [.bool false, .slice none 0 0] ∧ ChgS (fun k => k = b) w wr) (fun _ v46 _ => m + 1 - (intOf v46).toNat)
            case atStart => exact ⟨0, xs, rfl, by omega, hxl, O7, hc7, VR_7, hG7⟩
            case round =>
              obtain ⟨i, ys, rfl, hi, hyl, hown, hcr, hvr, hgr⟩ := hrel
              have hzr := hgr.size; have hlr := hvr.1
              clear O7 hc7 VR_7 hG7
              by_cases hil : i < m + 1
              · have hil2 : (i : Int) < (m : Int) + 1 := by omega
                have hat := hown.at i (by omega)
                have hat1 := hat.1; have hat2 := hat.2
                go_wp2_with fail
                go_roundw
                case rel => exact ⟨i + 1, _, by go_num, by omega, by simpa using hyl, Own.put hown i _, by (repeat' (first | (with_reducible assumption) | (with_reducible refine CurAt.alloc ?_ _) | (with_reducible refine CurAt.set ?_ (by first | omega | (simp; done) | (simp; omega)) _) | (with_reducible refine CurAt.drewN ?_ _) | (with_reducible refine CurAt.drew ?_))), by (repeat' (first | (with_reducible assumption) | (with_reducible apply set0of2) | (with_reducible apply set1of2) | (with_reducible refine Box.alloc ?_ _) | (with_reducible refine Box.drewW ?_) | (with_reducible refine Box.set_ne ?_ (by first | omega | (simp; done) | (simp; omega)) _) | fail)), by (repeat' (first | (with_reducible exact ChgS.refl _ _) | (with_reducible assumption) | (with_reducible refine ChgS.alloc ?_ _) | (with_reducible refine ChgS.setN ?_ (.inr (by first | omega | (simp; done) | (simp; omega))) _) | (with_reducible refine ChgS.drewNX ?_ _) | (with_reducible refine ChgS.drewX ?_) | (refine ChgS.then2 (by with_reducible assumption) ?_)))⟩
                case measure => simp [intOf]; omega
              · have hil2 : ¬ (i : Int) < (m : Int) + 1 := by omega
                have VR_7 := hvr; have hc7 := hcr; have OL_7 := hown
                obtain ⟨w7, hw7⟩ : ∃ x, x = wr := ⟨_, rfl⟩; subst hw7
                go_wp2_with fail
                refine (oneC (K := KA + 4 * acc.length + 2 + 2) ?_ ?_ ?_).mono ?_
                · (repeat' (first | (with_reducible assumption) | (with_reducible refine CurAt.alloc ?_ _) | (with_reducible refine CurAt.set ?_ (by first | omega | (simp; done) | (simp; omega)) _) | (with_reducible refine CurAt.drewN ?_ _) | (with_reducible refine CurAt.drew ?_)))
                · omega
                · omega
                rintro e8 w8 ⟨r8, rfl, hc8, hg8⟩
                have hz8 := hg8.size
                (try simp only [World.size_alloc, World.size_setCell, World.size_drew, World.heap_drewN] at hz8)
                clear hc7
                have VR_8 : Box w8 (w.heap.size) [.bool false, .slice none 0 0] := by refine Box.chg ?_ hg8 (by show ¬ _ = _; omega); (repeat' (first | (with_reducible assumption) | (with_reducible apply set0of2) | (with_reducible apply set1of2) | (with_reducible refine Box.alloc ?_ _) | (with_reducible refine Box.drewW ?_) | (with_reducible refine Box.set_ne ?_ (by first | omega | (simp; done) | (simp; omega)) _) | fail))
                have OL_8 : Own w8 (w.heap.size + 1) (.slice (some ⟨g, 0, none⟩) (m + 1) sc) ys := Own.chgB (by (repeat' (first | (with_reducible assumption) | (with_reducible refine Own.alloc ?_ _) | (with_reducible refine Own.drewR ?_) | (with_reducible refine Own.set ?_ (by first | omega | (simp; done) | (simp; omega)) _) | fail))) hg8 (by omega)
                go_wp2_with fail
                have HM := Lib.hid (bgMake_any r8 _ _ _ ys w8 OL_8.ints (by omega))
                obtain ⟨B9, hB9⟩ : ∃ B, (r8 && decide (0 < tz ys ys.length)) = B := ⟨_, rfl⟩
                rw [hB9] at HM; clear hB9
                refine HM.out.mono ?_
                rintro e9 w9 ⟨a, l, c, rfl, ho, hb9⟩
                have hc9 := hc8.below hb9
                have hg9 := ChgS.of_below (S := fun k => k = b) hb9
                have hz9 := hg9.size
                (try simp only [World.size_alloc, World.size_setCell, World.size_drew, World.heap_drewN] at hz9)
                have VR_9 := VR_8.below hb9
                have vR0_9 := VR_9.2.1 0 _ rfl
                have vR1_9 := VR_9.2.1 1 _ rfl
                have vRf_9 := VR_9.2.2; have vRl_9 := VR_9.1
                have htl := trim_len ys
                have ho2 := ho.mono (B' := w.heap.size + 1) (by omega)
                go_wp2_with fail
                refine name_worldB (fun WF hWF => ?_)
                have XF : Box WF (w.heap.size) [.bool B9, .slice a l c] := by subst hWF; exact Box.set (Box.set (VR_9) 0 (by simp) _) 1 (by simp) _
                have OF : Own WF w.heap.size (.slice a l c) (trim ys) := by subst hWF; exact Own.mono (B := w.heap.size + 1) (by (repeat' (first | (with_reducible assumption) | (with_reducible refine Own.alloc ?_ _) | (with_reducible refine Own.drewR ?_) | (with_reducible refine Own.set ?_ (by first | omega | (simp; done) | (simp; omega)) _) | fail))) (by omega)
                have hCF : CurAt WF b (KA + 4 * acc.length + 2 + 2 + 2) := by subst hWF; (repeat' (first | (with_reducible assumption) | (with_reducible refine CurAt.alloc ?_ _) | (with_reducible refine CurAt.set ?_ (by first | omega | (simp; done) | (simp; omega)) _) | (with_reducible refine CurAt.drewN ?_ _) | (with_reducible refine CurAt.drew ?_)))
                have hGF : ChgS (fun k => k = b) w WF := by subst hWF; (repeat' (first | (with_reducible exact ChgS.refl _ _) | (with_reducible assumption) | (with_reducible refine ChgS.alloc ?_ _) | (with_reducible refine ChgS.setN ?_ (.inr (by first | omega | (simp; done) | (simp; omega))) _) | (with_reducible refine ChgS.drewNX ?_ _) | (with_reducible refine ChgS.drewX ?_) | (refine ChgS.then2 (by with_reducible assumption) ?_)))
                clear hWF
                have k0 := XF.2.1 0 _ rfl; have k1 := XF.2.1 1 _ rfl; have kl := XF.1
                refine bodyPost_ret (v := .agg #[.bool B9, .slice a l c]) (by simp [results, Tryd.results66, go_sem, kl, k0, k1]) rfl ?_
                exact GRW4.of rfl OF (by (have : (trim ys).length ≤ ys.length := htl); omega) (hCF.mono (by omega)) hGF
  · skip
    go_wp2_with fail
    refine (pickC (K := K + 2) ?_ ?_ ?_ ?_).mono ?_
    · (repeat' (first | (with_reducible assumption) | (with_reducible refine CurAt.alloc ?_ _) | (with_reducible refine CurAt.set ?_ (by first | omega | (simp; done) | (simp; omega)) _) | (with_reducible refine CurAt.drewN ?_ _) | (with_reducible refine CurAt.drew ?_)))
    · omega
    · omega
    · omega
    rintro e2 w2 ⟨r2, rfl, ra2, rb2, hc2, hg2⟩
    have hz2 := hg2.size
    (try simp only [World.size_alloc, World.size_setCell, World.size_drew, World.heap_drewN] at hz2)
    clear hc1
    have VR_2 : Box w2 (w.heap.size) [.bool false, .slice none 0 0] := by refine Box.chg ?_ hg2 (by show ¬ _ = _; omega); (repeat' (first | (with_reducible assumption) | (with_reducible apply set0of2) | (with_reducible apply set1of2) | (with_reducible refine Box.alloc ?_ _) | (with_reducible refine Box.drewW ?_) | (with_reducible refine Box.set_ne ?_ (by first | omega | (simp; done) | (simp; omega)) _) | fail))
    have kw2 : wrap64 (r2 - 30000) = r2 - 30000 := win (by omega)
    go_wp2_with fail
    refine (amongC (K := K + 2 + 2) ?_ ?_ ?_ ?_ ?_ ?_ ?_).mono ?_
    · (repeat' (first | (with_reducible assumption) | (with_reducible refine CurAt.alloc ?_ _) | (with_reducible refine CurAt.set ?_ (by first | omega | (simp; done) | (simp; omega)) _) | (with_reducible refine CurAt.drewN ?_ _) | (with_reducible refine CurAt.drew ?_)))
    · omega
    · (first | rfl | (simp; done))
    · rfl
    · (simp; done)
    · (simp; done)
    · rfl
    rintro e3 w3 ⟨r3, RM3, rfl, hc3, hg3⟩
    have hz3 := hg3.size
    (try simp only [World.size_alloc, World.size_setCell, World.size_drew, World.heap_drewN] at hz3)
    clear hc2
    have VR_3 : Box w3 (w.heap.size) [.bool false, .slice none 0 0] := by refine Box.chg ?_ hg3 (by show ¬ _ = _; omega); (repeat' (first | (with_reducible assumption) | (with_reducible apply set0of2) | (with_reducible apply set1of2) | (with_reducible refine Box.alloc ?_ _) | (with_reducible refine Box.drewW ?_) | (with_reducible refine Box.set_ne ?_ (by first | omega | (simp; done) | (simp; omega)) _) | fail))
    have hN1 : -9223372036854775807 ≤ r3 ∧ r3 ≤ 9223372036854775807 := by
      simp [kw2] at RM3; omega
    clear RM3
    go_wp2_with fail
    refine (bgOf_any r3 hN1.1 hN1.2 _).mono ?_
    rintro e4 w4 ⟨a, l, c, rfl, ho, hb4⟩
    have hc4 := hc3.below hb4
    have hg4 := ChgS.of_below (S := fun k => k = b) hb4
    have hz4 := hg4.size
    (try simp only [World.size_alloc, World.size_setCell, World.size_drew, World.heap_drewN] at hz4)
    have VR_4 := VR_3.below hb4
    have vR0_4 := VR_4.2.1 0 _ rfl
    have vR1_4 := VR_4.2.1 1 _ rfl
    have vRf_4 := VR_4.2.2; have vRl_4 := VR_4.1
    have hdl := dg_len r3.natAbs (by omega)
    have ho2 := ho.mono (B' := w.heap.size + 1) (by omega)
    go_wp2_with fail
    refine name_worldB (fun WF hWF => ?_)
    have XF : Box WF (w.heap.size) [.bool (decide (r3 < 0)), .slice a l c] := by subst hWF; exact Box.set (Box.set (VR_4) 0 (by simp) _) 1 (by simp) _
    have OF : Own WF w.heap.size (.slice a l c) (dg r3.natAbs) := by subst hWF; exact Own.mono (B := w.heap.size + 1) (by (repeat' (first | (with_reducible assumption) | (with_reducible refine Own.alloc ?_ _) | (with_reducible refine Own.drewR ?_) | (with_reducible refine Own.set ?_ (by first | omega | (simp; done) | (simp; omega)) _) | fail))) (by omega)
    have hCF : CurAt WF b (K + 2 + 2 + 2) := by subst hWF; (repeat' (first | (with_reducible assumption) | (with_reducible refine CurAt.alloc ?_ _) | (with_reducible refine CurAt.set ?_ (by first | omega | (simp; done) | (simp; omega)) _) | (with_reducible refine CurAt.drewN ?_ _) | (with_reducible refine CurAt.drew ?_)))
    have hGF : ChgS (fun k => k = b) w WF := by subst hWF; (repeat' (first | (with_reducible exact ChgS.refl _ _) | (with_reducible assumption) | (with_reducible refine ChgS.alloc ?_ _) | (with_reducible refine ChgS.setN ?_ (.inr (by first | omega | (simp; done) | (simp; omega))) _) | (with_reducible refine ChgS.drewNX ?_ _) | (with_reducible refine ChgS.drewX ?_) | (refine ChgS.then2 (by with_reducible assumption) ?_)))
    clear hWF
    have k0 := XF.2.1 0 _ rfl; have k1 := XF.2.1 1 _ rfl; have kl := XF.1
    refine bodyPost_ret (v := .agg #[.bool (decide (r3 < 0)), .slice a l c]) (by simp [results, Tryd.results66, go_sem, kl, k0, k1]) rfl ?_
    exact GRW4.of rfl OF (by omega) (hCF.mono (by omega)) hGF

set_option maxRecDepth 100000 in
set_option maxHeartbeats 8000000 in
theorem anyWholeC {b K : Nat} {w : World} (h : CurAt w b K) (hK : K ≤ 10000000) : Calls Tryd.prog 53 #[.pointer (some ⟨b, 0, none⟩)] w (GRW1 b (K + 2020) w) := by
  have hblt := h.lt
  go_enter Tryd.func53, Tryd.ntmps53
  go_wp2_with fail
  refine name_worldC (fun W1 hW1 => ?_)
  have hC1 : CurAt W1 b (K) := by subst hW1; (repeat' (first | (with_reducible assumption) | (with_reducible refine CurAt.alloc ?_ _) | (with_reducible refine CurAt.set ?_ (by first | omega | (simp; done) | (simp; omega)) _) | (with_reducible refine CurAt.drewN ?_ _) | (with_reducible refine CurAt.drew ?_)))
  have hG1 : ChgS (fun k => k = b) w W1 := by subst hW1; (repeat' (first | (with_reducible exact ChgS.refl _ _) | (with_reducible assumption) | (with_reducible refine ChgS.alloc ?_ _) | (with_reducible refine ChgS.setN ?_ (.inr (by first | omega | (simp; done) | (simp; omega))) _) | (with_reducible refine ChgS.drewNX ?_ _) | (with_reducible refine ChgS.drewX ?_) | (refine ChgS.then2 (by with_reducible assumption) ?_)))
  have VR_0 : Box W1 (w.heap.size) [.bool false, .slice none 0 0] := by subst hW1; exact box_two (by first | omega | (simp; done) | (simp; omega)) (by simp [go_sem]) (by simp [go_sem]) (fun o => by simp [go_sem])
  have hz0 := VR_0.1
  clear hW1
  refine (wholeC (K := K) hC1 (by omega)).mono ?_
  rintro e1 w1 ⟨n, a, l, c, xs, rfl, O1, hxl, hc1, hg1⟩
  have VR_1 := VR_0.chg hg1 (by show ¬ _ = _; omega)
  have hz1 := hg1.size
  have O1' := O1.mono (B' := w.heap.size + 1) (by omega)
  have hsep : ∀ k, (Value.slice a l c).ownBlock = some k → k ≠ w1.heap.size := fun k hk => Nat.ne_of_lt (Own.lt O1 hk).1
  have hG2 := hG1.trans hg1
  clear O1 hG1 hC1 VR_0 hg1
  go_wp2_with fail
  refine name_worldC (fun V2 hV2 => ?_)
  have hcV : CurAt V2 b (K + 2000) := by subst hV2; (repeat' (first | (with_reducible assumption) | (with_reducible refine CurAt.alloc ?_ _) | (with_reducible refine CurAt.set ?_ (by first | omega | (simp; done) | (simp; omega)) _) | (with_reducible refine CurAt.drewN ?_ _) | (with_reducible refine CurAt.drew ?_)))
  have hgV : ChgS (fun k => k = b) w V2 := by subst hV2; (repeat' (first | (with_reducible exact ChgS.refl _ _) | (with_reducible assumption) | (with_reducible refine ChgS.alloc ?_ _) | (with_reducible refine ChgS.setN ?_ (.inr (by first | omega | (simp; done) | (simp; omega))) _) | (with_reducible refine ChgS.drewNX ?_ _) | (with_reducible refine ChgS.drewX ?_) | (refine ChgS.then2 (by with_reducible assumption) ?_)))
  have VRV : Box V2 (w.heap.size) [.bool false, .slice none 0 0] := by subst hV2; (repeat' (first | (with_reducible assumption) | (with_reducible apply set0of2) | (with_reducible apply set1of2) | (with_reducible refine Box.alloc ?_ _) | (with_reducible refine Box.drewW ?_) | (with_reducible refine Box.set_ne ?_ (by first | omega | (simp; done) | (simp; omega)) _) | fail))
  have BEV : Box V2 (w1.heap.size) [.bool n, .slice a l c] := by subst hV2; exact box_two (by first | omega | (simp; done) | (simp; omega)) (by simp [go_sem]) (by simp [go_sem]) (fun o => by simp [go_sem])
  have OEV : Own V2 (w.heap.size + 1) (.slice a l c) xs := by subst hV2; (repeat' (first | (with_reducible assumption) | (with_reducible refine Own.alloc ?_ _) | (with_reducible refine Own.drewR ?_) | (with_reducible refine Own.set ?_ (by first | omega | (simp; done) | (simp; omega)) _) | fail))
  clear hV2
  refine (pickC (K := K + 2000) hcV (by omega) (by omega) (by omega)).mono ?_
  rintro e2 w2 ⟨r2, rfl, ra2, rb2, hc2, hg2⟩
  have VR_2 := VRV.chg hg2 (by show ¬ _ = _; omega)
  have BE_2 := BEV.chg hg2 (by show ¬ _ = _; omega)
  have OE_2 := OEV.chgB hg2 (by omega)
  have hz2 := hg2.size; have hG3 := hgV.trans hg2
  clear hcV hgV VRV BEV OEV hg2 hc1 VR_1 O1' hG2
  have hle := BE_2.1; have hlr := VR_2.1
  by_cases hs2_0 : r2 = 0
  · subst hs2_0
    have e0 := BE_2.2.1 0 _ rfl; have e1 := BE_2.2.1 1 _ rfl; have ef := BE_2.2.2; have el := BE_2.1
    have v0 := VR_2.2.1 0 _ rfl; have v1 := VR_2.2.1 1 _ rfl; have vf := VR_2.2.2; have vl := VR_2.1
    go_wp2_with (first | (at_builtin; refine wpl_appW rfl _ _ rfl (w.heap.size + 1) _ xs rfl (OE_2.alloc _) w2.heap.size 0 1 1 [0] rfl rfl (by omega) (by intro i hi; obtain rfl : i = 0 := (by omega); simp) (by omega) (by first | omega | (simp; omega)) ?_; intro g' cap' w3 ho3 hon3 hor3 hlt3; have hs3 := hon3.size; (try simp only [World.size_alloc] at hs3); (try simp only [World.size_alloc] at hor3); have BE_3 : Box w3 (w1.heap.size) _ := Box.only (Box.alloc BE_2 _) hon3 hsep; have VR_3 : Box w3 (w.heap.size) _ := Box.only (Box.alloc VR_2 _) hon3 (fun k hk => by have := (Own.lt OE_2 hk).2; omega); have hb3 : Below (w.heap.size + 1) _ w3 := Only.below hon3 (by first | omega | (simp; omega)) (fun k hk => (Own.lt OE_2 hk).2); have hc3 : CurAt w3 b (K + 2000 + 2) := CurAt.belowN (CurAt.alloc hc2 _) hb3 (by omega); have hG4 : ChgS (fun k => k = b) w w3 := ChgS.stepN (ChgS.alloc hG3 _) hb3 (by omega); have hsep3 := sep_next (n := xs.length + 1) (c := cap') hor3 hsep (by first | omega | (simp; omega)); have e0 := BE_3.2.1 0 _ rfl; have e1 := BE_3.2.1 1 _ rfl; have ef := BE_3.2.2; have el := BE_3.1; have v0 := VR_3.2.1 0 _ rfl; have v1 := VR_3.2.1 1 _ rfl; have vf := VR_3.2.2; have vl := VR_3.1))
    refine name_worldB (fun WF hWF => ?_)
    have XF : Box WF (w.heap.size) [.bool n, .slice (some ⟨g', 0, none⟩) (xs.length + 1) cap'] := by subst hWF; (repeat' (first | (with_reducible assumption) | (with_reducible apply set0of2) | (with_reducible apply set1of2) | (with_reducible refine Box.alloc ?_ _) | (with_reducible refine Box.drewW ?_) | (with_reducible refine Box.set_ne ?_ (by first | omega | (simp; done) | (simp; omega)) _) | fail))
    have OF : Own WF w.heap.size (.slice (some ⟨g', 0, none⟩) (xs.length + 1) cap') (xs ++ [0]) := by subst hWF; exact Own.mono (B := w.heap.size + 1) (by (repeat' (first | (with_reducible assumption) | (with_reducible refine Own.alloc ?_ _) | (with_reducible refine Own.drewR ?_) | (with_reducible refine Own.set ?_ (by first | omega | (simp; done) | (simp; omega)) _) | (with_reducible refine Own.set_sep ?_ (fun k hk => hsep3 k hk) _) | fail))) (by omega)
    have hCF : CurAt WF b (K + 2000 + 2) := by subst hWF; (repeat' (first | (with_reducible assumption) | (with_reducible refine CurAt.alloc ?_ _) | (with_reducible refine CurAt.set ?_ (by first | omega | (simp; done) | (simp; omega)) _) | (with_reducible refine CurAt.drewN ?_ _) | (with_reducible refine CurAt.drew ?_)))
    have hGF : ChgS (fun k => k = b) w WF := by subst hWF; (repeat' (first | (with_reducible exact ChgS.refl _ _) | (with_reducible assumption) | (with_reducible refine ChgS.alloc ?_ _) | (with_reducible refine ChgS.setN ?_ (.inr (by first | omega | (simp; done) | (simp; omega))) _) | (with_reducible refine ChgS.drewNX ?_ _) | (with_reducible refine ChgS.drewX ?_) | (refine ChgS.then2 (by with_reducible assumption) ?_)))
    clear hWF
    have k0 := XF.2.1 0 _ rfl; have k1 := XF.2.1 1 _ rfl; have kl := XF.1
    refine bodyPost_ret (v := .agg #[.bool n, .slice (some ⟨g', 0, none⟩) (xs.length + 1) cap']) (by simp [results, Tryd.results53, go_sem, kl, k0, k1]) rfl ?_
    exact GRW1.of rfl OF (by simp; omega) (hCF.mono (by omega)) hGF
  · have hq2_0 : (r2 == 0) = false := by simpa using hs2_0
    by_cases hs2_1 : r2 = 1
    · subst hs2_1
      obtain ⟨KC, hKC⟩ : ∃ KC : Nat, KC = K + 2000 + 2 := ⟨_, rfl⟩; rw [← hKC] at hc2
      have e0 := BE_2.2.1 0 _ rfl; have e1 := BE_2.2.1 1 _ rfl; have ef := BE_2.2.2; have el := BE_2.1
      have v0 := VR_2.2.1 0 _ rfl; have v1 := VR_2.2.1 1 _ rfl; have vf := VR_2.2.2; have vl := VR_2.1
      have hll := OE_2.len; subst hll
      by_cases hl0 : xs.length = 0
      · have hl1 : ¬ (0 : Int) < (xs.length : Int) := by omega
        obtain rfl : xs = [] := List.length_eq_zero_iff.1 hl0
        have OE9 : Own w2 (w.heap.size + 1) (.slice a 0 c) [] := OE_2
        go_wp2_with fail
        refine name_worldB (fun WF hWF => ?_)
        have XF : Box WF (w.heap.size) [.bool n, .slice a 0 c] := by subst hWF; (repeat' (first | (with_reducible assumption) | (with_reducible apply set0of2) | (with_reducible apply set1of2) | (with_reducible refine Box.alloc ?_ _) | (with_reducible refine Box.drewW ?_) | (with_reducible refine Box.set_ne ?_ (by first | omega | (simp; done) | (simp; omega)) _) | fail))
        have OF : Own WF w.heap.size (.slice a 0 c) [] := by subst hWF; exact Own.mono (B := w.heap.size + 1) (by (repeat' (first | (with_reducible assumption) | (with_reducible refine Own.alloc ?_ _) | (with_reducible refine Own.drewR ?_) | (with_reducible refine Own.set ?_ (by first | omega | (simp; done) | (simp; omega)) _) | fail))) (by omega)
        have hCF : CurAt WF b (KC) := by subst hWF; (repeat' (first | (with_reducible assumption) | (with_reducible refine CurAt.alloc ?_ _) | (with_reducible refine CurAt.set ?_ (by first | omega | (simp; done) | (simp; omega)) _) | (with_reducible refine CurAt.drewN ?_ _) | (with_reducible refine CurAt.drew ?_)))
        have hGF : ChgS (fun k => k = b) w WF := by subst hWF; (repeat' (first | (with_reducible exact ChgS.refl _ _) | (with_reducible assumption) | (with_reducible refine ChgS.alloc ?_ _) | (with_reducible refine ChgS.setN ?_ (.inr (by first | omega | (simp; done) | (simp; omega))) _) | (with_reducible refine ChgS.drewNX ?_ _) | (with_reducible refine ChgS.drewX ?_) | (refine ChgS.then2 (by with_reducible assumption) ?_)))
        clear hWF
        have k0 := XF.2.1 0 _ rfl; have k1 := XF.2.1 1 _ rfl; have kl := XF.1
        refine bodyPost_ret (v := .agg #[.bool n, .slice a 0 c]) (by simp [results, Tryd.results53, go_sem, kl, k0, k1]) rfl ?_
        exact GRW1.of rfl OF (by simp) (hCF.mono (by omega)) hGF
      · have hl1 : (0 : Int) < (xs.length : Int) := by omega
        obtain ⟨g, rfl, hg1, hg2⟩ := OE_2.pt (by omega)
        have hge : g ≠ w1.heap.size := hsep g (by simp [Value.ownBlock])
        have hl2 : 0 < xs.length := by omega
        go_wp2_with fail
        refine wp_region_x (fun w' => w'.cell? ⟨w1.heap.size, 1, none⟩ = some (.slice (some ⟨g, 0, none⟩) xs.length c)) (fun i => decide (i < 6)) (by kernel_rfl) ?_ (fun hHeld => ?_)
        focus ((try dsimp only); (refine Box.c1 (x := .bool n) ?_; (repeat' (first | (with_reducible assumption) | (with_reducible apply set0of2) | (with_reducible apply set1of2) | (with_reducible refine Box.alloc ?_ _) | (with_reducible refine Box.drewW ?_) | (with_reducible refine Box.set_ne ?_ (by first | omega | (simp; done) | (simp; omega)) _) | fail))))
        refine wpAnyX_take (v := ?_) 0 rfl (by kernel_rfl) (by kernel_rfl) (by kernel_rfl) (by kernel_rfl) (by kernel_rfl) (fun _ _ _ h => h) (by rfl) ?_ (by assumption) ?_
        rotate_left
        focus (intro w hSw; (try dsimp only at hSw); go_simp; (try with_reducible rfl))
        (try simp only [Act.put, List.setIfInBounds_toArray, List.set_cons_zero, List.set_cons_succ])
        refine wpAnyX_take (v := ?_) 1 rfl (by kernel_rfl) (by kernel_rfl) (by kernel_rfl) (by kernel_rfl) (by kernel_rfl) (fun _ _ _ h => h) (by rfl) ?_ (by assumption) ?_
        rotate_left
        focus (intro w hSw; (try dsimp only at hSw); go_simp; (try with_reducible rfl))
        (try simp only [Act.put, List.setIfInBounds_toArray, List.set_cons_zero, List.set_cons_succ])
        refine wpAnyX_take (v := ?_) 2 rfl (by kernel_rfl) (by kernel_rfl) (by kernel_rfl) (by kernel_rfl) (by kernel_rfl) (fun _ _ _ h => h) (by rfl) ?_ (by assumption) ?_
        rotate_left
        focus (intro w hSw; (try dsimp only at hSw); go_simp; (try with_reducible rfl))
        (try simp only [Act.put, List.setIfInBounds_toArray, List.set_cons_zero, List.set_cons_succ])
        refine wpAnyX_one 3 rfl (by kernel_rfl) (fun K hK => ?_)
        go_simp
        clear hHeld
        refine hK.out _ _ ?_ (fun hHeld => ?_)
        focus ((try dsimp only); (refine Box.c1 (x := .bool n) ?_; (repeat' (first | (with_reducible assumption) | (with_reducible apply set0of2) | (with_reducible apply set1of2) | (with_reducible refine Box.alloc ?_ _) | (with_reducible refine Box.drewW ?_) | (with_reducible refine Box.set_ne ?_ (by first | omega | (simp; done) | (simp; omega)) _) | fail))))
        clear hK K
        (try simp only [Act.put, List.setIfInBounds_toArray, List.set_cons_zero, List.set_cons_succ])
        refine wpAnyX_one 4 rfl (by kernel_rfl) (fun K hK => ?_)
        go_simp
        (go_at_call 23; refine (amongS (K := KC) (by (repeat' (first | (with_reducible assumption) | (with_reducible refine CurAt.alloc ?_ _) | (with_reducible refine CurAt.set ?_ (by first | omega | (simp; done) | (simp; omega)) _) | (with_reducible refine CurAt.drewN ?_ _) | (with_reducible refine CurAt.drew ?_)))) (by omega) (by (repeat' (first | (with_reducible assumption) | (with_reducible exact IBox.made (by first | rfl | (simp; done) | fail) rfl rfl) | (with_reducible refine IBox.alloc ?_ _) | (with_reducible refine IBox.setI ?_ _ _) | (with_reducible refine IBox.drewN ?_ _) | (with_reducible refine IBox.drew ?_)))) (by show ¬ _ = _; omega) (by omega) (by omega)).mono ?_; rintro e3 w3 ⟨r3, rfl, hc3, hg3⟩; have hz3 := hg3.size; (try simp only [World.size_alloc, World.size_setCell, World.size_drew, World.heap_drewN] at hz3); have BE_3 : Box w3 (w1.heap.size) [.bool n, .slice (some ⟨g, 0, none⟩) xs.length c] := Box.chg (by (repeat' (first | (with_reducible assumption) | (with_reducible apply set0of2) | (with_reducible apply set1of2) | (with_reducible refine Box.alloc ?_ _) | (with_reducible refine Box.drewW ?_) | (with_reducible refine Box.set_ne ?_ (by first | omega | (simp; done) | (simp; omega)) _) | fail))) hg3 (by show ¬ _ = _; omega); have VR_3 : Box w3 (w.heap.size) [.bool false, .slice none 0 0] := Box.chg (by (repeat' (first | (with_reducible assumption) | (with_reducible apply set0of2) | (with_reducible apply set1of2) | (with_reducible refine Box.alloc ?_ _) | (with_reducible refine Box.drewW ?_) | (with_reducible refine Box.set_ne ?_ (by first | omega | (simp; done) | (simp; omega)) _) | fail))) hg3 (by show ¬ _ = _; omega); have OE_3 : Own w3 (w.heap.size + 1) (.slice (some ⟨g, 0, none⟩) xs.length c) xs := Own.chgB (by (repeat' (first | (with_reducible assumption) | (with_reducible refine Own.alloc ?_ _) | (with_reducible refine Own.drewR ?_) | (with_reducible refine Own.set ?_ (by first | omega | (simp; done) | (simp; omega)) _) | fail))) hg3 (by omega); have hat := OE_3.at 0 (by omega); have hat1 := hat.1; have hat2 := hat.2; have e0 := BE_3.2.1 0 _ rfl; have e1 := BE_3.2.1 1 _ rfl; have ef := BE_3.2.2; have el := BE_3.1; have v0 := VR_3.2.1 0 _ rfl; have v1 := VR_3.2.1 1 _ rfl; have vf := VR_3.2.2; have vl := VR_3.1)
        go_wp2_with fail
        clear hHeld
        refine hK.out _ _ ?_ (fun hHeld => ?_)
        focus ((try dsimp only); (refine Box.c1 (x := .bool n) ?_; (repeat' (first | (with_reducible assumption) | (with_reducible apply set0of2) | (with_reducible apply set1of2) | (with_reducible refine Box.alloc ?_ _) | (with_reducible refine Box.drewW ?_) | (with_reducible refine Box.set_ne ?_ (by first | omega | (simp; done) | (simp; omega)) _) | fail))))
        clear hK K
        (try simp only [Act.put, List.setIfInBounds_toArray, List.set_cons_zero, List.set_cons_succ])
        refine wpAnyX_take (v := ?_) 5 rfl (by kernel_rfl) (by kernel_rfl) (by kernel_rfl) (by kernel_rfl) (by kernel_rfl) (fun _ _ _ h => h) (by rfl) ?_ (by assumption) ?_
        rotate_left
        focus (intro w hSw; (try dsimp only at hSw); go_simp; (try with_reducible rfl))
        (try simp only [Act.put, List.setIfInBounds_toArray, List.set_cons_zero, List.set_cons_succ])
        refine wpAnyX_last (D := fun i => decide (i < 6)) 6 rfl (by kernel_rfl) (by rfl) (fun K hK => ?_)
        go_simp
        refine hK.out _ _ ?_
        clear hK K
        (try simp only [Act.put, List.setIfInBounds_toArray, List.set_cons_zero, List.set_cons_succ])
        refine wpAnyX_done (by kernel_rfl) ?_ _
        refine NoPanic.normal ?_
        go_wp2_with fail
        refine name_worldB (fun WF hWF => ?_)
        have XF : Box WF (w.heap.size) [.bool n, .slice (some ⟨g, 0, none⟩) xs.length c] := by subst hWF; (repeat' (first | (with_reducible assumption) | (with_reducible apply set0of2) | (with_reducible apply set1of2) | (with_reducible refine Box.alloc ?_ _) | (with_reducible refine Box.drewW ?_) | (with_reducible refine Box.set_ne ?_ (by first | omega | (simp; done) | (simp; omega)) _) | fail))
        have OF : Own WF w.heap.size (.slice (some ⟨g, 0, none⟩) xs.length c) (xs.set 0 r3) := by subst hWF; exact Own.mono (B := w.heap.size + 1) (by (repeat' (first | (with_reducible assumption) | (with_reducible refine Own.alloc ?_ _) | (with_reducible refine Own.drewR ?_) | (with_reducible refine Own.set ?_ (by first | omega | (simp; done) | (simp; omega)) _) | (with_reducible refine Own.put ?_ 0 _) | fail))) (by omega)
        have hCF : CurAt WF b (KC + 2) := by subst hWF; (repeat' (first | (with_reducible assumption) | (with_reducible refine CurAt.alloc ?_ _) | (with_reducible refine CurAt.set ?_ (by first | omega | (simp; done) | (simp; omega)) _) | (with_reducible refine CurAt.drewN ?_ _) | (with_reducible refine CurAt.drew ?_)))
        have hGF : ChgS (fun k => k = b) w WF := by subst hWF; (repeat' (first | (with_reducible exact ChgS.refl _ _) | (with_reducible assumption) | (with_reducible refine ChgS.alloc ?_ _) | (with_reducible refine ChgS.setN ?_ (.inr (by first | omega | (simp; done) | (simp; omega))) _) | (with_reducible refine ChgS.drewNX ?_ _) | (with_reducible refine ChgS.drewX ?_) | (refine ChgS.then2 (by with_reducible assumption) ?_)))
        clear hWF
        have k0 := XF.2.1 0 _ rfl; have k1 := XF.2.1 1 _ rfl; have kl := XF.1
        refine bodyPost_ret (v := .agg #[.bool n, .slice (some ⟨g, 0, none⟩) xs.length c]) (by simp [results, Tryd.results53, go_sem, kl, k0, k1]) rfl ?_
        exact GRW1.of rfl OF (by simp; omega) (hCF.mono (by omega)) hGF
    · have hq2_1 : (r2 == 1) = false := by simpa using hs2_1
      by_cases hs2_2 : r2 = 2
      · subst hs2_2
        have e0 := BE_2.2.1 0 _ rfl; have e1 := BE_2.2.1 1 _ rfl; have ef := BE_2.2.2; have el := BE_2.1
        have v0 := VR_2.2.1 0 _ rfl; have v1 := VR_2.2.1 1 _ rfl; have vf := VR_2.2.2; have vl := VR_2.1
        go_wp2_with fail
        refine name_worldB (fun WF hWF => ?_)
        have XF : Box WF (w.heap.size) [.bool true, .slice none 0 0] := by subst hWF; (repeat' (first | (with_reducible assumption) | (with_reducible apply set0of2) | (with_reducible apply set1of2) | (with_reducible refine Box.alloc ?_ _) | (with_reducible refine Box.drewW ?_) | (with_reducible refine Box.set_ne ?_ (by first | omega | (simp; done) | (simp; omega)) _) | fail))
        have OF : Own WF w.heap.size (.slice none 0 0) [] := by subst hWF; exact Own.nil _ _
        have hCF : CurAt WF b (K + 2000 + 2) := by subst hWF; (repeat' (first | (with_reducible assumption) | (with_reducible refine CurAt.alloc ?_ _) | (with_reducible refine CurAt.set ?_ (by first | omega | (simp; done) | (simp; omega)) _) | (with_reducible refine CurAt.drewN ?_ _) | (with_reducible refine CurAt.drew ?_)))
        have hGF : ChgS (fun k => k = b) w WF := by subst hWF; (repeat' (first | (with_reducible exact ChgS.refl _ _) | (with_reducible assumption) | (with_reducible refine ChgS.alloc ?_ _) | (with_reducible refine ChgS.setN ?_ (.inr (by first | omega | (simp; done) | (simp; omega))) _) | (with_reducible refine ChgS.drewNX ?_ _) | (with_reducible refine ChgS.drewX ?_) | (refine ChgS.then2 (by with_reducible assumption) ?_)))
        clear hWF
        have k0 := XF.2.1 0 _ rfl; have k1 := XF.2.1 1 _ rfl; have kl := XF.1
        refine bodyPost_ret (v := .agg #[.bool true, .slice none 0 0]) (by simp [results, Tryd.results53, go_sem, kl, k0, k1]) rfl ?_
        exact GRW1.of rfl OF (by simp) (hCF.mono (by omega)) hGF
      · have hq2_2 : (r2 == 2) = false := by simpa using hs2_2
        by_cases hs2_3 : r2 = 3
        · subst hs2_3
          go_wp2_with fail
          go_loopw [] (fun wr => ∃ (a : Option Addr) (l c : Nat) (ys : List Int), Box wr (w1.heap.size) [.bool n, .slice a l c] ∧ Own wr (w.heap.size + 1) (.slice a l c) ys ∧ ys.length ≤ 401 ∧ (∀ k, (Value.slice a l c).ownBlock = some k → k ≠ w1.heap.size) ∧ CurAt wr b (K + 2000 + 2) ∧ Box wr (w.heap.size) [.bool false, .slice none 0 0] ∧ ChgS (fun k => k = b) w wr) (fun wr => 401 - (match wr.cell? ⟨w1.heap.size, 1, none⟩ with | some v => lenV v | none => 0))
          case atStart => exact ⟨a, l, c, xs, BE_2, OE_2, by omega, hsep, hc2, VR_2, hG3⟩
          case round =>
            obtain ⟨sa, sl, sc, ys, BEr, OEr, hyl, hsr, hcr, VRr, hgr⟩ := hrel
            have hll := OEr.len; subst hll
            clear BE_2 OE_2 hc2 VR_2 hG3
            have hzr := hgr.size; have ler := BEr.1; have lrr := VRr.1
            have e0 := BEr.2.1 0 _ rfl; have e1 := BEr.2.1 1 _ rfl; have ef := BEr.2.2
            have v0 := VRr.2.1 0 _ rfl; have v1 := VRr.2.1 1 _ rfl; have vf := VRr.2.2
            by_cases hlt : ys.length < 401
            · have hlt2 : (ys.length : Int) < 401 := by omega
              have hltH := Lib.hid hlt
              go_wp2_with (first | (at_builtin; refine wpl_appW rfl _ _ rfl (w.heap.size + 1) _ ys rfl (OEr.alloc _) wr.heap.size 0 1 1 [7] rfl rfl (by omega) (by intro i hi; obtain rfl : i = 0 := (by omega); simp) (by omega) (by first | omega | (simp; omega)) ?_; intro g' cap' w3 ho3 hon3 hor3 hlt3; have hs3 := hon3.size; (try simp only [World.size_alloc] at hs3); (try simp only [World.size_alloc] at hor3); have BE_3 : Box w3 (w1.heap.size) _ := Box.only (Box.alloc BEr _) hon3 hsr; have VR_3 : Box w3 (w.heap.size) _ := Box.only (Box.alloc VRr _) hon3 (fun k hk => by have := (Own.lt OEr hk).2; omega); have hb3 : Below (w.heap.size + 1) _ w3 := Only.below hon3 (by first | omega | (simp; omega)) (fun k hk => (Own.lt OEr hk).2); have hc3 : CurAt w3 b (K + 2000 + 2) := CurAt.belowN (CurAt.alloc hcr _) hb3 (by omega); have hG4 : ChgS (fun k => k = b) w w3 := ChgS.stepN (ChgS.alloc hgr _) hb3 (by omega); have hsep3 := sep_next (n := ys.length + 1) (c := cap') hor3 hsr (by first | omega | (simp; omega)); have f0 := BE_3.2.1 0 _ rfl; have f1 := BE_3.2.1 1 _ rfl; have ff := BE_3.2.2; have fl := BE_3.1))
              go_roundw
              case rel => exact ⟨some ⟨g', 0, none⟩, ys.length + 1, cap', ys ++ [7], by (repeat' (first | (with_reducible assumption) | (with_reducible apply set0of2) | (with_reducible apply set1of2) | (with_reducible refine Box.alloc ?_ _) | (with_reducible refine Box.drewW ?_) | (with_reducible refine Box.set_ne ?_ (by first | omega | (simp; done) | (simp; omega)) _) | fail)), by (repeat' (first | (with_reducible assumption) | (with_reducible refine Own.alloc ?_ _) | (with_reducible refine Own.drewR ?_) | (with_reducible refine Own.set ?_ (by first | omega | (simp; done) | (simp; omega)) _) | (with_reducible refine Own.set_sep ?_ (fun k hk => hsep3 k hk) _) | fail)), by simp; omega, hsep3, by (repeat' (first | (with_reducible assumption) | (with_reducible refine CurAt.alloc ?_ _) | (with_reducible refine CurAt.set ?_ (by first | omega | (simp; done) | (simp; omega)) _) | (with_reducible refine CurAt.drewN ?_ _) | (with_reducible refine CurAt.drew ?_))), by (repeat' (first | (with_reducible assumption) | (with_reducible apply set0of2) | (with_reducible apply set1of2) | (with_reducible refine Box.alloc ?_ _) | (with_reducible refine Box.drewW ?_) | (with_reducible refine Box.set_ne ?_ (by first | omega | (simp; done) | (simp; omega)) _) | fail)), by (repeat' (first | (with_reducible exact ChgS.refl _ _) | (with_reducible assumption) | (with_reducible refine ChgS.alloc ?_ _) | (with_reducible refine ChgS.setN ?_ (.inr (by first | omega | (simp; done) | (simp; omega))) _) | (with_reducible refine ChgS.drewNX ?_ _) | (with_reducible refine ChgS.drewX ?_) | (refine ChgS.then2 (by with_reducible assumption) ?_)))⟩
              case measure => (have hm : World.cell? _ ⟨w1.heap.size, 1, none⟩ = some (Value.slice (some ⟨g', 0, none⟩) (ys.length + 1) cap') := (set1of2 (u := .slice (some ⟨g', 0, none⟩) (ys.length + 1) cap') BE_3).2.1 1 _ rfl); simp only [hm, e1, lenV]; exact Nat.sub_lt_sub_left hltH.out (Nat.lt_succ_self _)
            · have hlt2 : ¬ (ys.length : Int) < 401 := by omega
              go_wp2_with fail
              refine name_worldB (fun WF hWF => ?_)
              have XF : Box WF (w.heap.size) [.bool n, .slice sa ys.length sc] := by subst hWF; (repeat' (first | (with_reducible assumption) | (with_reducible apply set0of2) | (with_reducible apply set1of2) | (with_reducible refine Box.alloc ?_ _) | (with_reducible refine Box.drewW ?_) | (with_reducible refine Box.set_ne ?_ (by first | omega | (simp; done) | (simp; omega)) _) | fail))
              have OF : Own WF w.heap.size (.slice sa ys.length sc) ys := by subst hWF; exact Own.mono (B := w.heap.size + 1) (by (repeat' (first | (with_reducible assumption) | (with_reducible refine Own.alloc ?_ _) | (with_reducible refine Own.drewR ?_) | (with_reducible refine Own.set ?_ (by first | omega | (simp; done) | (simp; omega)) _) | fail))) (by omega)
              have hCF : CurAt WF b (K + 2000 + 2) := by subst hWF; (repeat' (first | (with_reducible assumption) | (with_reducible refine CurAt.alloc ?_ _) | (with_reducible refine CurAt.set ?_ (by first | omega | (simp; done) | (simp; omega)) _) | (with_reducible refine CurAt.drewN ?_ _) | (with_reducible refine CurAt.drew ?_)))
              have hGF : ChgS (fun k => k = b) w WF := by subst hWF; (repeat' (first | (with_reducible exact ChgS.refl _ _) | (with_reducible assumption) | (with_reducible refine ChgS.alloc ?_ _) | (with_reducible refine ChgS.setN ?_ (.inr (by first | omega | (simp; done) | (simp; omega))) _) | (with_reducible refine ChgS.drewNX ?_ _) | (with_reducible refine ChgS.drewX ?_) | (refine ChgS.then2 (by with_reducible assumption) ?_)))
              clear hWF
              have k0 := XF.2.1 0 _ rfl; have k1 := XF.2.1 1 _ rfl; have kl := XF.1
              refine bodyPost_ret (v := .agg #[.bool n, .slice sa ys.length sc]) (by simp [results, Tryd.results53, go_sem, kl, k0, k1]) rfl ?_
              exact GRW1.of rfl OF (by omega) (hCF.mono (by omega)) hGF
        · have hq2_3 : (r2 == 3) = false := by simpa using hs2_3
          have e0 := BE_2.2.1 0 _ rfl; have e1 := BE_2.2.1 1 _ rfl; have ef := BE_2.2.2; have el := BE_2.1
          have v0 := VR_2.2.1 0 _ rfl; have v1 := VR_2.2.1 1 _ rfl; have vf := VR_2.2.2; have vl := VR_2.1
          go_wp2_with fail
          refine name_worldB (fun WF hWF => ?_)
          have XF : Box WF (w.heap.size) [.bool n, .slice a l c] := by subst hWF; (repeat' (first | (with_reducible assumption) | (with_reducible apply set0of2) | (with_reducible apply set1of2) | (with_reducible refine Box.alloc ?_ _) | (with_reducible refine Box.drewW ?_) | (with_reducible refine Box.set_ne ?_ (by first | omega | (simp; done) | (simp; omega)) _) | fail))
          have OF : Own WF w.heap.size (.slice a l c) xs := by subst hWF; exact Own.mono (B := w.heap.size + 1) (by (repeat' (first | (with_reducible assumption) | (with_reducible refine Own.alloc ?_ _) | (with_reducible refine Own.drewR ?_) | (with_reducible refine Own.set ?_ (by first | omega | (simp; done) | (simp; omega)) _) | fail))) (by omega)
          have hCF : CurAt WF b (K + 2000 + 2) := by subst hWF; (repeat' (first | (with_reducible assumption) | (with_reducible refine CurAt.alloc ?_ _) | (with_reducible refine CurAt.set ?_ (by first | omega | (simp; done) | (simp; omega)) _) | (with_reducible refine CurAt.drewN ?_ _) | (with_reducible refine CurAt.drew ?_)))
          have hGF : ChgS (fun k => k = b) w WF := by subst hWF; (repeat' (first | (with_reducible exact ChgS.refl _ _) | (with_reducible assumption) | (with_reducible refine ChgS.alloc ?_ _) | (with_reducible refine ChgS.setN ?_ (.inr (by first | omega | (simp; done) | (simp; omega))) _) | (with_reducible refine ChgS.drewNX ?_ _) | (with_reducible refine ChgS.drewX ?_) | (refine ChgS.then2 (by with_reducible assumption) ?_)))
          clear hWF
          have k0 := XF.2.1 0 _ rfl; have k1 := XF.2.1 1 _ rfl; have kl := XF.1
          refine bodyPost_ret (v := .agg #[.bool n, .slice a l c]) (by simp [results, Tryd.results53, go_sem, kl, k0, k1]) rfl ?_
          exact GRW1.of rfl OF (by omega) (hCF.mono (by omega)) hGF

set_option maxRecDepth 100000 in
set_option maxHeartbeats 4000000 in
theorem DrawIsWholeC {a : Option Addr} {l c : Nat} {w : World} (h : Byts w w.heap.size (.slice a l c)) : Calls Tryd.prog 36 #[.slice a l c] w (GDW w) := by
  go_enter Tryd.func36, Tryd.ntmps36
  go_wp2_with fail
  refine name_worldC (fun W1 hW1 => ?_)
  have hB1 : Below w.heap.size w W1 := by subst hW1; exact (by repeat' (first | (with_reducible exact Below.refl _ _) | (with_reducible assumption) | (with_reducible refine Below.alloc ?_ ?_ _) | (with_reducible refine Below.setCell ?_ ?_ _) | (with_reducible refine Below.drew ?_) | (with_reducible refine below_drewN ?_ _) | (apply bthen2; (with_reducible assumption)) | go_size))
  have hC1 : CurAt W1 (w.heap.size + 1) 0 := by
    refine CurAt.first (v := .slice a l c) ?_ (by refine Byts.monoW (h.below hB1 (Nat.le_refl _)) (by omega))
    subst hW1; exact box_three (by first | omega | (simp; done) | (simp; omega)) (by simp [go_sem]) (by simp [go_sem]) (by simp [go_sem]) (fun o => by simp [go_sem])
  have VR_0 : Box W1 (w.heap.size) [.bool false, .slice none 0 0] := by subst hW1; exact box_two (by first | omega | (simp; done) | (simp; omega)) (by simp [go_sem]) (by simp [go_sem]) (fun o => by simp [go_sem])
  have hz0 := hB1.size; have hcl := hC1.lt
  clear hW1
  refine (anyWholeC (K := 0) hC1 (by omega)).mono ?_
  rintro e1 w1 ⟨n1, a1, l1, c1, xs1, rfl, O1, hx1, hc1, hg1⟩
  rw [Nat.zero_add] at hc1
  have hz1 := hg1.size
  have VR_1 := VR_0.chg hg1 (by show ¬ _ = _; omega)
  clear hC1 VR_0
  have vR0 := VR_1.2.1 0 _ rfl; have vR1 := VR_1.2.1 1 _ rfl; have vRf := VR_1.2.2; have vRl := VR_1.1
  go_wp2_with fail
  refine name_worldB (fun WF hWF => ?_)
  have XR : Box WF (w.heap.size) [.bool n1, .slice a1 l1 c1] := by subst hWF; (repeat' (first | (with_reducible assumption) | (with_reducible apply set0of2) | (with_reducible apply set1of2) | (with_reducible refine Box.alloc ?_ _) | (with_reducible refine Box.drewW ?_) | (with_reducible refine Box.set_ne ?_ (by first | omega | (simp; done) | (simp; omega)) _) | fail))
  have IR : Ints WF (.slice a1 l1 c1) xs1 := by subst hWF; exact Own.ints (B := W1.heap.size) (by (repeat' (first | (with_reducible assumption) | (with_reducible refine Own.alloc ?_ _) | (with_reducible refine Own.drewR ?_) | (with_reducible refine Own.set ?_ (by first | omega | (simp; done) | (simp; omega)) _) | fail)))
  have hGF : Below w.heap.size w WF := by subst hWF; (repeat' (first | (with_reducible exact Below.refl _ _) | (with_reducible assumption) | (with_reducible refine Below.alloc ?_ ?_ _) | (with_reducible refine Below.setCell ?_ ?_ _) | (with_reducible refine Below.drew ?_) | (with_reducible refine below_drewN ?_ _) | (refine bthenG (by with_reducible assumption) ?_ ?_ ?_) | (refine bthen3 (by with_reducible assumption) ?_ ?_) | omega | (simp; done) | (simp; omega)))
  clear hWF
  have k0 := XR.2.1 0 _ rfl; have m0 := XR.2.1 1 _ rfl; have kl0 := XR.1
  refine bodyPost_ret (v := .agg #[.bool n1, .slice a1 l1 c1]) (by simp [results, Tryd.results36, go_sem, k0, m0, kl0]) rfl ?_
  exact ⟨_, _, _, _, _, rfl, IR, hx1, hGF⟩

end Go.Proofs.YtfcfjlfobflmaaaDoor
