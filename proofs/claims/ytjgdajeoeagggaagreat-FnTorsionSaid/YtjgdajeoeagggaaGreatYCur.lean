import Derived.Test.YtjgdajeoeagggaaGreatYK5
set_option linter.unusedSimpArgs false
set_option linter.unusedVariables false
namespace Go.Proofs.YtjgdajeoeagggaaGreat
open Go.RowKit
/-! ### the reference's choices from bytes -/
/-- A row of integers of one kind among the arguments. -/
def IsRow (k : IntKind) (w : World) (a : Option Addr) (len cap : Nat) (zs : List Int) : Prop :=
  (a = none ∧ len = 0 ∧ cap = 0 ∧ zs = []) ∨ ∃ x, a = some x ∧ len ≤ cap ∧ cap ≤ maxLen ∧ zs.length = cap ∧ (∀ i, i < zs.length → w.cell? (x.add i) = some (.int k (zs.getD i 0))) ∧ ∀ n ∈ zs, (Lit.int k n).wf = true
/-- The value reads as bytes, whose block lies ahead of b. -/
def Byts (w : World) (b : Nat) (v : Value) : Prop := ∃ a len cap, v = .slice a len cap ∧ len ≤ 9223372036854775807 ∧ ∀ i, i < len → ∃ g off z, a = some ⟨g, off, none⟩ ∧ g < b ∧ w.cell? ⟨g, off + i, none⟩ = some (.int .u8 z) ∧ 0 ≤ z ∧ z ≤ 255
theorem IsRow.byts {w : World} {a : Option Addr} {len cap : Nat} {zs : List Int} (h : IsRow .u8 w a len cap zs) : Byts w w.heap.size (.slice a len cap) := by
  rcases h with ⟨rfl, rfl, rfl, rfl⟩ | ⟨⟨g, off, spot⟩, rfl, hl, hm, hz, hc, hw⟩
  · exact ⟨none, 0, 0, rfl, by omega, fun i h => by omega⟩
  · refine ⟨_, len, cap, rfl, by unfold maxLen at hm; omega, fun i hi => ?_⟩
    have h1 := hc i (by omega)
    have hspot : spot = none := by
      cases spot with
      | none => rfl
      | some q =>
        exfalso
        have h3 := hc 0 (by omega)
        simp [Addr.add, World.cell?] at h3
        split at h3 <;> cases h3
    subst hspot
    have e : (⟨g, off, none⟩ : Addr).add i = ⟨g, off + i, none⟩ := by cases i <;> simp [Addr.add]
    rw [e] at h1
    have h2 := hw (zs.getD i 0) (by
      have : i < zs.length := by omega
      simp [List.getD, this])
    refine ⟨g, off, _, rfl, World.block_lt_of_cell? w _ h1, h1, ?_⟩
    generalize zs.getD i 0 = z at *
    have hmin : IntKind.u8.min = 0 := by rfl
    have hmax : IntKind.u8.max = 255 := by rfl
    simp [Lit.wf, hmin, hmax] at h2
    exact h2
theorem Byts.below {w w' : World} {b N : Nat} {v : Value} (h : Byts w b v) (hb : Below N w w') (hN : b ≤ N) : Byts w' b v := by
  obtain ⟨a, len, cap, hv, hl, hc⟩ := h
  refine ⟨a, len, cap, hv, hl, fun i hi => ?_⟩
  obtain ⟨g, off, z, h1, h2, h3, h4⟩ := hc i hi
  exact ⟨g, off, z, h1, h2, (hb.cell (p := ⟨g, off + i, none⟩) (by show g < N; omega)).trans h3, h4⟩
/-- The chooser lies in block b; at most K bytes have been taken. -/
def CurAt (w : World) (b K : Nat) : Prop := ∃ v n s, Box w b [v, .int .i64 n, .int .u64 s] ∧ Byts w b v ∧ 0 ≤ n ∧ n ≤ (K : Int) ∧ 0 ≤ s ∧ s < 18446744073709551616
theorem CurAt.lt {w : World} {b K : Nat} (h : CurAt w b K) : b < w.heap.size := by obtain ⟨_, _, _, h, -⟩ := h; exact h.1
theorem CurAt.mono {w : World} {b K L : Nat} (h : CurAt w b K) (hL : K ≤ L) : CurAt w b L := by
  obtain ⟨v, n, s, h1, h2, h3, h4, h5⟩ := h
  exact ⟨v, n, s, h1, h2, h3, by omega, h5⟩
theorem CurAt.belowN {w w' : World} {b K N : Nat} (h : CurAt w b K) (hb : Below N w w') (hN : b < N) : CurAt w' b K := by
  obtain ⟨v, n, s, h1, h2, h3⟩ := h
  refine ⟨v, n, s, ⟨Nat.lt_of_lt_of_le h1.1 hb.size, fun i v hi => (hb.cell (p := ⟨b, i, none⟩) hN).trans (h1.2.1 i v hi), fun o => (hb.frozen (p := ⟨b, o, none⟩) hN).trans (h1.2.2 o)⟩, h2.below hb (by omega), h3⟩
theorem CurAt.below {w w' : World} {b K : Nat} (h : CurAt w b K) (hb : Below w.heap.size w w') : CurAt w' b K := h.belowN hb h.lt
theorem CurAt.alloc {w : World} {b K : Nat} (h : CurAt w b K) (o : Obj) : CurAt (w.alloc o) b K := h.below (Below.alloc (Below.refl _ _) (Nat.le_refl _) o)
theorem CurAt.drew {w : World} {b K : Nat} (h : CurAt w b K) : CurAt w.drew b K := h.below (Below.drew (Below.refl _ _))
theorem CurAt.set {w : World} {b K : Nat} {p : Addr} (h : CurAt w b K) (hp : b < p.block) (u : Value) : CurAt (w.setCell p u) b K :=
  h.belowN (N := b + 1) (Below.setCell (Below.refl _ _) (by omega) u) (by omega)
theorem ChgS.setN {S : Nat → Prop} {w w' : World} {p : Addr} (h : ChgS S w w') (hp : S p.block ∨ w.heap.size ≤ p.block) (u : Value) : ChgS S w (w'.setCell p u) := by
  have ho := only_setCell w' p u
  refine ⟨ho.os.trans h.os, ho.tape.trans h.tape, ho.output.trans h.output, Nat.le_trans h.size ho.size, fun k hk hs => ?_⟩
  rw [← h.block k hk hs]
  refine ho.block k (Nat.lt_of_lt_of_le hk h.size) (fun e => ?_)
  have e2 : p.block = k := (Option.some.inj e).symm
  rcases hp with hp | hp
  · rw [e2] at hp; exact hs hp
  · omega
theorem ChgS.drewX {S : Nat → Prop} {w w' : World} (h : ChgS S w w') : ChgS S w w'.drew := ⟨h.os, h.tape, h.output, h.size, h.block⟩
theorem ChgS.drewNX {S : Nat → Prop} {w w' : World} (h : ChgS S w w') : ∀ n, ChgS S w (w'.drewN n)
  | 0 => h
  | n + 1 => ChgS.drewX (ChgS.drewNX h n)
theorem Box.drewN {w : World} {b : Nat} {vs : List Value} (h : Box w b vs) (n : Nat) : Box (w.drewN n) b vs := h.below (below_drewN (Below.refl _ _) n)
theorem Byts.setB {w : World} {b : Nat} {v : Value} (h : Byts w b v) (o : Nat) (u : Value) : Byts (w.setCell ⟨b, o, none⟩ u) b v := by
  obtain ⟨a, len, cap, hv, hl, hc⟩ := h
  refine ⟨a, len, cap, hv, hl, fun i hi => ?_⟩
  obtain ⟨g, off, z, h1, h2, h3, h4⟩ := hc i hi
  refine ⟨g, off, z, h1, h2, ?_, h4⟩
  rw [← h3]
  exact (Below.setCell (Below.refl b w) (Nat.le_refl _) u).cell (p := ⟨g, off + i, none⟩) h2
theorem u64w (x : Int) : 0 ≤ IntKind.u64.wrap x ∧ IntKind.u64.wrap x < 18446744073709551616 := by
  have h : IntKind.u64.wrap x = x % 18446744073709551616 := by rfl
  rw [h]
  omega
theorem and255 (x : Int) (h0 : 0 ≤ x) (h1 : x < 18446744073709551616) : bits BinOp.and IntKind.u64 x 255 = x % 256 := by
  have h : bits BinOp.and IntKind.u64 x 255 = IntKind.u64.wrap ((BitVec.ofInt 64 x &&& BitVec.ofInt 64 255).toNat : Nat) := by rfl
  have e1 : (BitVec.ofInt 64 x).toNat = x.toNat := by
    rw [BitVec.toNat_ofInt]
    omega
  have e2 : (BitVec.ofInt 64 255).toNat = 2 ^ 8 - 1 := by decide
  rw [h, BitVec.toNat_and, e1, e2, Nat.and_two_pow_sub_one_eq_mod]
  have h2 : ∀ y : Int, IntKind.u64.wrap y = y % 18446744073709551616 := fun y => by rfl
  rw [h2]
  omega
theorem CurAt.take {w : World} {b K : Nat} {v : Value} {n s : Int} (hB : Box w b [v, .int .i64 n, .int .u64 s]) (hY : Byts w b v) (h1 : 0 ≤ n) (h2 : n ≤ (K : Int)) (x : Int) : CurAt ((w.setCell ⟨b, 1, none⟩ (.int .i64 (n + 1))).setCell ⟨b, 2, none⟩ (.int .u64 (IntKind.u64.wrap x))) b (K + 1) :=
  ⟨v, n + 1, IntKind.u64.wrap x, Box.set (Box.set hB 1 (by simp) _) 2 (by simp) _, (hY.setB 1 _).setB 2 _, by omega, by omega, (u64w x).1, (u64w x).2⟩
theorem CurAt.drewN {w : World} {b K : Nat} (h : CurAt w b K) (n : Nat) : CurAt (w.drewN n) b K := h.below (below_drewN (Below.refl _ _) n)
theorem ChgS.then2 {S : Nat → Prop} {a b c : World} (k : ChgS S b c) (h : ChgS S a b) : ChgS S a c := h.trans k
theorem ChgS.of_below {S : Nat → Prop} {a b : World} (h : Below a.heap.size a b) : ChgS S a b := ⟨h.os, h.tape, h.output, h.size, fun k hk _ => h.block k hk⟩
/-- The chooser was used, and hands back a number from lo to hi. -/
def GR (b K : Nat) (lo hi : Int) (w : World) (e : Ending) (w' : World) : Prop := ∃ r : Int, e = .returned (.int .i64 r) ∧ lo ≤ r ∧ r ≤ hi ∧ CurAt w' b K ∧ ChgS (fun k => k = b) w w'
def GRB (b K : Nat) (w : World) (e : Ending) (w' : World) : Prop := ∃ r : Bool, e = .returned (.bool r) ∧ CurAt w' b K ∧ ChgS (fun k => k = b) w w'
def GRM (A : Array Value) (b K : Nat) (w : World) (e : Ending) (w' : World) : Prop := ∃ r : Int, Value.int .i64 r ∈ A.toList ∧ e = .returned (.int .i64 r) ∧ CurAt w' b K ∧ ChgS (fun k => k = b) w w'
def GR2 (b K : Nat) (w : World) (e : Ending) (w' : World) : Prop := ∃ x y : Int, e = .returned (.agg #[.int .i64 x, .int .i64 y]) ∧ CurAt w' b K ∧ ChgS (fun k => k = b) w w'
set_option maxRecDepth 100000 in
set_option maxHeartbeats 4000000 in
theorem next_any (b K : Nat) (hK : K ≤ 1000000000000) (w : World) (h : CurAt w b K) : Calls Tryz.prog 125 #[.pointer (some ⟨b, 0, none⟩)] w (GR b (K + 1) 0 255 w) := by
  obtain ⟨v, n, s, hB, ⟨a, len, cap, rfl, hlen, hby⟩, h1, h2, h3, h4⟩ := h
  have HB := Lib.hid hB
  have HY' : Byts w b (.slice a len cap) := ⟨a, len, cap, rfl, hlen, hby⟩
  have c0 := hB.2.1 0 _ rfl; have c1 := hB.2.1 1 _ rfl; have c2 := hB.2.1 2 _ rfl; have cf := hB.2.2; have cl := hB.1
  unfold GR
  clear hB
  by_cases hlt : n < (len : Int)
  · obtain ⟨m, rfl⟩ : ∃ m : Nat, n = m := ⟨n.toNat, by omega⟩
    obtain ⟨g, off, z, rfl, hg, hz, z0, z1⟩ := hby m (by omega)
    have hgb : ¬ g = b := by omega
    have hle : (m : Int) + 1 ≤ (len : Int) := by omega
    clear hby
    go_enter Tryz.func125, Tryz.ntmps125
    go_wp2_with fail
    go_quiet (fail)
    go_wp2_with fail
    go_quiet (fail)
    go_wp2_with fail
    go_quiet (fail)
    go_wp2_with fail
    go_ret
    exact ⟨z, rfl, z0, z1, (CurAt.take (HB.out.drewN _) (Byts.below HY' (below_drewN (Below.refl _ _) _) (Nat.le_refl _)) h1 h2 _).drewN _, (ChgS.setN (ChgS.setN (ChgS.drewNX (ChgS.refl (fun k => k = b) _) _) (.inl (show b = b from rfl)) _) (.inl (show b = b from rfl)) _).drewNX _⟩
  · have hle : ¬ n + 1 ≤ (len : Int) := by omega
    clear hby
    go_enter Tryz.func125, Tryz.ntmps125
    go_wp2_with fail
    go_quiet (fail)
    go_wp2_with fail
    go_quiet (fail)
    go_wp2_with fail
    go_ret
    refine ⟨_, rfl, ?_, ?_, (CurAt.take (HB.out.drewN _) (Byts.below HY' (below_drewN (Below.refl _ _) _) (Nat.le_refl _)) h1 h2 _).drewN _, (ChgS.setN (ChgS.setN (ChgS.drewNX (ChgS.refl (fun k => k = b) _) _) (.inl (show b = b from rfl)) _) (.inl (show b = b from rfl)) _).drewNX _⟩
    all_goals
      have h9 := and255 (IntKind.u64.wrap (IntKind.u64.wrap (IntKind.u64.wrap (s * 6364136223846793005)) + 1442695040888963407) / 1099511627776) (by have := u64w (IntKind.u64.wrap (IntKind.u64.wrap (s * 6364136223846793005)) + 1442695040888963407); omega) (by have := u64w (IntKind.u64.wrap (IntKind.u64.wrap (s * 6364136223846793005)) + 1442695040888963407); omega)
      rw [h9, win (by omega)]
      omega
/-- A choice from 0 to n - 1. -/
def GRN (b K : Nat) (n : Int) (w : World) (e : Ending) (w' : World) : Prop := ∃ r : Int, e = .returned (.int .i64 r) ∧ 0 ≤ r ∧ (r < n ∨ r = 0) ∧ CurAt w' b K ∧ ChgS (fun k => k = b) w w'
set_option maxHeartbeats 2000000 in
theorem pick_any (b K : Nat) (n : Int) (hK : K ≤ 1000000000) (hn : n ≤ 1000000000) (w : World) (h : CurAt w b K) : Calls Tryz.prog 83 #[.pointer (some ⟨b, 0, none⟩), .int .i64 n] w (GRN b (K + 2) n w) := by
  have HN := Lib.hid (fun K (hK : K ≤ 1000000000000) w h => next_any b K hK w h)
  unfold GRN
  have HC := Lib.hid h
  clear h
  by_cases h1 : n ≤ 1
  · go_enter Tryz.func83, Tryz.ntmps83
    go_wp2_with fail
    go_ret
    exact ⟨0, rfl, by omega, .inr rfl, HC.out.mono (by omega), ChgS.refl _ _⟩
  · by_cases h2 : 200 < n
    · go_enter Tryz.func83, Tryz.ntmps83
      go_wp2_with fail
      refine (HN.out K (by omega) _ HC.out).mono ?_
      rintro e1 w1 ⟨x, rfl, x0, x1, hc1, hg1⟩
      have HC1 := Lib.hid hc1; clear hc1
      go_wp2_with fail
      refine (HN.out (K + 1) (by omega) _ HC1.out).mono ?_
      rintro e2 w2 ⟨y, rfl, y0, y1, hc2, hg2⟩
      have HC2 := Lib.hid hc2; clear hc2
      go_wp2_with fail
      go_ret
      exact ⟨_, rfl, Int.emod_nonneg _ (by omega), .inl (Int.emod_lt_of_pos _ (by omega)), HC2.out.mono (by omega), hg1.trans hg2⟩
    · go_enter Tryz.func83, Tryz.ntmps83
      go_wp2_with fail
      refine (HN.out K (by omega) _ HC.out).mono ?_
      rintro e1 w1 ⟨x, rfl, x0, x1, hc1, hg1⟩
      have HC1 := Lib.hid hc1; clear hc1
      go_wp2_with fail
      go_ret
      exact ⟨_, rfl, Int.emod_nonneg _ (by omega), .inl (Int.emod_lt_of_pos _ (by omega)), HC1.out.mono (by omega), hg1⟩
theorem one_any (b K : Nat) (n : Int) (hK : K ≤ 1000000000) (hn : n ≤ 1000000000) (w : World) (h : CurAt w b K) : Calls Tryz.prog 88 #[.pointer (some ⟨b, 0, none⟩), .int .i64 n] w (GRB b (K + 2) w) := by
  have HN := Lib.hid (pick_any b K n hK hn w h)
  unfold GRB
  clear h
  go_enter Tryz.func88, Tryz.ntmps88
  go_wp2_with fail
  refine HN.out.mono ?_
  rintro e1 w1 ⟨x, rfl, x0, x1, hc1, hg1⟩
  have HC1 := Lib.hid hc1; clear hc1 x1
  go_wp2_with fail
  go_ret
  exact ⟨_, rfl, HC1.out, hg1⟩
/-- among a list that was just written out. -/
theorem among_lit (b K : Nat) (hK : K ≤ 1000000000) (A : Array Value) (T : TypeId) (hA : A.toList.all (fun v => match v with | .int .i64 _ => true | _ => false) = true) (h0 : 0 < A.size) (h1 : A.size ≤ 1000) (W : World) (h : CurAt W b K) (l : Nat) (hl : l = A.size) :
    Calls Tryz.prog 67 #[.pointer (some ⟨b, 0, none⟩), .slice (some ⟨W.heap.size, 0, none⟩) l l] (W.alloc (Obj.cells A T)) (GRM A b (K + 2) (W.alloc (Obj.cells A T))) := by
  subst hl
  have hlt := h.lt
  have HN := Lib.hid (pick_any b K A.size hK (by omega) _ (h.alloc (Obj.cells A T)))
  have HA := Lib.hid (show ∀ i, i < A.size → ∃ n : Int, A[i]? = some (.int .i64 n) ∧ Value.int .i64 n ∈ A.toList from by
    intro i hi
    rw [List.all_eq_true] at hA
    have h2 : A[i] ∈ A.toList := by simp
    have h3 := hA _ h2
    have h4 : ∃ n : Int, A[i] = .int .i64 n := by
      revert h3
      generalize A[i] = v
      intro h3
      split at h3
      · exact ⟨_, rfl⟩
      · cases h3
    obtain ⟨n, hn⟩ := h4
    rw [hn] at h2
    exact ⟨n, by rw [Array.getElem?_eq_getElem hi, hn], h2⟩)
  unfold GRM
  clear h hA
  go_enter Tryz.func67, Tryz.ntmps67
  go_wp2_with fail
  refine HN.out.mono ?_
  rintro e1 w1 ⟨x, rfl, x0, x1, hc1, hg1⟩
  obtain ⟨m, rfl⟩ : ∃ m : Nat, x = m := ⟨x.toNat, by omega⟩
  have hm : m < A.size := by omega
  obtain ⟨n, hn, hmem⟩ := HA.out m hm
  have hcell : w1.cell? ⟨W.heap.size, m, none⟩ = some (.int .i64 n) := by
    have hb := hg1.block W.heap.size (by simp) (by omega)
    rw [World.cell?_of_block (w := W.alloc (Obj.cells A T)) (w' := w1) (a := ⟨W.heap.size, m, none⟩) hb]
    simp [hn]
  have HC1 := Lib.hid hc1; clear hc1 x1
  have HM := Lib.hid hmem
  clear hn hmem HA
  go_wp2_with fail
  go_ret
  exact ⟨n, HM.out, rfl, HC1.out, hg1⟩
/-- The block g holds n integers, and may be written. -/
def IBox (W : World) (g n : Nat) : Prop := g < W.heap.size ∧ (∀ i, i < n → ∃ z : Int, W.cell? ⟨g, i, none⟩ = some (.int .i64 z)) ∧ ∀ o, W.frozen? ⟨g, o, none⟩ = false
theorem IBox.below {W W' : World} {g n : Nat} (h : IBox W g n) (hb : Below W.heap.size W W') : IBox W' g n :=
  ⟨Nat.lt_of_lt_of_le h.1 hb.size, fun i hi => by obtain ⟨z, hz⟩ := h.2.1 i hi; exact ⟨z, (hb.cell (p := ⟨g, i, none⟩) h.1).trans hz⟩, fun o => (hb.frozen (p := ⟨g, o, none⟩) h.1).trans (h.2.2 o)⟩
theorem IBox.alloc {W : World} {g n : Nat} (h : IBox W g n) (o : Obj) : IBox (W.alloc o) g n := h.below (Below.alloc (Below.refl _ _) (Nat.le_refl _) o)
theorem IBox.drewN {W : World} {g n : Nat} (h : IBox W g n) (k : Nat) : IBox (W.drewN k) g n := h.below (below_drewN (Below.refl _ _) k)
theorem IBox.drew {W : World} {g n : Nat} (h : IBox W g n) : IBox W.drew g n := h.below (Below.drew (Below.refl _ _))
theorem IBox.chg {S : Nat → Prop} {W W' : World} {g n : Nat} (h : IBox W g n) (hc : ChgS S W W') (hn : ¬ S g) : IBox W' g n :=
  have hb := hc.block g h.1 hn
  ⟨Nat.lt_of_lt_of_le h.1 hc.size, fun i hi => by obtain ⟨z, hz⟩ := h.2.1 i hi; exact ⟨z, (World.cell?_of_block (w := W) (w' := W') (a := ⟨g, i, none⟩) hb).trans hz⟩, fun o => (World.frozen?_of_block (w := W) (w' := W') (a := ⟨g, o, none⟩) hb).trans (h.2.2 o)⟩
theorem IBox.setI {W : World} {g n : Nat} (h : IBox W g n) (p : Addr) (u : Int) : IBox (W.setCell p (.int .i64 u)) g n := by
  obtain ⟨h1, h2, h3⟩ := h
  by_cases hp : p.block = g
  · obtain ⟨pb, po, ps⟩ := p
    simp only at hp
    subst hp
    refine ⟨Nat.lt_of_lt_of_le h1 (only_setCell W _ _).size, fun i hi => ?_, fun o => ?_⟩
    · obtain ⟨z, hz⟩ := h2 i hi
      by_cases e : (⟨pb, po, ps⟩ : Addr) = ⟨pb, i, none⟩
      · rw [e]; exact ⟨u, by simp [h1, hz, go_sem]⟩
      · cases ps with
        | none =>
          have e2 : ¬ po = i := fun q => e (by rw [q])
          exact ⟨z, by simp [hz, e2, Ne.symm e2, go_sem]⟩
        | some q => exact ⟨z, by rw [World.cell?_setCell_other W _ _ _ (by intro q; exact e q)]; exact hz⟩
    · have := h3 o
      simp [this, go_sem]
  · have ho := only_setCell W p (.int .i64 u)
    have hb := ho.block g h1 (fun e => hp (Option.some.inj e).symm)
    exact ⟨Nat.lt_of_lt_of_le h1 ho.size, fun i hi => by obtain ⟨z, hz⟩ := h2 i hi; exact ⟨z, (World.cell?_of_block (w := W) (w' := W.setCell p _) (a := ⟨g, i, none⟩) hb).trans hz⟩, fun o => (World.frozen?_of_block (w := W) (w' := W.setCell p _) (a := ⟨g, o, none⟩) hb).trans (h3 o)⟩
theorem IBox.made {W : World} {g n : Nat} {A : Array Value} {T : TypeId} (hg : g = W.heap.size) (hA : A.toList.all (fun v => match v with | .int .i64 _ => true | _ => false) = true) (hn : n = A.size) : IBox (W.alloc (Obj.cells A T)) g n := by
  subst hg hn
  refine ⟨by simp, fun i hi => ?_, fun o => by simp⟩
  rw [List.all_eq_true] at hA
  have h2 : A[i] ∈ A.toList := by simp
  have h3 := hA _ h2
  have h4 : ∃ n : Int, A[i] = .int .i64 n := by
    revert h3
    generalize A[i] = v
    intro h3
    split at h3
    · exact ⟨_, rfl⟩
    · cases h3
  obtain ⟨z, hz⟩ := h4
  exact ⟨z, by simp [hi, hz]⟩
theorem pickC {b K : Nat} {n : Int} {w : World} (h : CurAt w b K) (hK : K ≤ 1000000000) (hn : 1 ≤ n) (hn2 : n ≤ 1000000000) : Calls Tryz.prog 83 #[.pointer (some ⟨b, 0, none⟩), .int .i64 n] w (GR b (K + 2) 0 (n - 1) w) := by
  refine (pick_any b K n hK hn2 w h).mono ?_
  rintro e w' ⟨r, rfl, h0, h1, h2, h3⟩
  exact ⟨r, rfl, h0, by omega, h2, h3⟩
theorem oneC {b K : Nat} {n : Int} {w : World} (h : CurAt w b K) (hK : K ≤ 1000000000) (hn : n ≤ 1000000000) : Calls Tryz.prog 88 #[.pointer (some ⟨b, 0, none⟩), .int .i64 n] w (GRB b (K + 2) w) := one_any b K n hK hn w h
theorem amongC {b K g : Nat} {A : Array Value} {T : TypeId} {W : World} {l : Nat} (h : CurAt W b K) (hK : K ≤ 1000000000) (hg : g = W.heap.size) (hA : A.toList.all (fun v => match v with | .int .i64 _ => true | _ => false) = true) (h0 : 0 < A.size) (h1 : A.size ≤ 1000) (hl : l = A.size) :
    Calls Tryz.prog 67 #[.pointer (some ⟨b, 0, none⟩), .slice (some ⟨g, 0, none⟩) l l] (W.alloc (Obj.cells A T)) (GRM A b (K + 2) (W.alloc (Obj.cells A T))) := by subst hg; exact among_lit b K hK A T hA h0 h1 W h l hl
/-- A test that may have made memory. -/
def GB (w : World) (e : Ending) (w' : World) : Prop := ∃ q : Bool, e = .returned (.bool q) ∧ Below w.heap.size w w'
theorem GB.of {q : Bool} {w w' : World} {e : Ending} (h : Gives (.bool q) w e w') : GB w e w' := ⟨q, h.1, h.2⟩
theorem bthenG {N bb : Nat} {w w0 w' : World} (k : ChgS (fun k => k = bb) w0 w') (h : Below N w w0) (hN : N ≤ bb) (hw : N ≤ w0.heap.size) : Below N w w' := h.trans (k.below (fun k e => by show N ≤ k; omega) hw)
theorem CurAt.first {W : World} {bb : Nat} {v : Value} (hB : Box W bb [v, .int .i64 0, .int .u64 0]) (hY : Byts W bb v) : CurAt W bb 0 := ⟨v, 0, 0, hB, hY, by omega, by simp, by omega, by omega⟩
theorem qa1 {W : World} {g n : Nat} (h : IBox W g n := by (repeat' (first | assumption | (with_reducible first | exact IBox.made (by first | rfl | (simp; done)) rfl rfl | refine IBox.alloc ?_ _ | refine IBox.setI ?_ _ _ | refine IBox.drewN ?_ _)))) : IBox W g n := h
theorem qa2 {W : World} {b K : Nat} (h : CurAt W b K := by (repeat' (first | assumption | (with_reducible first | refine CurAt.alloc ?_ _ | refine CurAt.set ?_ (by first | omega | (simp; done) | (simp; omega)) _ | refine CurAt.drewN ?_ _ | refine CurAt.drew ?_)))) : CurAt W b K := h
theorem qa3 {W : World} {g n : Nat} (h : IBox W g n := by (repeat' (first | (with_reducible first | assumption | exact IBox.made (by first | rfl | (simp; done) | fail) rfl rfl | refine IBox.alloc ?_ _ | refine IBox.setI ?_ _ _ | refine IBox.drewN ?_ _ | refine IBox.drew ?_)))) : IBox W g n := h
theorem qa4 {W : World} {b K : Nat} (h : CurAt W b K := by (repeat' (first | (with_reducible first | assumption | refine CurAt.alloc ?_ _ | refine CurAt.set ?_ (by first | omega | (simp; done) | (simp; omega)) _ | refine CurAt.drewN ?_ _ | refine CurAt.drew ?_)))) : CurAt W b K := h
end Go.Proofs.YtjgdajeoeagggaaGreat
