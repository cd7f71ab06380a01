import Derived.Test.YtfcfjlfobflmaaaDoorTxt2
set_option linter.unusedSimpArgs false
set_option linter.unusedVariables false
namespace Go.Proofs.YtfcfjlfobflmaaaDoor
open Go.RowKit
/-! ### the text of a whole, by a strings.Builder -/

abbrev IsB (b : Nat) (l : List UInt8) (w : World) : Prop := Lib.IsBuilder 73 5 b b (Lib.byteCells l) w
theorem builderAt_below {p : Value} {b : Nat} {bs : List Value} {w w' : World} (h : Lib.BuilderAt 73 5 b b p bs w) (hb : Below w.heap.size w w') : Lib.BuilderAt 73 5 b b p bs w' := by
  have hl := h.lt
  obtain ⟨h0, v, h1, ⟨h2, h3⟩, h4⟩ := h
  refine ⟨h0, v, (hb.block b hl).trans h1, ⟨h2, ?_⟩, h4⟩
  rcases h3 with h3 | ⟨g, cap, cur, hv, hg, hh, r⟩
  · exact .inl h3
  · have q : g < w.heap.size := by
      rcases Nat.lt_or_ge g w.heap.size with q | q
      · exact q
      · rw [Array.getElem?_eq_none q] at hh; cases hh
    exact .inr ⟨g, cap, cur, hv, hg, (hb.block g q).trans hh, r⟩
theorem IsB.below {b : Nat} {l : List UInt8} {w w' : World} (h : IsB b l w) (hb : Below w.heap.size w w') : IsB b l w' := h.elim (fun x => .inl (builderAt_below x hb)) (fun x => .inr (builderAt_below x hb))
theorem IsB.lt {b : Nat} {l : List UInt8} {w : World} (h : IsB b l w) : b < w.heap.size := h.elim (fun x => x.lt) (fun x => x.lt)
theorem byteCells_len (l : List UInt8) : (Lib.byteCells l).length = l.length := by simp [Lib.byteCells]
/-- A string is written behind what the builder holds. -/
theorem write_any (b : Nat) (l m : List UInt8) (w : World) (h : IsB b l w) (hl : l.length + m.length ≤ 1000000) : Calls Tryd.prog 54 #[.pointer (some ⟨b, 0, none⟩), .string ⟨m.toArray⟩] w fun e w' => e = .returned (.tuple #[.int .i64 m.length, .nilIface]) ∧ IsB b (l ++ m) w' ∧ Below b w w' := by
  refine (writeString_any b b (Lib.byteCells l) ⟨m.toArray⟩ w h (by rw [byteCells_len]; simp [ByteArray.size]; omega) (Nat.le_of_lt h.lt)).mono ?_
  rintro e w' ⟨rfl, h1, h2⟩
  refine ⟨by simp [ByteArray.size], .inr ?_, h2⟩
  rw [Lib.byteCells_append, ← Lib.strCells_toArray m]
  exact h1
theorem itoa_any (x : Int) (h0 : 0 ≤ x) (h1 : x < 10000) (w : World) (htab : Lib.TabIs Tryd.prog w "internal/strconv.uint64pow10" .u64 Lib.pow10Tab) : Calls Tryd.prog 55 #[.int .i64 x] w (Gives (.string ⟨(Lib.decDigits x.toNat).toArray⟩) w) := by
  refine (Tryd.strconv_Itoa x (by omega) (by omega) w htab).mono ?_
  rintro e w' ⟨rfl, k, os, rfl⟩
  refine ⟨?_, Lib.below_grow _ w (Nat.le_refl _) k os⟩
  have := Lib.itoa_nonneg x.toNat
  rw [show ((x.toNat : Nat) : Int) = x by omega] at this
  rw [this]
theorem repeat_any (c : Nat) (hc : c ≤ 1000) (w : World) : Calls Tryd.prog 56 #[.string ⟨#[48]⟩, .int .i64 c] w (Gives (.string ⟨(List.replicate c 48).toArray⟩) w) := by
  refine (Tryd.strings_Repeat ⟨#[48]⟩ c w (by omega) (by simp [ByteArray.size]; omega)).mono ?_
  rintro e w' ⟨rfl, hb⟩
  refine ⟨?_, hb⟩
  have : Lib.repeatL [48] c = List.replicate c (48 : UInt8) := by
    induction c with
    | zero => rfl
    | succ n ih => have := ih (by omega); rw [List.replicate_succ, ← this]; rfl
  show Ending.returned (.string ⟨(Lib.repeatL [48] c).toArray⟩) = _
  rw [this]

set_option maxHeartbeats 4000000 in
theorem wholeText_pos (a : Option Addr) (len cap : Nat) (xs : List Int) (w : World) (hx : Ints w (.slice a len cap) xs) (hr : InR xs) (hl : xs.length ≤ 1000) (htab : ∀ W, Below w.heap.size w W → Lib.TabIs Tryd.prog W "internal/strconv.uint64pow10" .u64 Lib.pow10Tab) : Calls Tryd.prog 38 #[.agg #[.bool false, .slice a len cap]] w (Gives (str (wt false xs)) w) := by
  obtain ⟨h1, h2, h3⟩ := hx.cell
  obtain ⟨T, hT⟩ : ∃ T, T = wt false xs := ⟨_, rfl⟩
  rw [← hT]
  have HTT := Lib.hid hT
  have H1 := Lib.hid h1
  have HC := Lib.hid h3
  have HR := Lib.hid (fun k => limb_lt hr k)
  have HTL := Lib.hid (fun m => tt_len hr m)
  have HTAB := Lib.hid htab
  have hll : len ≤ 1000 := by omega
  clear hx hr hl h1 h3 hT htab
  go_enter Tryd.func38, Tryd.ntmps38
  go_wp2_with fail
  refine name_world (fun W1 hW1 => ?_)
  have HI : IsB (w.heap.size + 1) [] W1 := by subst hW1; have := Lib.fresh_isBuilder 73 5 (w.alloc (Obj.cells #[.bool false, .slice a len cap] 40)); simpa [IsB, Lib.byteCells] using this
  have p1 : W1.cell? ⟨w.heap.size, 1, none⟩ = some (.slice a len cap) := by subst hW1; simp
  have hB1 : Below w.heap.size w W1 := by subst hW1; exact (by repeat' (first | (with_reducible exact Below.refl _ _) | (with_reducible assumption) | (with_reducible refine Below.alloc ?_ ?_ _) | (with_reducible refine Below.setCell ?_ ?_ _) | (with_reducible refine Below.drew ?_) | (with_reducible refine below_drewN ?_ _) | (apply bthen2; (with_reducible assumption)) | go_size))
  have hbs := HI.lt
  clear hW1
  have HIH := Lib.hid HI
  clear HI
  obtain ⟨B, hBe⟩ : ∃ B, B = w.heap.size + 1 := ⟨_, rfl⟩
  rw [← hBe] at HIH hbs
  have hBw : w.heap.size < B ∧ B ≤ w.heap.size + 1 := by omega
  go_loopw [4] (fun v4 wr => ∃ k : Nat, k ≤ len ∧ v4 = .int .i64 ((k : Int) - 1) ∧ Hid (IsB (w.heap.size + 1) (([] : List UInt8) ++ tt xs (len - k)) wr) ∧ Below (w.heap.size + 1) W1 wr) (fun v4 _ => (intOf v4 + 1).toNat)
  case atStart => exact ⟨len, Nat.le_refl _, rfl, Lib.hid (by rw [Nat.sub_self]; subst hBe; simpa [tt] using HIH.out), Below.refl _ _⟩
  case round =>
    obtain ⟨k, hk, rfl, HK, hbw⟩ := hrel
    have hz := hbw.size
    have q1 := (hbw.cell (p := ⟨w.heap.size, 1, none⟩) (by simp)).trans p1
    have hB2 : Below w.heap.size w wr := hB1.trans (hbw.mono (by omega))
    have hbl := HK.out.lt
    cases k with
    | zero =>
      have HST := Lib.hid (Tryd.Builder_String_any (w.heap.size + 1) (w.heap.size + 1) (([] : List UInt8) ++ tt xs (len - 0)) wr HK.out (by omega))
      rw [Nat.sub_zero] at HST
      have hx1 := H1.out
      by_cases h0 : len = 0
      · have e2 : str T = Value.string { data := #[48] } := by rw [HTT.out]; unfold wt; rw [if_pos (by omega)]; rfl
        have E2 := Lib.hid e2
        subst h0
        clear e2 hx1 HST
        go_wp2_with fail
        go_ret
        exact gives (E2.out.symm) hB2
      · have hne : ¬ ((len : Int) = 0) := by omega
        have e2 : str T = Value.string { data := (([] : List UInt8) ++ tt xs len).toArray } := by rw [HTT.out]; unfold wt; rw [if_neg (by omega), hx1]; rfl
        have E2 := Lib.hid e2
        generalize (([] : List UInt8) ++ tt xs len) = D at *
        clear e2 hx1
        go_wp2_with fail
        refine HST.out.mono ?_
        rintro e W3 ⟨rfl, hb3⟩
        go_wp2_with fail
        go_ret
        exact gives (E2.out.symm) (hB2.trans (hb3.mono (by omega)))
    | succ k =>
      obtain ⟨b1, off1, ha1, hbl1, hc⟩ := HC.out k (by omega)
      subst ha1
      have c1 : wr.cell? ⟨b1, off1 + k, none⟩ = some (.int .i64 (xs.getD k 0)) := (hB2.cell (p := ⟨b1, off1 + k, none⟩) hbl1).trans hc
      obtain ⟨y1, y2⟩ := HR.out k
      have HN := Lib.hid (fun W hW => itoa_any (xs.getD k 0) y1 y2 W (HTAB.out W hW))
      have hd4 := decDigits_four (u := (xs.getD k 0).toNat) (by omega)
      have htl := HTL.out (len - (k + 1))
      have e0 : ((k + 1 : Nat) : Int) - 1 = (k : Int) := by omega
      rw [e0]
      have hx1 := H1.out
      have HE : Hid (if k + 1 = len then ([] : List UInt8) ++ tt xs (len - (k + 1)) ++ Lib.decDigits (xs.getD k 0).toNat = ([] : List UInt8) ++ tt xs (len - k) else ([] : List UInt8) ++ tt xs (len - (k + 1)) ++ (List.replicate (4 - (Lib.decDigits (xs.getD k 0).toNat).length) 48) ++ Lib.decDigits (xs.getD k 0).toNat = ([] : List UInt8) ++ tt xs (len - k)) := by
        show (if k + 1 = len then _ else _)
        split
        · rename_i he
          rw [show len - (k + 1) = 0 by omega, show len - k = 1 by omega, tt_one, hx1, show len - 1 = k by omega]
          simp [tt]
        · rename_i he
          have hsu := tt_succ xs (m := len - (k + 1)) (by omega)
          rw [hx1, show len - (k + 1) + 1 = len - k by omega, show len - 1 - (len - (k + 1)) = k by omega] at hsu
          rw [hsu]
          simp [pad4, List.append_assoc]
      clear hx1 hc
      generalize Lib.decDigits (xs.getD k 0).toNat = d at *
      generalize xs.getD k 0 = X at *
      go_wp2_with fail
      refine (HN.out _ ?_).mono ?_
      · repeat' (first | (with_reducible exact Below.refl _ _) | (with_reducible assumption) | (with_reducible refine Below.alloc ?_ ?_ _) | (with_reducible refine Below.setCell ?_ ?_ _) | (with_reducible refine Below.drew ?_) | (with_reducible refine below_drewN ?_ _) | (apply bthen2; (with_reducible assumption)) | go_size)
      rintro e W2 ⟨rfl, hb2⟩
      have hz2 := hb2.size
      have r1 : W2.cell? ⟨w.heap.size, 1, none⟩ = some (.slice (some ⟨b1, off1, none⟩) len cap) := (hb2.cell (p := ⟨w.heap.size, 1, none⟩) (by simp; omega)).trans q1
      have HK2 := Lib.hid (HK.out.below hb2)
      have hB3 : Below w.heap.size w W2 := hB2.trans (hb2.mono hB2.size)
      have hbw2 : Below (w.heap.size + 1) W1 W2 := hbw.trans (hb2.mono (by omega))
      clear HK hb2 hbw hB2 q1 c1 hbl hz
      have hb2l := HK2.out.lt
      by_cases hlast : k + 1 = len
      · have hcond : ¬ ((k : Int) < (len : Int) - 1) := by omega
        rw [if_pos hlast] at HE
        generalize ([] : List UInt8) ++ tt xs (len - (k + 1)) = L at *
        have hL : L.length + d.length ≤ 1000000 := by have := congrArg List.length HE.out; have h5 := HTL.out (len - k); simp at this; omega
        have HW := Lib.hid (write_any (w.heap.size + 1) L d W2 HK2.out hL)
        go_wp2_with fail
        refine HW.out.mono ?_
        rintro e W3 ⟨rfl, hK3, hb3⟩
        have HK3 := Lib.hid hK3
        clear hK3
        go_wp2_with fail
        go_roundw
        case rel => exact ⟨k, by omega, rfl, by rw [← HE.out]; exact HK3, hbw2.trans hb3⟩
        case measure => first | (simp [intOf]; done) | (simp [intOf]; omega)
      · have hcond : ((k : Int) < (len : Int) - 1) := by omega
        rw [if_neg hlast] at HE
        have hc4 : (4 : Int) - (d.length : Int) = ((4 - d.length : Nat) : Int) := by omega
        generalize ([] : List UInt8) ++ tt xs (len - (k + 1)) = L at *
        have hLe := congrArg List.length HE.out
        have h5 := HTL.out (len - k)
        simp only [List.length_append, List.length_replicate] at hLe
        have hsgl : (([] : List UInt8) : List UInt8).length ≤ 1 := by decide
        have hL1 : L.length + (4 - d.length) ≤ 1000000 := by omega
        have hL2 : L.length + (4 - d.length) + d.length ≤ 1000000 := by omega
        have HRP := Lib.hid (fun W => repeat_any (4 - d.length) (by omega) W)
        clear hLe h5
        obtain ⟨c, hc⟩ : ∃ c, c = 4 - d.length := ⟨_, rfl⟩
        rw [← hc] at hc4 HRP HE hL1 hL2
        clear hc
        have HW1 := Lib.hid (fun W h => write_any (w.heap.size + 1) L (List.replicate c 48) W h (by rw [List.length_replicate]; exact hL1))
        have HW2 := Lib.hid (fun W h => write_any (w.heap.size + 1) (L ++ List.replicate c 48) d W h (by rw [List.length_append, List.length_replicate]; exact hL2))
        go_wp2_with fail
        refine (HRP.out _).mono ?_
        rintro e W4 ⟨rfl, hb4⟩
        have hz4 := hb4.size
        have HK4 := Lib.hid (HK2.out.below hb4)
        have hbw4 : Below (w.heap.size + 1) W1 W4 := hbw2.trans (hb4.mono (by omega))
        clear HK2 HRP hb4
        go_wp2_with fail
        refine (HW1.out _ HK4.out).mono ?_
        rintro e W5 ⟨rfl, hK5, hb5⟩
        have HK5 := Lib.hid hK5
        have hz5 := hb5.size
        clear hK5 HW1
        go_wp2_with fail
        refine (HW2.out _ HK5.out).mono ?_
        rintro e W6 ⟨rfl, hK6, hb6⟩
        have HK6 := Lib.hid hK6
        clear hK6 HW2
        go_wp2_with fail
        go_roundw
        case rel => exact ⟨k, by omega, rfl, by rw [← HE.out]; exact HK6, (hbw4.trans hb5).trans hb6⟩
        case measure => first | (simp [intOf]; done) | (simp [intOf]; omega)
set_option maxHeartbeats 4000000 in
theorem wholeText_neg (a : Option Addr) (len cap : Nat) (xs : List Int) (w : World) (hx : Ints w (.slice a len cap) xs) (hr : InR xs) (hl : xs.length ≤ 1000) (htab : ∀ W, Below w.heap.size w W → Lib.TabIs Tryd.prog W "internal/strconv.uint64pow10" .u64 Lib.pow10Tab) : Calls Tryd.prog 38 #[.agg #[.bool true, .slice a len cap]] w (Gives (str (wt true xs)) w) := by
  obtain ⟨h1, h2, h3⟩ := hx.cell
  obtain ⟨T, hT⟩ : ∃ T, T = wt true xs := ⟨_, rfl⟩
  rw [← hT]
  have HTT := Lib.hid hT
  have H1 := Lib.hid h1
  have HC := Lib.hid h3
  have HR := Lib.hid (fun k => limb_lt hr k)
  have HTL := Lib.hid (fun m => tt_len hr m)
  have HTAB := Lib.hid htab
  have hll : len ≤ 1000 := by omega
  clear hx hr hl h1 h3 hT htab
  go_enter Tryd.func38, Tryd.ntmps38
  go_wp2_with fail
  refine (write_any (w.heap.size + 1) [] [45] _ (by have := Lib.fresh_isBuilder 73 5 (w.alloc (Obj.cells #[.bool true, .slice a len cap] 40)); simpa [IsB, Lib.byteCells] using this) (by simp)).mono ?_
  rintro e W1 ⟨rfl, HI, hb1⟩
  have p1 : W1.cell? ⟨w.heap.size, 1, none⟩ = some (.slice a len cap) := (hb1.cell (p := ⟨w.heap.size, 1, none⟩) (by simp)).trans (by simp)
  have hB1 : Below w.heap.size w W1 := Below.trans (by repeat' (first | (with_reducible exact Below.refl _ _) | (with_reducible assumption) | (with_reducible refine Below.alloc ?_ ?_ _) | (with_reducible refine Below.setCell ?_ ?_ _) | (with_reducible refine Below.drew ?_) | (with_reducible refine below_drewN ?_ _) | (apply bthen2; (with_reducible assumption)) | go_size)) (hb1.mono (Nat.le_succ _))
  clear hb1
  rw [List.nil_append] at HI
  have hbs := HI.lt
  have hi0 : (len : Int) - 1 = (len : Int) - 1 := rfl
  go_wp2_with fail
  have HIH := Lib.hid HI
  clear HI
  obtain ⟨B, hBe⟩ : ∃ B, B = w.heap.size + 1 := ⟨_, rfl⟩
  rw [← hBe] at HIH hbs
  have hBw : w.heap.size < B ∧ B ≤ w.heap.size + 1 := by omega
  go_loopw [4] (fun v4 wr => ∃ k : Nat, k ≤ len ∧ v4 = .int .i64 ((k : Int) - 1) ∧ Hid (IsB (w.heap.size + 1) ([45] ++ tt xs (len - k)) wr) ∧ Below (w.heap.size + 1) W1 wr) (fun v4 _ => (intOf v4 + 1).toNat)
  case atStart => exact ⟨len, Nat.le_refl _, rfl, Lib.hid (by rw [Nat.sub_self]; subst hBe; simpa [tt] using HIH.out), Below.refl _ _⟩
  case round =>
    obtain ⟨k, hk, rfl, HK, hbw⟩ := hrel
    have hz := hbw.size
    have q1 := (hbw.cell (p := ⟨w.heap.size, 1, none⟩) (by simp)).trans p1
    have hB2 : Below w.heap.size w wr := hB1.trans (hbw.mono (by omega))
    have hbl := HK.out.lt
    cases k with
    | zero =>
      have HST := Lib.hid (Tryd.Builder_String_any (w.heap.size + 1) (w.heap.size + 1) ([45] ++ tt xs (len - 0)) wr HK.out (by omega))
      rw [Nat.sub_zero] at HST
      have hx1 := H1.out
      by_cases h0 : len = 0
      · have e2 : str T = Value.string { data := #[48] } := by rw [HTT.out]; unfold wt; rw [if_pos (by omega)]; rfl
        have E2 := Lib.hid e2
        subst h0
        clear e2 hx1 HST
        go_wp2_with fail
        go_ret
        exact gives (E2.out.symm) hB2
      · have hne : ¬ ((len : Int) = 0) := by omega
        have e2 : str T = Value.string { data := ([45] ++ tt xs len).toArray } := by rw [HTT.out]; unfold wt; rw [if_neg (by omega), hx1]; rfl
        have E2 := Lib.hid e2
        generalize ([45] ++ tt xs len) = D at *
        clear e2 hx1
        go_wp2_with fail
        refine HST.out.mono ?_
        rintro e W3 ⟨rfl, hb3⟩
        go_wp2_with fail
        go_ret
        exact gives (E2.out.symm) (hB2.trans (hb3.mono (by omega)))
    | succ k =>
      obtain ⟨b1, off1, ha1, hbl1, hc⟩ := HC.out k (by omega)
      subst ha1
      have c1 : wr.cell? ⟨b1, off1 + k, none⟩ = some (.int .i64 (xs.getD k 0)) := (hB2.cell (p := ⟨b1, off1 + k, none⟩) hbl1).trans hc
      obtain ⟨y1, y2⟩ := HR.out k
      have HN := Lib.hid (fun W hW => itoa_any (xs.getD k 0) y1 y2 W (HTAB.out W hW))
      have hd4 := decDigits_four (u := (xs.getD k 0).toNat) (by omega)
      have htl := HTL.out (len - (k + 1))
      have e0 : ((k + 1 : Nat) : Int) - 1 = (k : Int) := by omega
      rw [e0]
      have hx1 := H1.out
      have HE : Hid (if k + 1 = len then [45] ++ tt xs (len - (k + 1)) ++ Lib.decDigits (xs.getD k 0).toNat = [45] ++ tt xs (len - k) else [45] ++ tt xs (len - (k + 1)) ++ (List.replicate (4 - (Lib.decDigits (xs.getD k 0).toNat).length) 48) ++ Lib.decDigits (xs.getD k 0).toNat = [45] ++ tt xs (len - k)) := by
        show (if k + 1 = len then _ else _)
        split
        · rename_i he
          rw [show len - (k + 1) = 0 by omega, show len - k = 1 by omega, tt_one, hx1, show len - 1 = k by omega]
          simp [tt]
        · rename_i he
          have hsu := tt_succ xs (m := len - (k + 1)) (by omega)
          rw [hx1, show len - (k + 1) + 1 = len - k by omega, show len - 1 - (len - (k + 1)) = k by omega] at hsu
          rw [hsu]
          simp [pad4, List.append_assoc]
      clear hx1 hc
      generalize Lib.decDigits (xs.getD k 0).toNat = d at *
      generalize xs.getD k 0 = X at *
      go_wp2_with fail
      refine (HN.out _ ?_).mono ?_
      · repeat' (first | (with_reducible exact Below.refl _ _) | (with_reducible assumption) | (with_reducible refine Below.alloc ?_ ?_ _) | (with_reducible refine Below.setCell ?_ ?_ _) | (with_reducible refine Below.drew ?_) | (with_reducible refine below_drewN ?_ _) | (apply bthen2; (with_reducible assumption)) | go_size)
      rintro e W2 ⟨rfl, hb2⟩
      have hz2 := hb2.size
      have r1 : W2.cell? ⟨w.heap.size, 1, none⟩ = some (.slice (some ⟨b1, off1, none⟩) len cap) := (hb2.cell (p := ⟨w.heap.size, 1, none⟩) (by simp; omega)).trans q1
      have HK2 := Lib.hid (HK.out.below hb2)
      have hB3 : Below w.heap.size w W2 := hB2.trans (hb2.mono hB2.size)
      have hbw2 : Below (w.heap.size + 1) W1 W2 := hbw.trans (hb2.mono (by omega))
      clear HK hb2 hbw hB2 q1 c1 hbl hz
      have hb2l := HK2.out.lt
      by_cases hlast : k + 1 = len
      · have hcond : ¬ ((k : Int) < (len : Int) - 1) := by omega
        rw [if_pos hlast] at HE
        generalize [45] ++ tt xs (len - (k + 1)) = L at *
        have hL : L.length + d.length ≤ 1000000 := by have := congrArg List.length HE.out; have h5 := HTL.out (len - k); simp at this; omega
        have HW := Lib.hid (write_any (w.heap.size + 1) L d W2 HK2.out hL)
        go_wp2_with fail
        refine HW.out.mono ?_
        rintro e W3 ⟨rfl, hK3, hb3⟩
        have HK3 := Lib.hid hK3
        clear hK3
        go_wp2_with fail
        go_roundw
        case rel => exact ⟨k, by omega, rfl, by rw [← HE.out]; exact HK3, hbw2.trans hb3⟩
        case measure => first | (simp [intOf]; done) | (simp [intOf]; omega)
      · have hcond : ((k : Int) < (len : Int) - 1) := by omega
        rw [if_neg hlast] at HE
        have hc4 : (4 : Int) - (d.length : Int) = ((4 - d.length : Nat) : Int) := by omega
        generalize [45] ++ tt xs (len - (k + 1)) = L at *
        have hLe := congrArg List.length HE.out
        have h5 := HTL.out (len - k)
        simp only [List.length_append, List.length_replicate] at hLe
        have hsgl : ([45] : List UInt8).length ≤ 1 := by decide
        have hL1 : L.length + (4 - d.length) ≤ 1000000 := by omega
        have hL2 : L.length + (4 - d.length) + d.length ≤ 1000000 := by omega
        have HRP := Lib.hid (fun W => repeat_any (4 - d.length) (by omega) W)
        clear hLe h5
        obtain ⟨c, hc⟩ : ∃ c, c = 4 - d.length := ⟨_, rfl⟩
        rw [← hc] at hc4 HRP HE hL1 hL2
        clear hc
        have HW1 := Lib.hid (fun W h => write_any (w.heap.size + 1) L (List.replicate c 48) W h (by rw [List.length_replicate]; exact hL1))
        have HW2 := Lib.hid (fun W h => write_any (w.heap.size + 1) (L ++ List.replicate c 48) d W h (by rw [List.length_append, List.length_replicate]; exact hL2))
        go_wp2_with fail
        refine (HRP.out _).mono ?_
        rintro e W4 ⟨rfl, hb4⟩
        have hz4 := hb4.size
        have HK4 := Lib.hid (HK2.out.below hb4)
        have hbw4 : Below (w.heap.size + 1) W1 W4 := hbw2.trans (hb4.mono (by omega))
        clear HK2 HRP hb4
        go_wp2_with fail
        refine (HW1.out _ HK4.out).mono ?_
        rintro e W5 ⟨rfl, hK5, hb5⟩
        have HK5 := Lib.hid hK5
        have hz5 := hb5.size
        clear hK5 HW1
        go_wp2_with fail
        refine (HW2.out _ HK5.out).mono ?_
        rintro e W6 ⟨rfl, hK6, hb6⟩
        have HK6 := Lib.hid hK6
        clear hK6 HW2
        go_wp2_with fail
        go_roundw
        case rel => exact ⟨k, by omega, rfl, by rw [← HE.out]; exact HK6, (hbw4.trans hb5).trans hb6⟩
        case measure => first | (simp [intOf]; done) | (simp [intOf]; omega)
theorem wholeText_any (neg : Bool) (a : Option Addr) (len cap : Nat) (xs : List Int) (w : World) (hx : Ints w (.slice a len cap) xs) (hr : InR xs) (hl : xs.length ≤ 1000) (htab : ∀ W, Below w.heap.size w W → Lib.TabIs Tryd.prog W "internal/strconv.uint64pow10" .u64 Lib.pow10Tab) : Calls Tryd.prog 38 #[.agg #[.bool neg, .slice a len cap]] w (Gives (str (wt neg xs)) w) := by
  cases neg
  · exact wholeText_pos a len cap xs w hx hr hl htab
  · exact wholeText_neg a len cap xs w hx hr hl htab

end Go.Proofs.YtfcfjlfobflmaaaDoor
