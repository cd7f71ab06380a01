import Derived.Test.YtfcfjlfobflmaaaDoorBld
import Derived.Test.YtfcfjlfobflmaaaDoorCmp
import Derived.Test.YtfcfjlfobflmaaaDoorShelf
import Derived.Lib.AppendIntMem
set_option linter.unusedSimpArgs false
set_option linter.unusedVariables false
namespace Go.Proofs.YtfcfjlfobflmaaaDoor
open Go.RowKit
/-! ### the text of a whole -/

def pad4 (l : List UInt8) : List UInt8 := List.replicate (4 - l.length) 48 ++ l
/-- The text of the m highest limbs. -/
def tt (xs : List Int) : Nat → List UInt8
  | 0 => []
  | m + 1 => tt xs m ++ (if m = 0 then Lib.decDigits (xs.getD (xs.length - 1 - m) 0).toNat else pad4 (Lib.decDigits (xs.getD (xs.length - 1 - m) 0).toNat))
def wt (neg : Bool) (xs : List Int) : List UInt8 := if xs.length = 0 then [48] else (if neg = true then [45] else []) ++ tt xs xs.length
theorem decDigits_four {u : Nat} (h : u < 10000) : 1 ≤ (Lib.decDigits u).length ∧ (Lib.decDigits u).length ≤ 4 := by
  rw [Lib.decDigits]; split
  · simp
  · rw [List.length_append, Lib.decDigits]; split
    · simp
    · rw [List.length_append, Lib.decDigits]; split
      · simp
      · rw [List.length_append, Lib.decDigits, dif_pos (by omega)]; simp
theorem limb_lt {xs : List Int} (h : InR xs) (k : Nat) : 0 ≤ xs.getD k 0 ∧ xs.getD k 0 < 10000 := by
  by_cases hk : k < xs.length
  · have := h (xs.getD k 0) (by simp only [List.getD, List.getElem?_eq_getElem hk, Option.getD_some]; exact List.getElem_mem _)
    omega
  · simp only [List.getD, List.getElem?_eq_none (show xs.length ≤ k by omega), Option.getD_none]; omega
theorem pad4_len {l : List UInt8} (h : l.length ≤ 4) : (pad4 l).length = 4 := by unfold pad4; simp; omega
theorem tt_len {xs : List Int} (h : InR xs) : ∀ m, (tt xs m).length ≤ 4 * m
  | 0 => by simp [tt]
  | m + 1 => by
    have ih := tt_len h m
    have h1 := limb_lt h (xs.length - 1 - m)
    have h2 := decDigits_four (u := (xs.getD (xs.length - 1 - m) 0).toNat) (by omega)
    unfold tt
    rw [List.length_append]
    split
    · omega
    · rw [pad4_len h2.2]; omega
theorem tt_one (xs : List Int) : tt xs 1 = Lib.decDigits (xs.getD (xs.length - 1) 0).toNat := by simp [tt]
theorem tt_succ (xs : List Int) {m : Nat} (hm : 0 < m) : tt xs (m + 1) = tt xs m ++ pad4 (Lib.decDigits (xs.getD (xs.length - 1 - m) 0).toNat) := by
  rw [tt, if_neg (by omega)]
def slen : Value → Nat
  | .string s => s.size
  | _ => 0
theorem app_str1 (c : UInt8) (b : List UInt8) : ({ data := #[c] } : ByteArray) ++ { data := b.toArray } = { data := (c :: b).toArray } := by
  apply ByteArray.ext; simp

set_option maxHeartbeats 4000000 in
theorem bgText_any (neg : Bool) (a : Option Addr) (len cap : Nat) (xs : List Int) (w : World) (hx : Ints w (.slice a len cap) xs) (hr : InR xs) (hl : xs.length ≤ 1000) : Calls Tryd.prog 41 #[.agg #[.bool neg, .slice a len cap]] w (Gives (str (wt neg xs)) w) := by
  obtain ⟨h1, h2, h3⟩ := hx.cell
  by_cases hn : len = 0
  · subst hn
    have e : wt neg xs = [48] := by unfold wt; rw [if_pos (by omega)]
    rw [e]
    have hs : str [48] = Value.string { data := #[48] } := rfl
    rw [hs]
    clear hx hr hl h1 h2 h3 e hs
    go_enter Tryd.func41, Tryd.ntmps41
    go_wp2_with fail
    go_ret; exact gives rfl (by repeat' (first | (with_reducible exact Below.refl _ _) | (with_reducible assumption) | (with_reducible refine Below.alloc ?_ ?_ _) | (with_reducible refine Below.setCell ?_ ?_ _) | (with_reducible refine Below.drew ?_) | (with_reducible refine below_drewN ?_ _) | (apply bthen2; (with_reducible assumption)) | go_size))
  · have e : wt neg xs = (if neg = true then [45] else []) ++ tt xs len := by unfold wt; rw [if_neg (by omega), h1]
    rw [e]
    obtain ⟨T, hT⟩ : ∃ T, T = (if neg = true then [45] else []) ++ tt xs len := ⟨_, rfl⟩
    rw [← hT]
    have HTT := Lib.hid hT
    clear hT
    have hll : len ≤ 1000 := by omega
    have HC := Lib.hid h3
    have H1 := Lib.hid h1
    have HR := Lib.hid (fun k => limb_lt hr k)
    have HTL := Lib.hid (fun m => tt_len hr m)
    have hone := tt_one xs
    rw [h1] at hone
    have HONE := Lib.hid hone
    have HSU := Lib.hid (fun m (h : 0 < m) => tt_succ xs h)
    obtain ⟨b0, off0, ha, hbl0, hc0⟩ := h3 (len - 1) (by omega)
    have hcell0 : w.cell? ⟨b0, off0 + (len - 1), none⟩ = some (.int .i64 (xs.getD (len - 1) 0)) := hc0
    obtain ⟨x1, x2⟩ := limb_lt hr (len - 1)
    have HL := Lib.hid (fun W => l1Num_any (xs.getD (len - 1) 0).toNat (xs.getD (len - 1) 0) x1 (Nat.le_refl _) (by omega) W)
    rw [← hone] at HL
    have hix : (len : Int) - 1 = ((len - 1 : Nat) : Int) := by omega
    have hix2 : (len : Int) - 2 = ((len - 1 : Nat) : Int) - 1 := by omega
    have hpos : ¬ ((len : Int) = 0) := by omega
    have hlt1 : len - 1 < len := by omega
    subst ha
    clear hx hr hl h1 h3 e hone hc0
    generalize xs.getD (len - 1) 0 = X0 at *
    go_enter Tryd.func41, Tryd.ntmps41
    go_wp2_with fail
    refine (HL.out _).mono ?_
    rintro e W1 ⟨rfl, hb1⟩
    have hz1 := hb1.size
    simp only [World.size_alloc] at hz1
    have p0 : W1.cell? ⟨w.heap.size, 0, none⟩ = some (.bool neg) := (hb1.cell (p := ⟨w.heap.size, 0, none⟩) (by simp)).trans (by simp)
    have p1 : W1.cell? ⟨w.heap.size, 1, none⟩ = some (.slice (some ⟨b0, off0, none⟩) len cap) := (hb1.cell (p := ⟨w.heap.size, 1, none⟩) (by simp)).trans (by simp)
    have hB1 : Below w.heap.size w W1 := (by repeat' (first | (with_reducible exact Below.refl _ _) | (with_reducible assumption) | (with_reducible refine Below.alloc ?_ ?_ _) | (with_reducible refine Below.setCell ?_ ?_ _) | (with_reducible refine Below.drew ?_) | (with_reducible refine below_drewN ?_ _) | (apply bthen2; (with_reducible assumption)) | go_size))
    clear hb1 HL hcell0 x1 x2
    unfold str
    go_wp2_with fail
    have hst : len - (len - 1) = 1 := by omega
    go_loopw [4, 5] (fun v4 v5 wr => ∃ k : Nat, k < len ∧ v5 = .int .i64 ((k : Int) - 1) ∧ v4 = .string ⟨(tt xs (len - k)).toArray⟩ ∧ Below W1.heap.size W1 wr) (fun _ v5 _ => (intOf v5 + 1).toNat)
    case atStart => exact ⟨len - 1, by omega, rfl, by rw [hst], Below.refl _ _⟩
    case round =>
      obtain ⟨k, hk, rfl, rfl, hbw⟩ := hrel
      have hz := hbw.size
      have q0 := (hbw.cell (p := ⟨w.heap.size, 0, none⟩) (by simp; omega)).trans p0
      have q1 := (hbw.cell (p := ⟨w.heap.size, 1, none⟩) (by simp; omega)).trans p1
      have hB2 : Below w.heap.size w wr := hB1.trans (hbw.mono (by omega))
      clear hix hix2 hst
      cases k with
      | zero =>
        rw [Nat.sub_zero]
        have hlen := HTL.out len
        have hsz : ¬ (9223372036854775807 < 1 + (tt xs len).length) := by omega
        have HT2 := HTT.out
        generalize tt xs len = D at *
        cases neg with
        | true =>
          have e2 : str T = Value.string ({ data := #[45] } ++ { data := D.toArray }) := by rw [app_str1, HT2]; rfl
          have E2 := Lib.hid e2
          clear e2 HT2 HTT
          go_wp2_with fail
          go_ret
          exact gives (E2.out.symm) hB2
        | false =>
          have e2 : str T = Value.string { data := D.toArray } := by rw [HT2]; rfl
          have E2 := Lib.hid e2
          clear e2 HT2 HTT
          go_wp2_with fail
          go_ret
          exact gives (E2.out.symm) hB2
      | succ k =>
        obtain ⟨b1, off1, ha1, hbl, hc⟩ := HC.out k (by omega)
        have c1 : wr.cell? ⟨b1, off1 + k, none⟩ = some (.int .i64 (xs.getD k 0)) := (hB2.cell (p := ⟨b1, off1 + k, none⟩) hbl).trans hc
        obtain ⟨rfl, rfl⟩ : b1 = b0 ∧ off1 = off0 := by simpa [eq_comm] using ha1
        obtain ⟨y1, y2⟩ := HR.out k
        have hsu := HSU.out (len - (k + 1)) (by omega)
        have hx1 := H1.out
        rw [hx1, show len - (k + 1) + 1 = len - k by omega, show len - 1 - (len - (k + 1)) = k by omega] at hsu
        have HN := Lib.hid (fun W => l1Num_any (xs.getD k 0).toNat (xs.getD k 0) y1 (Nat.le_refl _) (by omega) W)
        have hd4 := decDigits_four (u := (xs.getD k 0).toNat) (by omega)
        have htl := HTL.out (len - (k + 1))
        have HSS := Lib.hid hsu
        have e0 : ((k + 1 : Nat) : Int) - 1 = (k : Int) := by omega
        rw [e0]
        unfold str at HN
        clear hsu hx1 hc ha1
        generalize Lib.decDigits (xs.getD k 0).toNat = d at *
        generalize xs.getD k 0 = X at *
        generalize hD : tt xs (len - (k + 1)) = D at *
        go_wp2_with fail
        refine (HN.out _).mono ?_
        rintro e W2 ⟨rfl, hb2⟩
        have hz2 := hb2.size
        go_wp2_with fail
        go_loop [6] (fun v6 => ∃ j : Nat, j + d.length ≤ 4 ∧ v6 = .string ⟨(List.replicate j 48 ++ d).toArray⟩) (fun v6 => 4 - slen v6)
        case atStart => exact ⟨0, by omega, by simp⟩
        case round =>
          obtain ⟨j, hj, rfl⟩ := hrel
          by_cases hj4 : j + d.length < 4
          · have hj5 : ((j : Int) + (d.length : Int)) < 4 := by omega
            have hsz : ¬ (9223372036854775807 < 1 + (j + d.length)) := by omega
            go_wp2_with fail
            refine ⟨⟨j + 1, by omega, ?_⟩, ?_⟩
            · rw [app_str1, List.replicate_succ]; rfl
            · rw [app_str1]
              show 4 - (48 :: (List.replicate j 48 ++ d)).toArray.size < 4 - (List.replicate j 48 ++ d).toArray.size
              simp
              omega
          · have hj5 : ¬ ((j : Int) + (d.length : Int)) < 4 := by omega
            have hsz : ¬ (9223372036854775807 < D.length + (j + d.length)) := by omega
            go_wp2_with fail
            refine ⟨⟨k, by omega, rfl, ?_, hbw.trans (hb2.mono hbw.size)⟩, ?_⟩
            · rw [app_str, HSS.out]
              unfold pad4
              rw [show j = 4 - d.length by omega]
            · simp [intOf]

end Go.Proofs.YtfcfjlfobflmaaaDoor
