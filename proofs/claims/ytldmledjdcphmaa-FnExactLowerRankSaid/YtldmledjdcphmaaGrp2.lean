import Derived.Test.YtldmledjdcphmaaGrp
import Derived.Test.YtldmledjdcphmaaShelf
set_option linter.unusedSimpArgs false
set_option linter.unusedVariables false
namespace Go.Proofs.Ytldmledjdcphmaa
open Go.RowKit
/-! ### groups of classes -/

def GivesIff (P : Prop) (w : World) (e : Ending) (w' : World) : Prop := ∃ r : Bool, e = .returned (.bool r) ∧ (r = true ↔ P) ∧ Below w.heap.size w w'
def SameIff (P : Prop) (w : World) (e : Ending) (w' : World) : Prop := ∃ r : Bool, e = .returned (.bool r) ∧ (r = true ↔ P) ∧ w = w'
theorem iff_f {P : Prop} {w w' : World} (h : ¬ P) (hb : Below w.heap.size w w') : GivesIff P w (.returned (.bool false)) w' := ⟨false, rfl, ⟨(fun g => by cases g), fun g => absurd g h⟩, hb⟩
theorem iff_t {P : Prop} {w w' : World} (h : P) (hb : Below w.heap.size w w') : GivesIff P w (.returned (.bool true)) w' := ⟨true, rfl, ⟨fun _ => h, fun _ => rfl⟩, hb⟩
theorem sff_f {P : Prop} {w : World} (h : ¬ P) : SameIff P w (.returned (.bool false)) w := ⟨false, rfl, ⟨(fun g => by cases g), fun g => absurd g h⟩, rfl⟩
theorem sff_t {P : Prop} {w : World} (h : P) : SameIff P w (.returned (.bool true)) w := ⟨true, rfl, ⟨fun _ => h, fun _ => rfl⟩, rfl⟩
def RisK (xs : List Int) (k : Nat) : Prop := ∀ i, 0 < i → i < k → xs.getD (i - 1) 0 < xs.getD i 0
def ClsK (xs : List Int) (k : Nat) : Prop := ∀ i, i < k → clB (xs.getD i 0) = true
def ProK (xs : List Int) (i k : Nat) : Prop := (∀ a b, a < i → b < xs.length → xs.contains (prd (xs.getD a 0) (xs.getD b 0)) = true) ∧ ∀ b, b < k → xs.contains (prd (xs.getD i 0) (xs.getD b 0)) = true
def Grp (xs : List Int) : Prop := 1 ≤ xs.length ∧ xs.length ≤ 64 ∧ xs.contains 1 = true ∧ ClsK xs xs.length ∧ RisK xs xs.length ∧ ∀ a b, a < xs.length → b < xs.length → xs.contains (prd (xs.getD a 0) (xs.getD b 0)) = true
open Classical in
noncomputable def grB (xs : List Int) : Bool := decide (Grp xs)
theorem grB_t {xs : List Int} (h : Grp xs) : grB xs = true := by simp [grB, h]
theorem grB_f {xs : List Int} (h : ¬ Grp xs) : grB xs = false := by simp [grB, h]
theorem contains_cls {xs : List Int} (h : ClsK xs xs.length) {n : Int} (hn : xs.contains n = true) : clB n = true := by
  rw [List.contains_iff_mem] at hn
  obtain ⟨j, hj, he⟩ := List.mem_iff_getElem.1 hn
  have := h j hj
  simp only [List.getD, List.getElem?_eq_getElem hj, Option.getD_some] at this
  rw [← he]; exact this

set_option maxHeartbeats 1000000 in
theorem dsList_any (s : Value) (xs : List Int) (M : Int) (w : World) (hx : Ints w s xs) :
    Calls Try.prog 46 #[s, .int .i64 M] w (GivesIff (ClsK xs xs.length ∧ 1 ≤ (xs.length : Int) ∧ (xs.length : Int) ≤ M) w) := by
  obtain ⟨a, len, cap, rfl⟩ : ∃ a len cap, s = .slice a len cap := by
    rcases hx with ⟨a, cap, rfl, _⟩ | ⟨b, off, len, cap, rfl, _⟩ <;> exact ⟨_, _, _, rfl⟩
  obtain ⟨h1, h2, h3⟩ := hx.cell
  have HC := Lib.hid h3
  subst h1
  have HD := Lib.hid (fun d w => dsClass_any d w)
  have HI := Lib.hid (fun w => l1In_any (xs.length : Int) 1 M w)
  clear h3 hx
  generalize hn : xs.length = len at *
  have HN := Lib.hid hn
  clear hn
  go_enter Try.func46, Try.ntmps46
  go_wp2
  go_loopw [9] (fun v9 wr => ∃ k : Nat, k ≤ len ∧ v9 = .int .i64 k ∧ Hid (ClsK xs k) ∧ Below w.heap.size w wr) (fun v9 _ => len - (intOf v9).toNat)
  case atStart => exact ⟨0, by omega, rfl, Lib.hid (fun j hj => by omega), Below.refl _ _⟩
  case round =>
    obtain ⟨k, hk, rfl, HJ, hbw⟩ := hrel
    by_cases hlt : k < len
    · obtain ⟨b, off, ha, hbl, c0⟩ := HC.out k hlt
      subst ha
      have c1 := (hbw.cell (p := ⟨b, off + k, none⟩) hbl).trans c0
      have hd := fun w => HD.out (xs.getD k 0) w
      cases he : clB (xs.getD k 0)
      · rw [he] at hd
        have HNO := Lib.hid (show ¬ (ClsK xs len ∧ 1 ≤ (len : Int) ∧ (len : Int) ≤ M) from fun h => by have := h.1 k hlt; rw [he] at this; cases this)
        generalize xs.getD k 0 = X at *
        have HDD := Lib.hid hd
        clear hd he c0
        go_wp2_with (first | (go_at_call 74; refine (HDD.out _).mono ?_; rintro e wa ⟨rfl, hba⟩; have hza := hba.size; (try simp only [World.size_alloc, World.size_setCell, World.size_drew, World.heap_drewN] at hza); try (refine keepc hba (w.heap.size) ?_ ?_; (focus (first | omega | (simp <;> omega))); intro hca_0 hfa_0 hla_0); try (refine keepc hba (w.heap.size + 1) ?_ ?_; (focus (first | omega | (simp <;> omega))); intro hca_1 hfa_1 hla_1); try (refine keepc hba (w.heap.size + 1 + 1) ?_ ?_; (focus (first | omega | (simp <;> omega))); intro hca_2 hfa_2 hla_2)))
        go_ret
        exact iff_f HNO.out (bthen2 hba hbw)
      · have HJ2 := Lib.hid (show ClsK xs (k + 1) from fun j hj => by
          by_cases e : j = k
          · subst e; exact he
          · exact HJ.out j (by omega))
        rw [he] at hd
        generalize xs.getD k 0 = X at *
        have HDD := Lib.hid hd
        clear hd he c0
        go_wp2_with (first | (go_at_call 74; refine (HDD.out _).mono ?_; rintro e wa ⟨rfl, hba⟩; have hza := hba.size; (try simp only [World.size_alloc, World.size_setCell, World.size_drew, World.heap_drewN] at hza); try (refine keepc hba (w.heap.size) ?_ ?_; (focus (first | omega | (simp <;> omega))); intro hca_0 hfa_0 hla_0); try (refine keepc hba (w.heap.size + 1) ?_ ?_; (focus (first | omega | (simp <;> omega))); intro hca_1 hfa_1 hla_1); try (refine keepc hba (w.heap.size + 1 + 1) ?_ ?_; (focus (first | omega | (simp <;> omega))); intro hca_2 hfa_2 hla_2)))
        go_roundw
        case rel => exact ⟨k + 1, by omega, by go_num, HJ2, bthen2 hba hbw⟩
        case measure => simp [intOf]; omega
    · have e : k = len := by omega
      have HE := Lib.hid (show ClsK xs len by rw [← e]; exact HJ.out)
      clear e
      go_wp2_with (first | (go_at_call 61; refine (HI.out _).mono ?_; rintro e w1 ⟨rfl, rfl⟩))
      go_ret
      exact ⟨inB (len : Int) 1 M, rfl, by rw [inB_iff]; exact ⟨fun h => ⟨HE.out, h⟩, fun h => h.2⟩, hbw⟩

set_option maxHeartbeats 1000000 in
theorem l1Rising_any (s : Value) (xs : List Int) (w : World) (hx : Ints w s xs) :
    Calls Try.prog 112 #[s, .int .i64 (-1000000), .int .i64 1000000] w (SameIff ((∀ i, i < xs.length → inB (xs.getD i 0) (-1000000) 1000000 = true) ∧ RisK xs xs.length) w) := by
  obtain ⟨a, len, cap, rfl⟩ : ∃ a len cap, s = .slice a len cap := by
    rcases hx with ⟨a, cap, rfl, _⟩ | ⟨b, off, len, cap, rfl, _⟩ <;> exact ⟨_, _, _, rfl⟩
  obtain ⟨h1, h2, h3⟩ := hx.cell
  have HC := Lib.hid h3
  subst h1
  have HI := Lib.hid (fun x w => l1In_any x (-1000000) 1000000 w)
  clear h3 hx
  generalize hn : xs.length = len at *
  have HN := Lib.hid hn
  clear hn
  go_enter Try.func112, Try.ntmps112
  go_wp2
  go_loop [11] (fun v11 => ∃ k : Nat, k ≤ len ∧ v11 = .int .i64 k ∧ Hid (∀ i, i < k → inB (xs.getD i 0) (-1000000) 1000000 = true) ∧ Hid (RisK xs k)) (fun v11 => len - (intOf v11).toNat)
  case atStart => exact ⟨0, by omega, rfl, Lib.hid (fun j hj => by omega), Lib.hid (fun j _ hj => by omega)⟩
  case round =>
    obtain ⟨k, hk, rfl, HJ, HR⟩ := hrel
    by_cases hlt : k < len
    · obtain ⟨b, off, ha, hbl, c0⟩ := HC.out k hlt
      subst ha
      cases he : inB (xs.getD k 0) (-1000000) 1000000
      · have HNO := Lib.hid (show ¬ ((∀ i, i < len → inB (xs.getD i 0) (-1000000) 1000000 = true) ∧ RisK xs len) from fun h => by have := h.1 k hlt; rw [he] at this; cases this)
        have hi := fun w => HI.out (xs.getD k 0) w
        rw [he] at hi
        generalize xs.getD k 0 = X at *
        have HII := Lib.hid hi
        clear hi he
        go_wp2_with (first | (go_at_call 61; refine (HII.out _).mono ?_; rintro e w1 ⟨rfl, rfl⟩))
        go_ret
        exact sff_f HNO.out
      · have HJ2 := Lib.hid (show ∀ j, j < k + 1 → inB (xs.getD j 0) (-1000000) 1000000 = true from fun j hj => by
          by_cases e : j = k
          · subst e; exact he
          · exact HJ.out j (by omega))
        have hi := fun w => HI.out (xs.getD k 0) w
        rw [he] at hi
        clear he
        by_cases h0 : k = 0
        · have HR2 := Lib.hid (show RisK xs (k + 1) from fun j h1 h2 => by omega)
          have hk0 : ¬ (0 : Int) < (k : Int) := by omega
          generalize xs.getD k 0 = X at *
          have HII := Lib.hid hi
          clear hi h0
          go_wp2_with (first | (go_at_call 61; refine (HII.out _).mono ?_; rintro e w1 ⟨rfl, rfl⟩))
          go_round
          case rel => exact ⟨k + 1, by omega, by go_num, HJ2, HR2⟩
          case measure => simp [intOf]; omega
        · obtain ⟨b', off', ha', hbl', c1⟩ := HC.out (k - 1) (by omega)
          simp only [Option.some.injEq, Addr.mk.injEq, and_true] at ha'
          obtain ⟨rfl, rfl⟩ := ha'
          have hk0 : (0 : Int) < (k : Int) := by omega
          have hidx : ((k : Int) - 1).toNat = k - 1 := by omega
          by_cases hr : xs.getD (k - 1) 0 < xs.getD k 0
          · have HR2 := Lib.hid (show RisK xs (k + 1) from fun j h1 h2 => by
              by_cases e : j = k
              · subst e; exact hr
              · exact HR.out j h1 (by omega))
            generalize xs.getD (k - 1) 0 = Y at *
            generalize xs.getD k 0 = X at *
            have HII := Lib.hid hi
            clear hi
            go_wp2_with (first | (go_at_call 61; refine (HII.out _).mono ?_; rintro e w1 ⟨rfl, rfl⟩))
            go_round
            case rel => exact ⟨k + 1, by omega, by go_num, HJ2, HR2⟩
            case measure => simp [intOf]; omega
          · have HNO := Lib.hid (show ¬ ((∀ i, i < len → inB (xs.getD i 0) (-1000000) 1000000 = true) ∧ RisK xs len) from fun h => hr (h.2 k (by omega) hlt))
            generalize xs.getD (k - 1) 0 = Y at *
            generalize xs.getD k 0 = X at *
            have HII := Lib.hid hi
            clear hi
            go_wp2_with (first | (go_at_call 61; refine (HII.out _).mono ?_; rintro e w1 ⟨rfl, rfl⟩))
            go_ret
            exact sff_f HNO.out
    · have e : k = len := by omega
      have HE := Lib.hid (show (∀ i, i < len → inB (xs.getD i 0) (-1000000) 1000000 = true) ∧ RisK xs len by rw [← e]; exact ⟨HJ.out, HR.out⟩)
      clear e
      go_wp2
      go_ret
      exact sff_t HE.out

end Go.Proofs.Ytldmledjdcphmaa
