import Derived.Test.YtldmledjdcphmaaFac2
set_option linter.unusedSimpArgs false
set_option linter.unusedVariables false
namespace Go.Proofs.Ytldmledjdcphmaa
open Go.RowKit
/-! ### squarefree parts, classes -/

theorem pf_ex {N : Int} (h : 1 ≤ N) : IsPf N (pf N) := by
  have : ∃ l, IsPf N l := by
    open Classical in
    refine ⟨((List.range (N.toNat + 1)).map Int.ofNat).filter (fun d => decide (Pr d ∧ d ∣ N)), ?_, fun d => ?_⟩
    · refine List.Pairwise.filter _ (List.Pairwise.map Int.ofNat (fun a b hab => ?_) List.pairwise_lt_range)
      show (a : Int) < (b : Int)
      omega
    · rw [List.mem_filter]
      constructor
      · rintro ⟨_, hd⟩; simpa using hd
      · intro hd
        refine ⟨?_, by simpa using hd⟩
        have h1 := hd.1.1
        have h2 := Int.le_of_dvd (by omega) hd.2
        rw [List.mem_map]
        exact ⟨d.toNat, by rw [List.mem_range]; omega, by show ((d.toNat : Nat) : Int) = d; omega⟩
  exact Classical.epsilon_spec this
theorem getD_mem {l : List Int} {k : Nat} (h : k < l.length) : l.getD k 0 ∈ l := by
  simp only [List.getD, List.getElem?_eq_getElem h, Option.getD_some]; exact List.getElem_mem h
theorem pf_at {N : Int} (h : 1 ≤ N) {k : Nat} (hk : k < (pf N).length) : 2 ≤ (pf N).getD k 0 ∧ (pf N).getD k 0 ≤ N := by
  have := ((pf_ex h).2 _).1 (getD_mem hk)
  exact ⟨this.1.1, Int.le_of_dvd (by omega) this.2⟩
theorem sqS_step (N s : Int) (l : List Int) (k : Nat) (h : k < l.length) : sqS N s (l.drop k) = sqS N (if (vl N (l.getD k 0) : Int) % 2 = 1 then wrap64 (s * l.getD k 0) else s) (l.drop (k + 1)) := by
  rw [List.drop_eq_getElem_cons h]
  simp [sqS, List.getD, List.getElem?_eq_getElem h]
theorem vl_le {N p : Int} (hN : 1 ≤ max N (-N)) (hp : 2 ≤ p) : (vl N p : Int) ≤ max N (-N) := by
  obtain ⟨b, k, h1, h2⟩ := TO.ex hN hp
  have := h1.val hp h2
  rw [← vl_abs N p, this]
  exact h1.kle hp

set_option maxHeartbeats 1000000 in
theorem squarefree_any (N : Int) (h0 : N ≠ 0) (h1 : -1000000000000000 ≤ N) (h2 : N ≤ 1000000000000000) (w : World) : Calls Try.prog 77 #[.int .i64 N] w (Gives (.int .i64 (sqf N)) w) := by
  have hm1 : 1 ≤ max N (-N) := by omega
  have hm2 : max N (-N) ≤ 1000000000000000 := by omega
  have HP := Lib.hid (fun w => primesOf_any N h0 h1 h2 w)
  have HV := Lib.hid (fun p w hp => valuation_any N p h0 (by omega) (by omega) hp w)
  have HA := Lib.hid (fun k hk => pf_at hm1 (k := k) hk)
  have HL := Lib.hid (fun p hp => vl_le (N := N) (p := p) hm1 hp)
  have hR : sqf N = sqS N (if N < 0 then -1 else 1) (pf (max N (-N))) := rfl
  generalize sqf N = R at *
  generalize pf (max N (-N)) = l at *
  have key : ∀ s0, R = sqS N s0 l → (if N < 0 then -1 else 1) = s0 → Calls Try.prog 77 #[.int .i64 N] w (Gives (.int .i64 R) w) := by
    intro s0 hR' hs0
    have HR := Lib.hid hR'
    clear hR hR' h0
    by_cases hneg : N < 0
    all_goals
      simp only [hneg, if_true, if_false] at hs0
      subst hs0
      go_enter Try.func77, Try.ntmps77
      go_wp2_with (first | (go_at_call 65; refine (HP.out _).mono ?_; rintro e w1 ⟨a1, len1, cap1, rfl, hown, hbw⟩))
      obtain ⟨hl, hl2, hc⟩ := hown.ints.cell
      have HC := Lib.hid hc; clear hc HP
      go_loop [3, 11] (fun v3 v11 => ∃ (k : Nat) (s : Int), k ≤ len1 ∧ v11 = .int .i64 k ∧ v3 = .int .i64 s ∧ sqS N s (l.drop k) = R) (fun _ v11 => len1 - (intOf v11).toNat)
      case atStart => exact ⟨0, _, by omega, rfl, rfl, by rw [List.drop_zero]; exact HR.out.symm⟩
      case round =>
        clear HR
        obtain ⟨k, s, hk, rfl, rfl, hr⟩ := hrel
        by_cases hlt : k < len1
        · obtain ⟨b, off, ha, hbl, c1⟩ := HC.out k hlt
          subst ha
          rw [sqS_step N s l k (by omega)] at hr
          obtain ⟨p1, p2⟩ := HA.out k (by omega)
          have hv := HL.out _ p1
          generalize l.getD k 0 = p at *
          cases g : ((vl N p : Int) % 2 == 1)
          all_goals
            first | rw [if_neg (by simpa using g)] at hr | rw [if_pos (by simpa using g)] at hr
            have HR := Lib.hid hr
            clear hr
            go_wp2_with (first | (go_at_call 91; refine (HV.out _ _ p1).mono ?_; rintro e w2 ⟨rfl, rfl⟩))
            go_round
            case rel => exact ⟨k + 1, _, by omega, by go_num, rfl, HR.out⟩
            case measure => simp [intOf]; omega
        · have e : k = len1 := by omega
          have e2 : s = R := by rw [← hr, List.drop_eq_nil_of_le (by omega)]; rfl
          have E2 := Lib.hid e2
          clear hr e e2
          go_wp2
          go_ret
          exact gives (vint E2.out) hbw
  exact key _ hR rfl

def sgn (N : Int) : Int := if 0 < N then 1 else if N < 0 then -1 else 0
theorem l1Sign_any (N : Int) (w : World) : Calls Try.prog 97 #[.int .i64 N] w (Same (.int .i64 (sgn N)) w) := by
  by_cases h1 : 0 < N
  · have e : sgn N = 1 := by unfold sgn; rw [if_pos h1]
    rw [e]; clear e
    go_enter Try.func97, Try.ntmps97
    go_wp2
    go_ret; exact same rfl
  · by_cases h2 : N < 0
    · have e : sgn N = -1 := by unfold sgn; rw [if_neg h1, if_pos h2]
      rw [e]; clear e
      go_enter Try.func97, Try.ntmps97
      go_wp2
      go_ret; exact same rfl
    · have e : sgn N = 0 := by unfold sgn; rw [if_neg h1, if_neg h2]
      rw [e]; clear e
      go_enter Try.func97, Try.ntmps97
      go_wp2
      go_ret; exact same rfl

theorem fcl_at (N : Int) (k : Nat) (h : k < (pf (max N (-N))).length) : (fcl (max N (-N)))[k]? = some [(pf (max N (-N))).getD k 0, (vl N ((pf (max N (-N))).getD k 0) : Int)] := by
  unfold fcl
  rw [List.getElem?_map, List.getElem?_eq_getElem h]
  simp [List.getD, List.getElem?_eq_getElem h, vl_abs]
set_option maxHeartbeats 1000000 in
theorem tcClass_any (N : Int) (h0 : N ≠ 0) (h1 : -1000000000000000 ≤ N) (h2 : N ≤ 1000000000000000) (w : World) : Calls Try.prog 82 #[.int .i64 N] w (Gives (.int .i64 (sqf N)) w) := by
  have hm1 : 1 ≤ max N (-N) := by omega
  have hm2 : max N (-N) ≤ 1000000000000000 := by omega
  have HP := Lib.hid (fun w => mdFactors_any (max N (-N)) hm1 hm2 w)
  have HS := Lib.hid (fun w => l1Sign_any N w)
  have HB := Lib.hid (show ∀ w, Calls Try.prog 63 #[.int .i64 N] w (Same (.int .i64 (max N (-N))) w) from fun w => by have := l1Abs_any N w; rwa [win (n := -N) (by omega)] at this)
  have HA := Lib.hid (fun k hk => pf_at hm1 (k := k) hk)
  have HL := Lib.hid (fun p hp => vl_le (N := N) (p := p) hm1 hp)
  have HF := Lib.hid (fun k hk => fcl_at N k hk)
  have hlen : (fcl (max N (-N))).length = (pf (max N (-N))).length := by simp [fcl]
  have hsg : sgn N = if N < 0 then -1 else 1 := by unfold sgn; split <;> split <;> omega
  have hR : sqf N = sqS N (sgn N) (pf (max N (-N))) := by rw [hsg]; rfl
  have HR := Lib.hid hR
  have HLEN := Lib.hid hlen
  clear hR hsg hlen
  generalize sqf N = R at *
  generalize fcl (max N (-N)) = rows at *
  generalize pf (max N (-N)) = l at *
  generalize sgn N = s0 at *
  clear h0
  go_enter Try.func82, Try.ntmps82
  go_wp2_with (first | (go_at_call 97; refine (HS.out _).mono ?_; rintro e w1 ⟨rfl, rfl⟩) | (go_at_call 63; refine (HB.out _).mono ?_; rintro e w1 ⟨rfl, rfl⟩) | (go_at_call 62; refine (HP.out _).mono ?_; rintro e w1 ⟨a1, len1, cap1, rfl, hown, hbw⟩))
  obtain ⟨hl, hl2, hc⟩ := hown.cell
  have HC := Lib.hid hc; clear hc HP HS HB hown
  have hll : l.length = len1 := by rw [← HLEN.out]; exact hl
  have HLL := Lib.hid hll
  clear hl hll
  go_loop [3, 12] (fun v3 v12 => ∃ (k : Nat) (s : Int), k ≤ len1 ∧ v12 = .int .i64 k ∧ v3 = .int .i64 s ∧ sqS N s (l.drop k) = R) (fun _ v12 => len1 - (intOf v12).toNat)
  case atStart => exact ⟨0, _, by omega, rfl, rfl, by rw [List.drop_zero]; exact HR.out.symm⟩
  case round =>
    clear HR
    obtain ⟨k, s, hk, rfl, rfl, hr⟩ := hrel
    by_cases hlt : k < len1
    · have hkl : k < l.length := by rw [HLL.out]; exact hlt
      obtain ⟨b, g, ha, hbl, c1, hg, c2⟩ := HC.out k _ (HF.out k hkl)
      subst ha
      have c3 := c2 0 (by simp)
      have c4 := c2 1 (by simp)
      simp only [List.getD_cons_zero, List.getD_cons_succ, List.length_cons, List.length_nil, Nat.zero_add] at c1 c3 c4
      rw [sqS_step N s l k hkl] at hr
      obtain ⟨p1, p2⟩ := HA.out k hkl
      have hv := HL.out _ p1
      clear c2
      generalize l.getD k 0 = p at *
      have hv0 : 0 ≤ (vl N p : Int) := by omega
      generalize hV : (vl N p : Int) = V at *
      clear hV
      cases g : (V % 2 == 1)
      all_goals
        first | rw [if_neg (by simpa using g)] at hr | rw [if_pos (by simpa using g)] at hr
        have HR := Lib.hid hr
        clear hr
        go_wp2
        go_round
        case rel => exact ⟨k + 1, _, by omega, by go_num, rfl, HR.out⟩
        case measure => simp [intOf]; omega
    · have e2 : s = R := by rw [← hr, List.drop_eq_nil_of_le (by rw [HLL.out]; omega)]; rfl
      have E2 := Lib.hid e2
      clear hr e2
      go_wp2
      go_ret
      exact gives (vint E2.out) hbw

end Go.Proofs.Ytldmledjdcphmaa
