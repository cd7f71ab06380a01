import Derived.Test.YtelkmldmebdcgaaFermat
set_option linter.unusedSimpArgs false
set_option linter.unusedVariables false
namespace Go.Proofs.Ytelkmldmebdcgaa
open Go.RowKit

def cVal (a b x e : Int) : Int := wrap64 (x*x*x + a*x*e*e*e*e + b*e*e*e*e*e*e)

theorem curveValue_any (a b x e : Int) (w : World) : Calls Try.prog 65 #[.agg #[.int .i64 a, .int .i64 b], .int .i64 x, .int .i64 e] w (Gives (.int .i64 (cVal a b x e)) w) := by
  go_enter Try.func65, Try.ntmps65
  go_wp2
  go_ret
  exact gives (vint (by simp only [cVal, wadd_l, wadd_r, wmul_l, wmul_r])) (by repeat' (first | (with_reducible exact Below.refl _ _) | (with_reducible assumption) | (with_reducible refine Below.alloc ?_ ?_ _) | (with_reducible refine Below.setCell ?_ ?_ _) | (with_reducible refine Below.drew ?_) | (with_reducible refine below_drewN ?_ _) | (apply bthen2; (with_reducible assumption)) | go_size))

theorem seValue_any (a b x e : Int) (w : World) : Calls Try.prog 67 #[.agg #[.int .i64 a, .int .i64 b], .int .i64 x, .int .i64 e] w (Gives (.int .i64 (cVal a b x e)) w) := by
  go_enter Try.func67, Try.ntmps67
  go_wp2
  go_ret
  exact gives (vint (by simp only [cVal, wadd_l, wadd_r, wmul_l, wmul_r]; congr 1; grind)) (by repeat' (first | (with_reducible exact Below.refl _ _) | (with_reducible assumption) | (with_reducible refine Below.alloc ?_ ?_ _) | (with_reducible refine Below.setCell ?_ ?_ _) | (with_reducible refine Below.drew ?_) | (with_reducible refine below_drewN ?_ _) | (apply bthen2; (with_reducible assumption)) | go_size))

def sFit (a b x e : Int) : Bool := isC a b && inB x (-10000) 10000 && inB e 1 20

theorem searchFits_any (a b x e : Int) (w : World) : Calls Try.prog 64 #[.agg #[.int .i64 a, .int .i64 b], .int .i64 x, .int .i64 e] w (Gives (.bool (sFit a b x e)) w) := by
  cases g0 : isC a b <;> cases g1 : inB x (-10000) 10000 <;> cases g2 : inB e 1 20
  all_goals
    go_enter Try.func64, Try.ntmps64
    go_wp2_with (first | (go_at_call 100; refine (isCurve_any _ _ _).mono ?_; rintro e w1 ⟨rfl, hb⟩; have hz := hb.size; (try simp only [World.size_alloc, World.size_setCell, World.size_drew, World.heap_drewN] at hz); try (refine keepc hb (w.heap.size) ?_ ?_; (focus (first | omega | (simp <;> omega))); intro hc0 hf0 hl0); try (refine keepc hb (w.heap.size + 1) ?_ ?_; (focus (first | omega | (simp <;> omega))); intro hc1 hf1 hl1); try (refine keepc hb (w.heap.size + 1 + 1) ?_ ?_; (focus (first | omega | (simp <;> omega))); intro hc2 hf2 hl2)) | (go_at_call 51; refine (inside_any _ _ _ _).mono ?_; rintro e w1 ⟨rfl, rfl⟩))
    go_ret; exact gives (vbool (by simp [sFit, g0, g1, g2])) (by repeat' (first | (with_reducible exact Below.refl _ _) | (with_reducible assumption) | (with_reducible refine Below.alloc ?_ ?_ _) | (with_reducible refine Below.setCell ?_ ?_ _) | (with_reducible refine Below.drew ?_) | (with_reducible refine below_drewN ?_ _) | (apply bthen2; (with_reducible assumption)) | go_size))

theorem seE_any (e : Int) (w : World) : Calls Try.prog 101 #[.int .i64 e] w (Same (.bool (inB e 1 20)) w) := by
  go_enter Try.func101, Try.ntmps101
  go_wp2_with (first | (go_at_call 54; refine (l1In_any _ _ _ _).mono ?_; rintro e w1 ⟨rfl, rfl⟩))
  go_ret
  exact same rfl

theorem seAsked_any (a b x e : Int) (w : World) : Calls Try.prog 66 #[.agg #[.int .i64 a, .int .i64 b], .int .i64 x, .int .i64 e] w (Gives (.bool (sFit a b x e)) w) := by
  cases g0 : isC a b <;> cases g1 : inB x (-10000) 10000 <;> cases g2 : inB e 1 20
  all_goals
    go_enter Try.func66, Try.ntmps66
    go_wp2_with (first | (go_at_call 99; refine (ecGood_any _ _ _).mono ?_; rintro e w1 ⟨rfl, hb⟩; have hz := hb.size; (try simp only [World.size_alloc, World.size_setCell, World.size_drew, World.heap_drewN] at hz); try (refine keepc hb (w.heap.size) ?_ ?_; (focus (first | omega | (simp <;> omega))); intro hc0 hf0 hl0); try (refine keepc hb (w.heap.size + 1) ?_ ?_; (focus (first | omega | (simp <;> omega))); intro hc1 hf1 hl1); try (refine keepc hb (w.heap.size + 1 + 1) ?_ ?_; (focus (first | omega | (simp <;> omega))); intro hc2 hf2 hl2)) | (go_at_call 54; refine (l1In_any _ _ _ _).mono ?_; rintro e w1 ⟨rfl, rfl⟩) | (go_at_call 101; refine (seE_any _ _).mono ?_; rintro e w1 ⟨rfl, rfl⟩))
    go_ret; exact gives (vbool (by simp [sFit, g0, g1, g2])) (by repeat' (first | (with_reducible exact Below.refl _ _) | (with_reducible assumption) | (with_reducible refine Below.alloc ?_ ?_ _) | (with_reducible refine Below.setCell ?_ ?_ _) | (with_reducible refine Below.drew ?_) | (with_reducible refine below_drewN ?_ _) | (apply bthen2; (with_reducible assumption)) | go_size))

noncomputable def oddP (p : Int) : Bool := inB p 3 997 && prB p
theorem oddP_f {p : Int} (h : oddP p = true) : 3 ≤ p ∧ p ≤ 997 ∧ Pr p := by
  unfold oddP at h
  rw [Bool.and_eq_true] at h
  obtain ⟨h1, h2⟩ := h
  have h3 := inB_iff.1 h1
  exact ⟨h3.1, h3.2, by unfold prB at h2; simpa using h2⟩

theorem oddPrime_any (p : Int) (w : World) : Calls Try.prog 72 #[.int .i64 p] w (Same (.bool (oddP p)) w) := by
  cases g0 : inB p 3 997
  · go_enter Try.func72, Try.ntmps72
    go_wp2_with (go_at_call 51; refine (inside_any _ _ _ _).mono ?_; rintro e w1 ⟨rfl, rfl⟩)
    go_ret; exact same (vbool (by simp [oddP, g0]))
  · have hp : p ≤ 1000000000000000000 := by have := (inB_iff.1 g0).2; omega
    cases g1 : prB p
    all_goals
      go_enter Try.func72, Try.ntmps72
      go_wp2_with (first | (go_at_call 51; refine (inside_any _ _ _ _).mono ?_; rintro e w1 ⟨rfl, rfl⟩) | (go_at_call 103; refine (isPrime_any p hp _).mono ?_; rintro e w1 ⟨rfl, rfl⟩))
      go_ret; exact same (vbool (by simp [oddP, g0, g1]))

theorem sePrime_any (p : Int) (w : World) : Calls Try.prog 76 #[.int .i64 p] w (Same (.bool (oddP p)) w) := by
  have e : oddP p = (mdPr p && decide (2 < p)) := by
    unfold oddP mdPr
    cases prB p
    · simp
    · simp only [Bool.and_true]
      rw [Bool.eq_iff_iff]; simp [inB]; omega
  have E := Lib.hid e; clear e
  cases g1 : mdPr p
  · go_enter Try.func76, Try.ntmps76
    go_wp2_with (first | (go_at_call 105; refine (mdPrime_any p _).mono ?_; rintro e w1 ⟨rfl, rfl⟩))
    go_ret; exact same (vbool (by rw [E.out, g1]; rfl))
  · by_cases g2 : 2 < p
    · go_enter Try.func76, Try.ntmps76
      go_wp2_with (first | (go_at_call 105; refine (mdPrime_any p _).mono ?_; rintro e w1 ⟨rfl, rfl⟩))
      go_ret; exact same (vbool (by rw [E.out, g1]; simp [g2]))
    · go_enter Try.func76, Try.ntmps76
      go_wp2_with (first | (go_at_call 105; refine (mdPrime_any p _).mono ?_; rintro e w1 ⟨rfl, rfl⟩))
      go_ret; exact same (vbool (by rw [E.out, g1]; simp [g2]))

def psB (a b x e p : Int) : Bool := decide (0 ≤ symb (cVal a b x e) p)
theorem symb_mod (a p : Int) (h : p ≠ 0) : symb (a % p) p = symb a p := by
  unfold symb pw; rw [emod_pow]

theorem sePasses_any (a b x e p : Int) (hp : oddP p = true) (w : World) : Calls Try.prog 77 #[.agg #[.int .i64 a, .int .i64 b], .int .i64 x, .int .i64 e, .int .i64 p] w (Gives (.bool (psB a b x e p)) w) := by
  obtain ⟨h3, h9, hpr⟩ := oddP_f hp
  have hm1 : 1 ≤ p := by omega
  have hm2 : p ≤ 4000000000000000000 := by omega
  have H1 := Lib.hid (fun w => mdSymbol_any (cVal a b x e % p) p hpr h3 h9 w)
  have hs : ∀ w, Calls Try.prog 106 #[.int .i64 (cVal a b x e % p), .int .i64 p] w (Gives (.int .i64 (symb (cVal a b x e) p)) w) := fun w => by
    rw [← symb_mod _ _ (by omega)]; exact H1.out w
  have H2 := Lib.hid hs
  clear hpr hs H1
  go_enter Try.func77, Try.ntmps77
  go_wp2_with (first | (go_at_call 106; refine (H2.out _).mono ?_; rintro e w1 ⟨rfl, hb⟩; have hz := hb.size; (try simp only [World.size_alloc, World.size_setCell, World.size_drew, World.heap_drewN] at hz); try (refine keepc hb (w.heap.size) ?_ ?_; (focus (first | omega | (simp <;> omega))); intro hc0 hf0 hl0); try (refine keepc hb (w.heap.size + 1) ?_ ?_; (focus (first | omega | (simp <;> omega))); intro hc1 hf1 hl1); try (refine keepc hb (w.heap.size + 1 + 1) ?_ ?_; (focus (first | omega | (simp <;> omega))); intro hc2 hf2 hl2)) | (go_at_call 107; refine (mdMod_any _ _ hm1 hm2 _).mono ?_; rintro e w1 ⟨rfl, rfl⟩) | (go_at_call 67; refine (seValue_any _ _ _ _ _).mono ?_; rintro e w1 ⟨rfl, hb⟩; have hz := hb.size; (try simp only [World.size_alloc, World.size_setCell, World.size_drew, World.heap_drewN] at hz); try (refine keepc hb (w.heap.size) ?_ ?_; (focus (first | omega | (simp <;> omega))); intro hc0 hf0 hl0); try (refine keepc hb (w.heap.size + 1) ?_ ?_; (focus (first | omega | (simp <;> omega))); intro hc1 hf1 hl1); try (refine keepc hb (w.heap.size + 1 + 1) ?_ ?_; (focus (first | omega | (simp <;> omega))); intro hc2 hf2 hl2)))
  go_ret; exact gives rfl (by repeat' (first | (with_reducible exact Below.refl _ _) | (with_reducible assumption) | (with_reducible refine Below.alloc ?_ ?_ _) | (with_reducible refine Below.setCell ?_ ?_ _) | (with_reducible refine Below.drew ?_) | (with_reducible refine below_drewN ?_ _) | (apply bthen2; (with_reducible assumption)) | go_size))

noncomputable def psR (a b x e p : Int) : Value := if sFit a b x e && oddP p then .tuple #[.bool (psB a b x e p), .bool true] else .tuple #[.bool false, .bool false]
theorem PassesSieve_any (a b x e p : Int) (w : World) : Calls Try.prog 24 #[.agg #[.int .i64 a, .int .i64 b], .int .i64 x, .int .i64 e, .int .i64 p] w (Gives (psR a b x e p) w) := by
  cases g0 : sFit a b x e <;> cases g1 : oddP p
  case true.true =>
    obtain ⟨h3, h9, hpr⟩ := oddP_f g1
    have hm1 : 2 ≤ p := by omega
    have hm2 : p ≤ 1000000000 := by omega
    clear hpr
    go_enter Try.func24, Try.ntmps24
    go_wp2_with (first | (go_at_call 64; refine (searchFits_any _ _ _ _ _).mono ?_; rintro e w1 ⟨rfl, hb⟩; have hz := hb.size; (try simp only [World.size_alloc, World.size_setCell, World.size_drew, World.heap_drewN] at hz); try (refine keepc hb (w.heap.size) ?_ ?_; (focus (first | omega | (simp <;> omega))); intro hc0 hf0 hl0); try (refine keepc hb (w.heap.size + 1) ?_ ?_; (focus (first | omega | (simp <;> omega))); intro hc1 hf1 hl1); try (refine keepc hb (w.heap.size + 1 + 1) ?_ ?_; (focus (first | omega | (simp <;> omega))); intro hc2 hf2 hl2)) | (go_at_call 72; refine (oddPrime_any _ _).mono ?_; rintro e w1 ⟨rfl, rfl⟩) | (go_at_call 65; refine (curveValue_any _ _ _ _ _).mono ?_; rintro e w1 ⟨rfl, hb⟩; have hz := hb.size; (try simp only [World.size_alloc, World.size_setCell, World.size_drew, World.heap_drewN] at hz); try (refine keepc hb (w.heap.size) ?_ ?_; (focus (first | omega | (simp <;> omega))); intro hc0 hf0 hl0); try (refine keepc hb (w.heap.size + 1) ?_ ?_; (focus (first | omega | (simp <;> omega))); intro hc1 hf1 hl1); try (refine keepc hb (w.heap.size + 1 + 1) ?_ ?_; (focus (first | omega | (simp <;> omega))); intro hc2 hf2 hl2)) | (go_at_call 73; refine (symbol_any _ _ hm1 hm2 _).mono ?_; rintro e w1 ⟨rfl, hb⟩; have hz := hb.size; (try simp only [World.size_alloc, World.size_setCell, World.size_drew, World.heap_drewN] at hz); try (refine keepc hb (w.heap.size) ?_ ?_; (focus (first | omega | (simp <;> omega))); intro hc0 hf0 hl0); try (refine keepc hb (w.heap.size + 1) ?_ ?_; (focus (first | omega | (simp <;> omega))); intro hc1 hf1 hl1); try (refine keepc hb (w.heap.size + 1 + 1) ?_ ?_; (focus (first | omega | (simp <;> omega))); intro hc2 hf2 hl2)))
    go_ret2; exact gives (by simp [psR, g0, g1, psB]) (by repeat' (first | (with_reducible exact Below.refl _ _) | (with_reducible assumption) | (with_reducible refine Below.alloc ?_ ?_ _) | (with_reducible refine Below.setCell ?_ ?_ _) | (with_reducible refine Below.drew ?_) | (with_reducible refine below_drewN ?_ _) | (apply bthen2; (with_reducible assumption)) | go_size))
  all_goals
    go_enter Try.func24, Try.ntmps24
    go_wp2_with (first | (go_at_call 64; refine (searchFits_any _ _ _ _ _).mono ?_; rintro e w1 ⟨rfl, hb⟩; have hz := hb.size; (try simp only [World.size_alloc, World.size_setCell, World.size_drew, World.heap_drewN] at hz); try (refine keepc hb (w.heap.size) ?_ ?_; (focus (first | omega | (simp <;> omega))); intro hc0 hf0 hl0); try (refine keepc hb (w.heap.size + 1) ?_ ?_; (focus (first | omega | (simp <;> omega))); intro hc1 hf1 hl1); try (refine keepc hb (w.heap.size + 1 + 1) ?_ ?_; (focus (first | omega | (simp <;> omega))); intro hc2 hf2 hl2)) | (go_at_call 72; refine (oddPrime_any _ _).mono ?_; rintro e w1 ⟨rfl, rfl⟩))
    go_ret2; exact gives (by simp [psR, g0, g1]) (by repeat' (first | (with_reducible exact Below.refl _ _) | (with_reducible assumption) | (with_reducible refine Below.alloc ?_ ?_ _) | (with_reducible refine Below.setCell ?_ ?_ _) | (with_reducible refine Below.drew ?_) | (with_reducible refine below_drewN ?_ _) | (apply bthen2; (with_reducible assumption)) | go_size))
theorem sPassesSieve_any (a b x e p : Int) (w : World) : Calls Try.prog 32 #[.agg #[.int .i64 a, .int .i64 b], .int .i64 x, .int .i64 e, .int .i64 p] w (Gives (psR a b x e p) w) := by
  cases g0 : sFit a b x e <;> cases g1 : oddP p
  case true.true =>
    have H := Lib.hid (fun w => sePasses_any a b x e p g1 w)
    go_enter Try.func32, Try.ntmps32
    go_wp2_with (first | (go_at_call 66; refine (seAsked_any _ _ _ _ _).mono ?_; rintro e w1 ⟨rfl, hb⟩; have hz := hb.size; (try simp only [World.size_alloc, World.size_setCell, World.size_drew, World.heap_drewN] at hz); try (refine keepc hb (w.heap.size) ?_ ?_; (focus (first | omega | (simp <;> omega))); intro hc0 hf0 hl0); try (refine keepc hb (w.heap.size + 1) ?_ ?_; (focus (first | omega | (simp <;> omega))); intro hc1 hf1 hl1); try (refine keepc hb (w.heap.size + 1 + 1) ?_ ?_; (focus (first | omega | (simp <;> omega))); intro hc2 hf2 hl2)) | (go_at_call 76; refine (sePrime_any _ _).mono ?_; rintro e w1 ⟨rfl, rfl⟩) | (go_at_call 77; refine (H.out _).mono ?_; rintro e w1 ⟨rfl, hb⟩; have hz := hb.size; (try simp only [World.size_alloc, World.size_setCell, World.size_drew, World.heap_drewN] at hz); try (refine keepc hb (w.heap.size) ?_ ?_; (focus (first | omega | (simp <;> omega))); intro hc0 hf0 hl0); try (refine keepc hb (w.heap.size + 1) ?_ ?_; (focus (first | omega | (simp <;> omega))); intro hc1 hf1 hl1); try (refine keepc hb (w.heap.size + 1 + 1) ?_ ?_; (focus (first | omega | (simp <;> omega))); intro hc2 hf2 hl2)))
    go_ret2; exact gives (by simp [psR, g0, g1]) (by repeat' (first | (with_reducible exact Below.refl _ _) | (with_reducible assumption) | (with_reducible refine Below.alloc ?_ ?_ _) | (with_reducible refine Below.setCell ?_ ?_ _) | (with_reducible refine Below.drew ?_) | (with_reducible refine below_drewN ?_ _) | (apply bthen2; (with_reducible assumption)) | go_size))
  all_goals
    go_enter Try.func32, Try.ntmps32
    go_wp2_with (first | (go_at_call 66; refine (seAsked_any _ _ _ _ _).mono ?_; rintro e w1 ⟨rfl, hb⟩; have hz := hb.size; (try simp only [World.size_alloc, World.size_setCell, World.size_drew, World.heap_drewN] at hz); try (refine keepc hb (w.heap.size) ?_ ?_; (focus (first | omega | (simp <;> omega))); intro hc0 hf0 hl0); try (refine keepc hb (w.heap.size + 1) ?_ ?_; (focus (first | omega | (simp <;> omega))); intro hc1 hf1 hl1); try (refine keepc hb (w.heap.size + 1 + 1) ?_ ?_; (focus (first | omega | (simp <;> omega))); intro hc2 hf2 hl2)) | (go_at_call 76; refine (sePrime_any _ _).mono ?_; rintro e w1 ⟨rfl, rfl⟩))
    go_ret2; exact gives (by simp [psR, g0, g1]) (by repeat' (first | (with_reducible exact Below.refl _ _) | (with_reducible assumption) | (with_reducible refine Below.alloc ?_ ?_ _) | (with_reducible refine Below.setCell ?_ ?_ _) | (with_reducible refine Below.drew ?_) | (with_reducible refine below_drewN ?_ _) | (apply bthen2; (with_reducible assumption)) | go_size))

def cs (f : Int → Bool) (x0 : Int) : Nat → Int
  | 0 => 0
  | n + 1 => cs f x0 n + (if f (x0 + n) then 1 else 0)
theorem cs_bd (f : Int → Bool) (x0 : Int) (n : Nat) : 0 ≤ cs f x0 n ∧ cs f x0 n ≤ n := by
  induction n with
  | zero => exact ⟨Int.le_refl _, Int.le_refl _⟩
  | succ n ih => simp only [cs]; split <;> omega
def csV (a b e m p : Int) : Int := cs (fun x => psB a b x e p) (-m) (2 * m + 1).toNat
noncomputable def csR (a b e m p : Int) : Value := if sFit a b m e && decide (0 ≤ m) && oddP p then .tuple #[.int .i64 (csV a b e m p), .bool true] else .tuple #[.int .i64 0, .bool false]
theorem CountSieved_any (a b e m p : Int) (w : World) : Calls Try.prog 29 #[.agg #[.int .i64 a, .int .i64 b], .int .i64 e, .int .i64 m, .int .i64 p] w (Gives (csR a b e m p) w) := by
  have h0 : (sFit a b m e && decide (0 ≤ m) && oddP p) = false → csR a b e m p = .tuple #[.int .i64 0, .bool false] := fun h => by unfold csR; rw [if_neg (by simp [h])]
  cases g0 : sFit a b m e
  · have HR := Lib.hid (h0 (by simp [g0])); clear h0
    go_enter Try.func29, Try.ntmps29
    go_wp2_with (first | (go_at_call 64; refine (searchFits_any _ _ _ _ _).mono ?_; rintro e w1 ⟨rfl, hb⟩; have hz := hb.size; (try simp only [World.size_alloc, World.size_setCell, World.size_drew, World.heap_drewN] at hz); try (refine keepc hb (w.heap.size) ?_ ?_; (focus (first | omega | (simp <;> omega))); intro hc0 hf0 hl0); try (refine keepc hb (w.heap.size + 1) ?_ ?_; (focus (first | omega | (simp <;> omega))); intro hc1 hf1 hl1); try (refine keepc hb (w.heap.size + 1 + 1) ?_ ?_; (focus (first | omega | (simp <;> omega))); intro hc2 hf2 hl2)))
    go_ret2; exact gives HR.out.symm (by repeat' (first | (with_reducible exact Below.refl _ _) | (with_reducible assumption) | (with_reducible refine Below.alloc ?_ ?_ _) | (with_reducible refine Below.setCell ?_ ?_ _) | (with_reducible refine Below.drew ?_) | (with_reducible refine below_drewN ?_ _) | (apply bthen2; (with_reducible assumption)) | go_size))
  by_cases gm : 0 ≤ m
  case neg =>
    have HR := Lib.hid (h0 (by simp [gm])); clear h0
    go_enter Try.func29, Try.ntmps29
    go_wp2_with (first | (go_at_call 64; refine (searchFits_any _ _ _ _ _).mono ?_; rintro e w1 ⟨rfl, hb⟩; have hz := hb.size; (try simp only [World.size_alloc, World.size_setCell, World.size_drew, World.heap_drewN] at hz); try (refine keepc hb (w.heap.size) ?_ ?_; (focus (first | omega | (simp <;> omega))); intro hc0 hf0 hl0); try (refine keepc hb (w.heap.size + 1) ?_ ?_; (focus (first | omega | (simp <;> omega))); intro hc1 hf1 hl1); try (refine keepc hb (w.heap.size + 1 + 1) ?_ ?_; (focus (first | omega | (simp <;> omega))); intro hc2 hf2 hl2)))
    go_ret2; exact gives HR.out.symm (by repeat' (first | (with_reducible exact Below.refl _ _) | (with_reducible assumption) | (with_reducible refine Below.alloc ?_ ?_ _) | (with_reducible refine Below.setCell ?_ ?_ _) | (with_reducible refine Below.drew ?_) | (with_reducible refine below_drewN ?_ _) | (apply bthen2; (with_reducible assumption)) | go_size))
  cases g1 : oddP p
  · have HR := Lib.hid (h0 (by simp [g1])); clear h0
    go_enter Try.func29, Try.ntmps29
    go_wp2_with (first | (go_at_call 64; refine (searchFits_any _ _ _ _ _).mono ?_; rintro e w1 ⟨rfl, hb⟩; have hz := hb.size; (try simp only [World.size_alloc, World.size_setCell, World.size_drew, World.heap_drewN] at hz); try (refine keepc hb (w.heap.size) ?_ ?_; (focus (first | omega | (simp <;> omega))); intro hc0 hf0 hl0); try (refine keepc hb (w.heap.size + 1) ?_ ?_; (focus (first | omega | (simp <;> omega))); intro hc1 hf1 hl1); try (refine keepc hb (w.heap.size + 1 + 1) ?_ ?_; (focus (first | omega | (simp <;> omega))); intro hc2 hf2 hl2)) | (go_at_call 72; refine (oddPrime_any _ _).mono ?_; rintro e w1 ⟨rfl, rfl⟩))
    go_ret2; exact gives HR.out.symm (by repeat' (first | (with_reducible exact Below.refl _ _) | (with_reducible assumption) | (with_reducible refine Below.alloc ?_ ?_ _) | (with_reducible refine Below.setCell ?_ ?_ _) | (with_reducible refine Below.drew ?_) | (with_reducible refine below_drewN ?_ _) | (apply bthen2; (with_reducible assumption)) | go_size))
  clear h0
  obtain ⟨h3, h9, hpr⟩ := oddP_f g1
  have hm1 : 2 ≤ p := by omega
  have hm2 : p ≤ 1000000000 := by omega
  have hmm : m ≤ 10000 := by
    have : inB m (-10000) 10000 = true := by unfold sFit at g0; simp at g0; exact g0.1.2
    exact (inB_iff.1 this).2
  clear hpr
  have hres : csR a b e m p = .tuple #[.int .i64 (csV a b e m p), .bool true] := by unfold csR; rw [if_pos (by simp [g0, g1, gm])]
  have HR := Lib.hid hres; clear hres
  go_enter Try.func29, Try.ntmps29
  go_wp2_with (first | (go_at_call 64; refine (searchFits_any _ _ _ _ _).mono ?_; rintro e w1 ⟨rfl, hb⟩; have hz := hb.size; (try simp only [World.size_alloc, World.size_setCell, World.size_drew, World.heap_drewN] at hz); try (refine keepc hb (w.heap.size) ?_ ?_; (focus (first | omega | (simp <;> omega))); intro hc0 hf0 hl0); try (refine keepc hb (w.heap.size + 1) ?_ ?_; (focus (first | omega | (simp <;> omega))); intro hc1 hf1 hl1); try (refine keepc hb (w.heap.size + 1 + 1) ?_ ?_; (focus (first | omega | (simp <;> omega))); intro hc2 hf2 hl2)) | (go_at_call 72; refine (oddPrime_any _ _).mono ?_; rintro e w1 ⟨rfl, rfl⟩))
  go_loopw [10, 11] (fun v10 v11 wr => ∃ k : Nat, (k : Int) ≤ 2 * m + 1 ∧ v10 = .int .i64 (cs (fun x => psB a b x e p) (-m) k) ∧ v11 = .int .i64 (-m + k) ∧ Below w.heap.size w wr ∧ w.heap.size + 1 ≤ wr.heap.size ∧ wr.cell? ⟨w.heap.size, 0, none⟩ = some (.int .i64 a) ∧ wr.cell? ⟨w.heap.size, 1, none⟩ = some (.int .i64 b)) (fun _ v11 _ => (m + 1 - intOf v11).toNat)
  case atStart => exact ⟨0, by omega, rfl, by simp, (by repeat' (first | (with_reducible exact Below.refl _ _) | (with_reducible assumption) | (with_reducible refine Below.alloc ?_ ?_ _) | (with_reducible refine Below.setCell ?_ ?_ _) | (with_reducible refine Below.drew ?_) | (with_reducible refine below_drewN ?_ _) | (apply bthen2; (with_reducible assumption)) | go_size)), by first | omega | (simp; omega) | simp, by simp [*], by simp [*]⟩
  case round =>
    obtain ⟨k, hk, rfl, rfl, hbw, hsz, hA, hB⟩ := hrel
    have hc1 := (cs_bd (fun x => psB a b x e p) (-m) k).1
    have hc2 := (cs_bd (fun x => psB a b x e p) (-m) k).2
    by_cases hlt : -m + k ≤ m
    · cases gs : psB a b (-m + k) e p
      all_goals
        have hstep : cs (fun x => psB a b x e p) (-m) (k + 1) = cs (fun x => psB a b x e p) (-m) k + (if psB a b (-m + k) e p then 1 else 0) := rfl
        rw [gs] at hstep
        have HS := Lib.hid hstep; clear hstep
        have gs' : decide (0 ≤ symb (cVal a b (-m + k) e) p) = _ := gs
        simp only [decide_eq_true_eq, decide_eq_false_iff_not] at gs'
        go_wp2_with (first | (go_at_call 65; refine (curveValue_any _ _ _ _ _).mono ?_; rintro e w1 ⟨rfl, hb⟩; have hz := hb.size; (try simp only [World.size_alloc, World.size_setCell, World.size_drew, World.heap_drewN] at hz); try (refine keepc hb (w.heap.size) ?_ ?_; (focus (first | omega | (simp <;> omega))); intro hc0 hf0 hl0); try (refine keepc hb (w.heap.size + 1) ?_ ?_; (focus (first | omega | (simp <;> omega))); intro hc1 hf1 hl1); try (refine keepc hb (w.heap.size + 1 + 1) ?_ ?_; (focus (first | omega | (simp <;> omega))); intro hc2 hf2 hl2)) | (go_at_call 73; refine (symbol_any _ _ hm1 hm2 _).mono ?_; rintro e w1 ⟨rfl, hb⟩; have hz := hb.size; (try simp only [World.size_alloc, World.size_setCell, World.size_drew, World.heap_drewN] at hz); try (refine keepc hb (w.heap.size) ?_ ?_; (focus (first | omega | (simp <;> omega))); intro hc0 hf0 hl0); try (refine keepc hb (w.heap.size + 1) ?_ ?_; (focus (first | omega | (simp <;> omega))); intro hc1 hf1 hl1); try (refine keepc hb (w.heap.size + 1 + 1) ?_ ?_; (focus (first | omega | (simp <;> omega))); intro hc2 hf2 hl2)))
        go_roundw
        case rel => exact ⟨k + 1, by omega, by rw [HS.out]; simp, by go_num, (by repeat' (first | (with_reducible exact Below.refl _ _) | (with_reducible assumption) | (with_reducible refine Below.alloc ?_ ?_ _) | (with_reducible refine Below.setCell ?_ ?_ _) | (with_reducible refine Below.drew ?_) | (with_reducible refine below_drewN ?_ _) | (apply bthen2; (with_reducible assumption)) | go_size)), by omega, by simp [*], by simp [*]⟩
        case measure => simp [intOf]; omega
    · have he : cs (fun x => psB a b x e p) (-m) k = csV a b e m p := by unfold csV; congr 1; omega
      have HE := Lib.hid he; clear he
      go_wp2
      go_ret2
      exact gives (by rw [HR.out, ← HE.out]; rfl) (by repeat' (first | (with_reducible exact Below.refl _ _) | (with_reducible assumption) | (with_reducible refine Below.alloc ?_ ?_ _) | (with_reducible refine Below.setCell ?_ ?_ _) | (with_reducible refine Below.drew ?_) | (with_reducible refine below_drewN ?_ _) | (apply bthen2; (with_reducible assumption)) | go_size))
theorem sCountSieved_any (a b e m p : Int) (w : World) : Calls Try.prog 30 #[.agg #[.int .i64 a, .int .i64 b], .int .i64 e, .int .i64 m, .int .i64 p] w (Gives (csR a b e m p) w) := by
  have h0 : (sFit a b m e && decide (0 ≤ m) && oddP p) = false → csR a b e m p = .tuple #[.int .i64 0, .bool false] := fun h => by unfold csR; rw [if_neg (by simp [h])]
  cases g0 : sFit a b m e
  · have HR := Lib.hid (h0 (by simp [g0])); clear h0
    go_enter Try.func30, Try.ntmps30
    go_wp2_with (first | (go_at_call 66; refine (seAsked_any _ _ _ _ _).mono ?_; rintro e w1 ⟨rfl, hb⟩; have hz := hb.size; (try simp only [World.size_alloc, World.size_setCell, World.size_drew, World.heap_drewN] at hz); try (refine keepc hb (w.heap.size) ?_ ?_; (focus (first | omega | (simp <;> omega))); intro hc0 hf0 hl0); try (refine keepc hb (w.heap.size + 1) ?_ ?_; (focus (first | omega | (simp <;> omega))); intro hc1 hf1 hl1); try (refine keepc hb (w.heap.size + 1 + 1) ?_ ?_; (focus (first | omega | (simp <;> omega))); intro hc2 hf2 hl2)))
    go_ret2; exact gives HR.out.symm (by repeat' (first | (with_reducible exact Below.refl _ _) | (with_reducible assumption) | (with_reducible refine Below.alloc ?_ ?_ _) | (with_reducible refine Below.setCell ?_ ?_ _) | (with_reducible refine Below.drew ?_) | (with_reducible refine below_drewN ?_ _) | (apply bthen2; (with_reducible assumption)) | go_size))
  by_cases gm : 0 ≤ m
  case neg =>
    have HR := Lib.hid (h0 (by simp [gm])); clear h0
    go_enter Try.func30, Try.ntmps30
    go_wp2_with (first | (go_at_call 66; refine (seAsked_any _ _ _ _ _).mono ?_; rintro e w1 ⟨rfl, hb⟩; have hz := hb.size; (try simp only [World.size_alloc, World.size_setCell, World.size_drew, World.heap_drewN] at hz); try (refine keepc hb (w.heap.size) ?_ ?_; (focus (first | omega | (simp <;> omega))); intro hc0 hf0 hl0); try (refine keepc hb (w.heap.size + 1) ?_ ?_; (focus (first | omega | (simp <;> omega))); intro hc1 hf1 hl1); try (refine keepc hb (w.heap.size + 1 + 1) ?_ ?_; (focus (first | omega | (simp <;> omega))); intro hc2 hf2 hl2)))
    go_ret2; exact gives HR.out.symm (by repeat' (first | (with_reducible exact Below.refl _ _) | (with_reducible assumption) | (with_reducible refine Below.alloc ?_ ?_ _) | (with_reducible refine Below.setCell ?_ ?_ _) | (with_reducible refine Below.drew ?_) | (with_reducible refine below_drewN ?_ _) | (apply bthen2; (with_reducible assumption)) | go_size))
  cases g1 : oddP p
  · have HR := Lib.hid (h0 (by simp [g1])); clear h0
    go_enter Try.func30, Try.ntmps30
    go_wp2_with (first | (go_at_call 66; refine (seAsked_any _ _ _ _ _).mono ?_; rintro e w1 ⟨rfl, hb⟩; have hz := hb.size; (try simp only [World.size_alloc, World.size_setCell, World.size_drew, World.heap_drewN] at hz); try (refine keepc hb (w.heap.size) ?_ ?_; (focus (first | omega | (simp <;> omega))); intro hc0 hf0 hl0); try (refine keepc hb (w.heap.size + 1) ?_ ?_; (focus (first | omega | (simp <;> omega))); intro hc1 hf1 hl1); try (refine keepc hb (w.heap.size + 1 + 1) ?_ ?_; (focus (first | omega | (simp <;> omega))); intro hc2 hf2 hl2)) | (go_at_call 76; refine (sePrime_any _ _).mono ?_; rintro e w1 ⟨rfl, rfl⟩))
    go_ret2; exact gives HR.out.symm (by repeat' (first | (with_reducible exact Below.refl _ _) | (with_reducible assumption) | (with_reducible refine Below.alloc ?_ ?_ _) | (with_reducible refine Below.setCell ?_ ?_ _) | (with_reducible refine Below.drew ?_) | (with_reducible refine below_drewN ?_ _) | (apply bthen2; (with_reducible assumption)) | go_size))
  clear h0
  obtain ⟨h3, h9, hpr⟩ := oddP_f g1
  have hm1 : 2 ≤ p := by omega
  have hm2 : p ≤ 1000000000 := by omega
  have hmm : m ≤ 10000 := by
    have : inB m (-10000) 10000 = true := by unfold sFit at g0; simp at g0; exact g0.1.2
    exact (inB_iff.1 this).2
  clear hpr
  have HP := Lib.hid (fun x w => sePasses_any a b x e p g1 w)
  have hres : csR a b e m p = .tuple #[.int .i64 (csV a b e m p), .bool true] := by unfold csR; rw [if_pos (by simp [g0, g1, gm])]
  have HR := Lib.hid hres; clear hres
  go_enter Try.func30, Try.ntmps30
  go_wp2_with (first | (go_at_call 66; refine (seAsked_any _ _ _ _ _).mono ?_; rintro e w1 ⟨rfl, hb⟩; have hz := hb.size; (try simp only [World.size_alloc, World.size_setCell, World.size_drew, World.heap_drewN] at hz); try (refine keepc hb (w.heap.size) ?_ ?_; (focus (first | omega | (simp <;> omega))); intro hc0 hf0 hl0); try (refine keepc hb (w.heap.size + 1) ?_ ?_; (focus (first | omega | (simp <;> omega))); intro hc1 hf1 hl1); try (refine keepc hb (w.heap.size + 1 + 1) ?_ ?_; (focus (first | omega | (simp <;> omega))); intro hc2 hf2 hl2)) | (go_at_call 76; refine (sePrime_any _ _).mono ?_; rintro e w1 ⟨rfl, rfl⟩))
  go_loopw [10, 11] (fun v10 v11 wr => ∃ k : Nat, (k : Int) ≤ 2 * m + 1 ∧ v10 = .int .i64 (cs (fun x => psB a b x e p) (-m) k) ∧ v11 = .int .i64 (-m + k) ∧ Below w.heap.size w wr ∧ w.heap.size + 1 ≤ wr.heap.size ∧ wr.cell? ⟨w.heap.size, 0, none⟩ = some (.int .i64 a) ∧ wr.cell? ⟨w.heap.size, 1, none⟩ = some (.int .i64 b)) (fun _ v11 _ => (m + 1 - intOf v11).toNat)
  case atStart => exact ⟨0, by omega, rfl, by simp, (by repeat' (first | (with_reducible exact Below.refl _ _) | (with_reducible assumption) | (with_reducible refine Below.alloc ?_ ?_ _) | (with_reducible refine Below.setCell ?_ ?_ _) | (with_reducible refine Below.drew ?_) | (with_reducible refine below_drewN ?_ _) | (apply bthen2; (with_reducible assumption)) | go_size)), by first | omega | (simp; omega) | simp, by simp [*], by simp [*]⟩
  case round =>
    obtain ⟨k, hk, rfl, rfl, hbw, hsz, hA, hB⟩ := hrel
    have hc1 := (cs_bd (fun x => psB a b x e p) (-m) k).1
    have hc2 := (cs_bd (fun x => psB a b x e p) (-m) k).2
    by_cases hlt : -m + k ≤ m
    · cases gs : psB a b (-m + k) e p
      all_goals
        have hstep : cs (fun x => psB a b x e p) (-m) (k + 1) = cs (fun x => psB a b x e p) (-m) k + (if psB a b (-m + k) e p then 1 else 0) := rfl
        rw [gs] at hstep
        have HS := Lib.hid hstep; clear hstep
        go_wp2_with (first | (go_at_call 77; refine (HP.out _ _).mono ?_; rintro e w1 ⟨rfl, hb⟩; have hz := hb.size; (try simp only [World.size_alloc, World.size_setCell, World.size_drew, World.heap_drewN] at hz); try (refine keepc hb (w.heap.size) ?_ ?_; (focus (first | omega | (simp <;> omega))); intro hc0 hf0 hl0); try (refine keepc hb (w.heap.size + 1) ?_ ?_; (focus (first | omega | (simp <;> omega))); intro hc1 hf1 hl1); try (refine keepc hb (w.heap.size + 1 + 1) ?_ ?_; (focus (first | omega | (simp <;> omega))); intro hc2 hf2 hl2)))
        go_roundw
        case rel => exact ⟨k + 1, by omega, by rw [HS.out]; simp, by go_num, (by repeat' (first | (with_reducible exact Below.refl _ _) | (with_reducible assumption) | (with_reducible refine Below.alloc ?_ ?_ _) | (with_reducible refine Below.setCell ?_ ?_ _) | (with_reducible refine Below.drew ?_) | (with_reducible refine below_drewN ?_ _) | (apply bthen2; (with_reducible assumption)) | go_size)), by omega, by simp [*], by simp [*]⟩
        case measure => simp [intOf]; omega
    · have he : cs (fun x => psB a b x e p) (-m) k = csV a b e m p := by unfold csV; congr 1; omega
      have HE := Lib.hid he; clear he
      go_wp2
      go_ret2
      exact gives (by rw [HR.out, ← HE.out]; rfl) (by repeat' (first | (with_reducible exact Below.refl _ _) | (with_reducible assumption) | (with_reducible refine Below.alloc ?_ ?_ _) | (with_reducible refine Below.setCell ?_ ?_ _) | (with_reducible refine Below.drew ?_) | (with_reducible refine below_drewN ?_ _) | (apply bthen2; (with_reducible assumption)) | go_size))

def cvR (a b x e : Int) : Value := if sFit a b x e then .tuple #[.int .i64 (cVal a b x e), .bool true] else .tuple #[.int .i64 0, .bool false]
theorem CurveValue_any (a b x e : Int) (w : World) : Calls Try.prog 16 #[.agg #[.int .i64 a, .int .i64 b], .int .i64 x, .int .i64 e] w (Gives (cvR a b x e) w) := by
  cases g0 : sFit a b x e
  all_goals
    go_enter Try.func16, Try.ntmps16
    go_wp2_with (first | (go_at_call 64; refine (searchFits_any _ _ _ _ _).mono ?_; rintro e w1 ⟨rfl, hb⟩; have hz := hb.size; (try simp only [World.size_alloc, World.size_setCell, World.size_drew, World.heap_drewN] at hz); try (refine keepc hb (w.heap.size) ?_ ?_; (focus (first | omega | (simp <;> omega))); intro hc0 hf0 hl0); try (refine keepc hb (w.heap.size + 1) ?_ ?_; (focus (first | omega | (simp <;> omega))); intro hc1 hf1 hl1); try (refine keepc hb (w.heap.size + 1 + 1) ?_ ?_; (focus (first | omega | (simp <;> omega))); intro hc2 hf2 hl2)) | (go_at_call 65; refine (curveValue_any _ _ _ _ _).mono ?_; rintro e w1 ⟨rfl, hb⟩; have hz := hb.size; (try simp only [World.size_alloc, World.size_setCell, World.size_drew, World.heap_drewN] at hz); try (refine keepc hb (w.heap.size) ?_ ?_; (focus (first | omega | (simp <;> omega))); intro hc0 hf0 hl0); try (refine keepc hb (w.heap.size + 1) ?_ ?_; (focus (first | omega | (simp <;> omega))); intro hc1 hf1 hl1); try (refine keepc hb (w.heap.size + 1 + 1) ?_ ?_; (focus (first | omega | (simp <;> omega))); intro hc2 hf2 hl2)))
    go_ret2; exact gives (by simp [cvR, g0]) (by repeat' (first | (with_reducible exact Below.refl _ _) | (with_reducible assumption) | (with_reducible refine Below.alloc ?_ ?_ _) | (with_reducible refine Below.setCell ?_ ?_ _) | (with_reducible refine Below.drew ?_) | (with_reducible refine below_drewN ?_ _) | (apply bthen2; (with_reducible assumption)) | go_size))
theorem sCurveValue_any (a b x e : Int) (w : World) : Calls Try.prog 17 #[.agg #[.int .i64 a, .int .i64 b], .int .i64 x, .int .i64 e] w (Gives (cvR a b x e) w) := by
  cases g0 : sFit a b x e
  all_goals
    go_enter Try.func17, Try.ntmps17
    go_wp2_with (first | (go_at_call 66; refine (seAsked_any _ _ _ _ _).mono ?_; rintro e w1 ⟨rfl, hb⟩; have hz := hb.size; (try simp only [World.size_alloc, World.size_setCell, World.size_drew, World.heap_drewN] at hz); try (refine keepc hb (w.heap.size) ?_ ?_; (focus (first | omega | (simp <;> omega))); intro hc0 hf0 hl0); try (refine keepc hb (w.heap.size + 1) ?_ ?_; (focus (first | omega | (simp <;> omega))); intro hc1 hf1 hl1); try (refine keepc hb (w.heap.size + 1 + 1) ?_ ?_; (focus (first | omega | (simp <;> omega))); intro hc2 hf2 hl2)) | (go_at_call 67; refine (seValue_any _ _ _ _ _).mono ?_; rintro e w1 ⟨rfl, hb⟩; have hz := hb.size; (try simp only [World.size_alloc, World.size_setCell, World.size_drew, World.heap_drewN] at hz); try (refine keepc hb (w.heap.size) ?_ ?_; (focus (first | omega | (simp <;> omega))); intro hc0 hf0 hl0); try (refine keepc hb (w.heap.size + 1) ?_ ?_; (focus (first | omega | (simp <;> omega))); intro hc1 hf1 hl1); try (refine keepc hb (w.heap.size + 1 + 1) ?_ ?_; (focus (first | omega | (simp <;> omega))); intro hc2 hf2 hl2)))
    go_ret2; exact gives (by simp [cvR, g0]) (by repeat' (first | (with_reducible exact Below.refl _ _) | (with_reducible assumption) | (with_reducible refine Below.alloc ?_ ?_ _) | (with_reducible refine Below.setCell ?_ ?_ _) | (with_reducible refine Below.drew ?_) | (with_reducible refine below_drewN ?_ _) | (apply bthen2; (with_reducible assumption)) | go_size))

end Go.Proofs.Ytelkmldmebdcgaa
