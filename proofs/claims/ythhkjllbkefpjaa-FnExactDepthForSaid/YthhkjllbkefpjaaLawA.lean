import Derived.Test.YthhkjllbkefpjaaNumA
namespace Go.Proofs.Ythhkjllbkefpjaa
open Go.RowKit

theorem toQuartic_any (d a c : Int) (w : World) : Calls Try.prog 10 #[.agg #[.int .i64 d, .int .i64 a, .int .i64 c]] w (Gives (.agg #[.int .i64 d, .int .i64 a, .int .i64 c]) w) := by
  go_enter Try.func10, Try.ntmps10
  go_wp2
  go_returns
  exact gives rfl (by repeat' (first | (with_reducible exact Below.refl _ _) | (with_reducible assumption) | (with_reducible refine Below.alloc ?_ ?_ _) | (with_reducible refine Below.setCell ?_ ?_ _) | (with_reducible refine Below.drew ?_) | (apply bthen2; (with_reducible assumption)) | go_size))

theorem IsQuartic_any (d a c : Int) (w : World) : Calls Try.prog 11 #[.agg #[.int .i64 d, .int .i64 a, .int .i64 c]] w (Gives (.bool (isQ d a c)) w) := by
  go_enter Try.func11, Try.ntmps11
  go_wp2_with (go_at_call 24; refine (isQuartic_any _ _ _ _).mono ?_; rintro e w1 ⟨rfl, hb⟩; have hz := hb.size; (try simp only [World.size_alloc, World.size_setCell, World.size_drew, World.heap_drewN] at hz); try (refine keepc hb (w.heap.size) ?_ ?_; (focus (first | omega | (simp <;> omega))); intro hc0); try (refine keepc hb (w.heap.size + 1) ?_ ?_; (focus (first | omega | (simp <;> omega))); intro hc1); try (refine keepc hb (w.heap.size + 2) ?_ ?_; (focus (first | omega | (simp <;> omega))); intro hc2))
  go_ret
  exact gives rfl (by repeat' (first | (with_reducible exact Below.refl _ _) | (with_reducible assumption) | (with_reducible refine Below.alloc ?_ ?_ _) | (with_reducible refine Below.setCell ?_ ?_ _) | (with_reducible refine Below.drew ?_) | (apply bthen2; (with_reducible assumption)) | go_size))
theorem sIsQuartic_any (d a c : Int) (w : World) : Calls Try.prog 9 #[.agg #[.int .i64 d, .int .i64 a, .int .i64 c]] w (Gives (.bool (isQ d a c)) w) := by
  go_enter Try.func9, Try.ntmps9
  go_wp2_with (go_at_call 23; refine (loGood_any _ _ _ _).mono ?_; rintro e w1 ⟨rfl, hb⟩; have hz := hb.size; (try simp only [World.size_alloc, World.size_setCell, World.size_drew, World.heap_drewN] at hz); try (refine keepc hb (w.heap.size) ?_ ?_; (focus (first | omega | (simp <;> omega))); intro hc0); try (refine keepc hb (w.heap.size + 1) ?_ ?_; (focus (first | omega | (simp <;> omega))); intro hc1); try (refine keepc hb (w.heap.size + 2) ?_ ?_; (focus (first | omega | (simp <;> omega))); intro hc2))
  go_ret
  exact gives rfl (by repeat' (first | (with_reducible exact Below.refl _ _) | (with_reducible assumption) | (with_reducible refine Below.alloc ?_ ?_ _) | (with_reducible refine Below.setCell ?_ ?_ _) | (with_reducible refine Below.drew ?_) | (apply bthen2; (with_reducible assumption)) | go_size))
theorem walk_FnExactIsQuartic (d a c : Int) (w : World) (_w0 : (Lit.int .i64 d).wf = true) (_w1 : (Lit.int .i64 a).wf = true) (_w2 : (Lit.int .i64 c).wf = true) : Calls Try.prog 3 #[.agg #[.int .i64 d, .int .i64 a, .int .i64 c]] w (Gives (.bool true) w) := by
  go_enter Try.func3, Try.ntmps3
  go_wp2_with (first | (go_at_call 10; refine (toQuartic_any _ _ _ _).mono ?_; rintro e w1 ⟨rfl, hb⟩; have hz := hb.size; (try simp only [World.size_alloc, World.size_setCell, World.size_drew, World.heap_drewN] at hz); try (refine keepc hb (w.heap.size) ?_ ?_; (focus (first | omega | (simp <;> omega))); intro hc0); try (refine keepc hb (w.heap.size + 1) ?_ ?_; (focus (first | omega | (simp <;> omega))); intro hc1); try (refine keepc hb (w.heap.size + 2) ?_ ?_; (focus (first | omega | (simp <;> omega))); intro hc2)) | (go_at_call 11; refine (IsQuartic_any _ _ _ _).mono ?_; rintro e w1 ⟨rfl, hb⟩; have hz := hb.size; (try simp only [World.size_alloc, World.size_setCell, World.size_drew, World.heap_drewN] at hz); try (refine keepc hb (w.heap.size) ?_ ?_; (focus (first | omega | (simp <;> omega))); intro hc0); try (refine keepc hb (w.heap.size + 1) ?_ ?_; (focus (first | omega | (simp <;> omega))); intro hc1); try (refine keepc hb (w.heap.size + 2) ?_ ?_; (focus (first | omega | (simp <;> omega))); intro hc2)) | (go_at_call 9; refine (sIsQuartic_any _ _ _ _).mono ?_; rintro e w1 ⟨rfl, hb⟩; have hz := hb.size; (try simp only [World.size_alloc, World.size_setCell, World.size_drew, World.heap_drewN] at hz); try (refine keepc hb (w.heap.size) ?_ ?_; (focus (first | omega | (simp <;> omega))); intro hc0); try (refine keepc hb (w.heap.size + 1) ?_ ?_; (focus (first | omega | (simp <;> omega))); intro hc1); try (refine keepc hb (w.heap.size + 2) ?_ ?_; (focus (first | omega | (simp <;> omega))); intro hc2)))
  go_ret
  exact gives rfl (by repeat' (first | (with_reducible exact Below.refl _ _) | (with_reducible assumption) | (with_reducible refine Below.alloc ?_ ?_ _) | (with_reducible refine Below.setCell ?_ ?_ _) | (with_reducible refine Below.drew ?_) | (apply bthen2; (with_reducible assumption)) | go_size))

def hrpR (d a c : Int) : Value := if isQ d a c then .tuple #[.bool (qReal d a c), .bool true] else .tuple #[.bool false, .bool false]
theorem HasRealPoint_any (d a c : Int) (w : World) : Calls Try.prog 13 #[.agg #[.int .i64 d, .int .i64 a, .int .i64 c]] w (Gives (hrpR d a c) w) := by
  cases g0 : isQ d a c
  all_goals
    go_enter Try.func13, Try.ntmps13
    go_wp2_with (first | (go_at_call 24; refine (isQuartic_any _ _ _ _).mono ?_; rintro e w1 ⟨rfl, hb⟩; have hz := hb.size; (try simp only [World.size_alloc, World.size_setCell, World.size_drew, World.heap_drewN] at hz); try (refine keepc hb (w.heap.size) ?_ ?_; (focus (first | omega | (simp <;> omega))); intro hc0); try (refine keepc hb (w.heap.size + 1) ?_ ?_; (focus (first | omega | (simp <;> omega))); intro hc1); try (refine keepc hb (w.heap.size + 2) ?_ ?_; (focus (first | omega | (simp <;> omega))); intro hc2)) | (go_at_call 26; refine (isReal_any _ _ _ _).mono ?_; rintro e w1 ⟨rfl, hb⟩; have hz := hb.size; (try simp only [World.size_alloc, World.size_setCell, World.size_drew, World.heap_drewN] at hz); try (refine keepc hb (w.heap.size) ?_ ?_; (focus (first | omega | (simp <;> omega))); intro hc0); try (refine keepc hb (w.heap.size + 1) ?_ ?_; (focus (first | omega | (simp <;> omega))); intro hc1); try (refine keepc hb (w.heap.size + 2) ?_ ?_; (focus (first | omega | (simp <;> omega))); intro hc2)))
    go_ret2; exact gives (by simp [hrpR, g0]) (by repeat' (first | (with_reducible exact Below.refl _ _) | (with_reducible assumption) | (with_reducible refine Below.alloc ?_ ?_ _) | (with_reducible refine Below.setCell ?_ ?_ _) | (with_reducible refine Below.drew ?_) | (apply bthen2; (with_reducible assumption)) | go_size))
theorem sHasRealPoint_any (d a c : Int) (w : World) : Calls Try.prog 12 #[.agg #[.int .i64 d, .int .i64 a, .int .i64 c]] w (Gives (hrpR d a c) w) := by
  cases g0 : isQ d a c
  all_goals
    go_enter Try.func12, Try.ntmps12
    go_wp2_with (first | (go_at_call 23; refine (loGood_any _ _ _ _).mono ?_; rintro e w1 ⟨rfl, hb⟩; have hz := hb.size; (try simp only [World.size_alloc, World.size_setCell, World.size_drew, World.heap_drewN] at hz); try (refine keepc hb (w.heap.size) ?_ ?_; (focus (first | omega | (simp <;> omega))); intro hc0); try (refine keepc hb (w.heap.size + 1) ?_ ?_; (focus (first | omega | (simp <;> omega))); intro hc1); try (refine keepc hb (w.heap.size + 2) ?_ ?_; (focus (first | omega | (simp <;> omega))); intro hc2)) | (go_at_call 25; refine (loReal_any _ _ _ _).mono ?_; rintro e w1 ⟨rfl, hb⟩; have hz := hb.size; (try simp only [World.size_alloc, World.size_setCell, World.size_drew, World.heap_drewN] at hz); try (refine keepc hb (w.heap.size) ?_ ?_; (focus (first | omega | (simp <;> omega))); intro hc0); try (refine keepc hb (w.heap.size + 1) ?_ ?_; (focus (first | omega | (simp <;> omega))); intro hc1); try (refine keepc hb (w.heap.size + 2) ?_ ?_; (focus (first | omega | (simp <;> omega))); intro hc2)))
    go_ret2; exact gives (by simp [hrpR, g0]) (by repeat' (first | (with_reducible exact Below.refl _ _) | (with_reducible assumption) | (with_reducible refine Below.alloc ?_ ?_ _) | (with_reducible refine Below.setCell ?_ ?_ _) | (with_reducible refine Below.drew ?_) | (apply bthen2; (with_reducible assumption)) | go_size))
theorem walk_FnExactHasRealPoint (d a c : Int) (w : World) (_w0 : (Lit.int .i64 d).wf = true) (_w1 : (Lit.int .i64 a).wf = true) (_w2 : (Lit.int .i64 c).wf = true) : Calls Try.prog 4 #[.agg #[.int .i64 d, .int .i64 a, .int .i64 c]] w (Gives (.bool true) w) := by
  obtain ⟨r0, r1, hr⟩ : ∃ r0 r1, hrpR d a c = .tuple #[.bool r0, .bool r1] := by unfold hrpR; split <;> exact ⟨_, _, rfl⟩
  have h1 := fun w => HasRealPoint_any d a c w
  have h2 := fun w => sHasRealPoint_any d a c w
  rw [hr] at h1 h2; clear hr
  have H1 := Lib.hid h1; have H2 := Lib.hid h2; clear h1 h2
  go_enter Try.func4, Try.ntmps4
  go_wp2_with (first | (go_at_call 10; refine (toQuartic_any _ _ _ _).mono ?_; rintro e w1 ⟨rfl, hb⟩; have hz := hb.size; (try simp only [World.size_alloc, World.size_setCell, World.size_drew, World.heap_drewN] at hz); try (refine keepc hb (w.heap.size) ?_ ?_; (focus (first | omega | (simp <;> omega))); intro hc0); try (refine keepc hb (w.heap.size + 1) ?_ ?_; (focus (first | omega | (simp <;> omega))); intro hc1); try (refine keepc hb (w.heap.size + 2) ?_ ?_; (focus (first | omega | (simp <;> omega))); intro hc2)) | (go_at_call 13; refine (H1.out _).mono ?_; rintro e w1 ⟨rfl, hb⟩; have hz := hb.size; (try simp only [World.size_alloc, World.size_setCell, World.size_drew, World.heap_drewN] at hz); try (refine keepc hb (w.heap.size) ?_ ?_; (focus (first | omega | (simp <;> omega))); intro hc0); try (refine keepc hb (w.heap.size + 1) ?_ ?_; (focus (first | omega | (simp <;> omega))); intro hc1); try (refine keepc hb (w.heap.size + 2) ?_ ?_; (focus (first | omega | (simp <;> omega))); intro hc2)) | (go_at_call 12; refine (H2.out _).mono ?_; rintro e w1 ⟨rfl, hb⟩; have hz := hb.size; (try simp only [World.size_alloc, World.size_setCell, World.size_drew, World.heap_drewN] at hz); try (refine keepc hb (w.heap.size) ?_ ?_; (focus (first | omega | (simp <;> omega))); intro hc0); try (refine keepc hb (w.heap.size + 1) ?_ ?_; (focus (first | omega | (simp <;> omega))); intro hc1); try (refine keepc hb (w.heap.size + 2) ?_ ?_; (focus (first | omega | (simp <;> omega))); intro hc2)))
  go_ret
  exact gives rfl (by repeat' (first | (with_reducible exact Below.refl _ _) | (with_reducible assumption) | (with_reducible refine Below.alloc ?_ ?_ _) | (with_reducible refine Below.setCell ?_ ?_ _) | (with_reducible refine Below.drew ?_) | (apply bthen2; (with_reducible assumption)) | go_size))

def qvR (d a c m e : Int) : Value := if isQ d a c && inB m (-1000) 1000 && inB e (-1000) 1000 then .tuple #[.int .i64 (qVal d a c m e), .bool true] else .tuple #[.int .i64 0, .bool false]
theorem QuarticValue_any (d a c m e : Int) (w : World) : Calls Try.prog 15 #[.agg #[.int .i64 d, .int .i64 a, .int .i64 c], .int .i64 m, .int .i64 e] w (Gives (qvR d a c m e) w) := by
  cases g0 : isQ d a c <;> cases g1 : inB m (-1000) 1000 <;> cases g2 : inB e (-1000) 1000
  all_goals
    go_enter Try.func15, Try.ntmps15
    go_wp2_with (first | (go_at_call 24; refine (isQuartic_any _ _ _ _).mono ?_; rintro e w1 ⟨rfl, hb⟩; have hz := hb.size; (try simp only [World.size_alloc, World.size_setCell, World.size_drew, World.heap_drewN] at hz); try (refine keepc hb (w.heap.size) ?_ ?_; (focus (first | omega | (simp <;> omega))); intro hc0); try (refine keepc hb (w.heap.size + 1) ?_ ?_; (focus (first | omega | (simp <;> omega))); intro hc1); try (refine keepc hb (w.heap.size + 2) ?_ ?_; (focus (first | omega | (simp <;> omega))); intro hc2)) | (go_at_call 29; refine (inside_any _ _ _ _).mono ?_; rintro e w1 ⟨rfl, rfl⟩) | (go_at_call 30; refine (value_any _ _ _ _ _ _).mono ?_; rintro e w1 ⟨rfl, hb⟩; have hz := hb.size; (try simp only [World.size_alloc, World.size_setCell, World.size_drew, World.heap_drewN] at hz); try (refine keepc hb (w.heap.size) ?_ ?_; (focus (first | omega | (simp <;> omega))); intro hc0); try (refine keepc hb (w.heap.size + 1) ?_ ?_; (focus (first | omega | (simp <;> omega))); intro hc1); try (refine keepc hb (w.heap.size + 2) ?_ ?_; (focus (first | omega | (simp <;> omega))); intro hc2)))
    go_ret2; exact gives (by simp [qvR, g0, g1, g2]) (by repeat' (first | (with_reducible exact Below.refl _ _) | (with_reducible assumption) | (with_reducible refine Below.alloc ?_ ?_ _) | (with_reducible refine Below.setCell ?_ ?_ _) | (with_reducible refine Below.drew ?_) | (apply bthen2; (with_reducible assumption)) | go_size))
theorem sQuarticValue_any (d a c m e : Int) (w : World) : Calls Try.prog 14 #[.agg #[.int .i64 d, .int .i64 a, .int .i64 c], .int .i64 m, .int .i64 e] w (Gives (qvR d a c m e) w) := by
  cases g0 : isQ d a c <;> cases g1 : inB m (-1000) 1000 <;> cases g2 : inB e (-1000) 1000
  all_goals
    go_enter Try.func14, Try.ntmps14
    go_wp2_with (first | (go_at_call 23; refine (loGood_any _ _ _ _).mono ?_; rintro e w1 ⟨rfl, hb⟩; have hz := hb.size; (try simp only [World.size_alloc, World.size_setCell, World.size_drew, World.heap_drewN] at hz); try (refine keepc hb (w.heap.size) ?_ ?_; (focus (first | omega | (simp <;> omega))); intro hc0); try (refine keepc hb (w.heap.size + 1) ?_ ?_; (focus (first | omega | (simp <;> omega))); intro hc1); try (refine keepc hb (w.heap.size + 2) ?_ ?_; (focus (first | omega | (simp <;> omega))); intro hc2)) | (go_at_call 27; refine (l1In_any _ _ _ _).mono ?_; rintro e w1 ⟨rfl, rfl⟩) | (go_at_call 28; refine (loValue_any _ _ _ _ _ _).mono ?_; rintro e w1 ⟨rfl, hb⟩; have hz := hb.size; (try simp only [World.size_alloc, World.size_setCell, World.size_drew, World.heap_drewN] at hz); try (refine keepc hb (w.heap.size) ?_ ?_; (focus (first | omega | (simp <;> omega))); intro hc0); try (refine keepc hb (w.heap.size + 1) ?_ ?_; (focus (first | omega | (simp <;> omega))); intro hc1); try (refine keepc hb (w.heap.size + 2) ?_ ?_; (focus (first | omega | (simp <;> omega))); intro hc2)))
    go_ret2; exact gives (by simp [qvR, g0, g1, g2]) (by repeat' (first | (with_reducible exact Below.refl _ _) | (with_reducible assumption) | (with_reducible refine Below.alloc ?_ ?_ _) | (with_reducible refine Below.setCell ?_ ?_ _) | (with_reducible refine Below.drew ?_) | (apply bthen2; (with_reducible assumption)) | go_size))
theorem walk_FnExactQuarticValue (d a c m e : Int) (w : World) (_w0 : (Lit.int .i64 d).wf = true) (_w1 : (Lit.int .i64 a).wf = true) (_w2 : (Lit.int .i64 c).wf = true) (_w3 : (Lit.int .i64 m).wf = true) (_w4 : (Lit.int .i64 e).wf = true) : Calls Try.prog 5 #[.agg #[.int .i64 d, .int .i64 a, .int .i64 c], .int .i64 m, .int .i64 e] w (Gives (.bool true) w) := by
  obtain ⟨r0, r1, hr⟩ : ∃ r0 r1, qvR d a c m e = .tuple #[.int .i64 r0, .bool r1] := by unfold qvR; split <;> exact ⟨_, _, rfl⟩
  have h1 := fun w => QuarticValue_any d a c m e w
  have h2 := fun w => sQuarticValue_any d a c m e w
  rw [hr] at h1 h2; clear hr
  have H1 := Lib.hid h1; have H2 := Lib.hid h2; clear h1 h2
  go_enter Try.func5, Try.ntmps5
  go_wp2_with (first | (go_at_call 10; refine (toQuartic_any _ _ _ _).mono ?_; rintro e w1 ⟨rfl, hb⟩; have hz := hb.size; (try simp only [World.size_alloc, World.size_setCell, World.size_drew, World.heap_drewN] at hz); try (refine keepc hb (w.heap.size) ?_ ?_; (focus (first | omega | (simp <;> omega))); intro hc0); try (refine keepc hb (w.heap.size + 1) ?_ ?_; (focus (first | omega | (simp <;> omega))); intro hc1); try (refine keepc hb (w.heap.size + 2) ?_ ?_; (focus (first | omega | (simp <;> omega))); intro hc2)) | (go_at_call 15; refine (H1.out _).mono ?_; rintro e w1 ⟨rfl, hb⟩; have hz := hb.size; (try simp only [World.size_alloc, World.size_setCell, World.size_drew, World.heap_drewN] at hz); try (refine keepc hb (w.heap.size) ?_ ?_; (focus (first | omega | (simp <;> omega))); intro hc0); try (refine keepc hb (w.heap.size + 1) ?_ ?_; (focus (first | omega | (simp <;> omega))); intro hc1); try (refine keepc hb (w.heap.size + 2) ?_ ?_; (focus (first | omega | (simp <;> omega))); intro hc2)) | (go_at_call 14; refine (H2.out _).mono ?_; rintro e w1 ⟨rfl, hb⟩; have hz := hb.size; (try simp only [World.size_alloc, World.size_setCell, World.size_drew, World.heap_drewN] at hz); try (refine keepc hb (w.heap.size) ?_ ?_; (focus (first | omega | (simp <;> omega))); intro hc0); try (refine keepc hb (w.heap.size + 1) ?_ ?_; (focus (first | omega | (simp <;> omega))); intro hc1); try (refine keepc hb (w.heap.size + 2) ?_ ?_; (focus (first | omega | (simp <;> omega))); intro hc2)))
  go_ret
  exact gives rfl (by repeat' (first | (with_reducible exact Below.refl _ _) | (with_reducible assumption) | (with_reducible refine Below.alloc ?_ ?_ _) | (with_reducible refine Below.setCell ?_ ?_ _) | (with_reducible refine Below.drew ?_) | (apply bthen2; (with_reducible assumption)) | go_size))

def cVal (a b x e : Int) : Int := wrap64 (x*x*x + a*x*e*e*e*e + b*e*e*e*e*e*e)

theorem curveValue_any (a b x e : Int) (w : World) : Calls Try.prog 34 #[.agg #[.int .i64 a, .int .i64 b], .int .i64 x, .int .i64 e] w (Gives (.int .i64 (cVal a b x e)) w) := by
  go_enter Try.func34, Try.ntmps34
  go_wp2
  go_ret
  exact gives (vint (by simp only [cVal, wadd_l, wadd_r, wmul_l, wmul_r])) (by repeat' (first | (with_reducible exact Below.refl _ _) | (with_reducible assumption) | (with_reducible refine Below.alloc ?_ ?_ _) | (with_reducible refine Below.setCell ?_ ?_ _) | (with_reducible refine Below.drew ?_) | (apply bthen2; (with_reducible assumption)) | go_size))

theorem seValue_any (a b x e : Int) (w : World) : Calls Try.prog 32 #[.agg #[.int .i64 a, .int .i64 b], .int .i64 x, .int .i64 e] w (Gives (.int .i64 (cVal a b x e)) w) := by
  go_enter Try.func32, Try.ntmps32
  go_wp2
  go_ret
  exact gives (vint (by simp only [cVal, wadd_l, wadd_r, wmul_l, wmul_r]; congr 1; grind)) (by repeat' (first | (with_reducible exact Below.refl _ _) | (with_reducible assumption) | (with_reducible refine Below.alloc ?_ ?_ _) | (with_reducible refine Below.setCell ?_ ?_ _) | (with_reducible refine Below.drew ?_) | (apply bthen2; (with_reducible assumption)) | go_size))

def sFit (a b x e : Int) : Bool := isC a b && inB x (-10000) 10000 && inB e 1 20
theorem searchFits_any (a b x e : Int) (w : World) : Calls Try.prog 33 #[.agg #[.int .i64 a, .int .i64 b], .int .i64 x, .int .i64 e] w (Gives (.bool (sFit a b x e)) w) := by
  cases g0 : isC a b <;> cases g1 : inB x (-10000) 10000 <;> cases g2 : inB e 1 20
  all_goals
    go_enter Try.func33, Try.ntmps33
    go_wp2_with (first | (go_at_call 41; refine (isCurve_any _ _ _).mono ?_; rintro e w1 ⟨rfl, hb⟩; have hz := hb.size; (try simp only [World.size_alloc, World.size_setCell, World.size_drew, World.heap_drewN] at hz); try (refine keepc hb (w.heap.size) ?_ ?_; (focus (first | omega | (simp <;> omega))); intro hc0); try (refine keepc hb (w.heap.size + 1) ?_ ?_; (focus (first | omega | (simp <;> omega))); intro hc1); try (refine keepc hb (w.heap.size + 2) ?_ ?_; (focus (first | omega | (simp <;> omega))); intro hc2)) | (go_at_call 29; refine (inside_any _ _ _ _).mono ?_; rintro e w1 ⟨rfl, rfl⟩))
    go_ret; exact gives (vbool (by simp [sFit, g0, g1, g2])) (by repeat' (first | (with_reducible exact Below.refl _ _) | (with_reducible assumption) | (with_reducible refine Below.alloc ?_ ?_ _) | (with_reducible refine Below.setCell ?_ ?_ _) | (with_reducible refine Below.drew ?_) | (apply bthen2; (with_reducible assumption)) | go_size))
theorem seE_any (e : Int) (w : World) : Calls Try.prog 43 #[.int .i64 e] w (Same (.bool (inB e 1 20)) w) := by
  go_enter Try.func43, Try.ntmps43
  go_wp2_with (first | (go_at_call 27; refine (l1In_any _ _ _ _).mono ?_; rintro e w1 ⟨rfl, rfl⟩))
  go_ret
  exact same rfl
theorem seAsked_any (a b x e : Int) (w : World) : Calls Try.prog 31 #[.agg #[.int .i64 a, .int .i64 b], .int .i64 x, .int .i64 e] w (Gives (.bool (sFit a b x e)) w) := by
  cases g0 : isC a b <;> cases g1 : inB x (-10000) 10000 <;> cases g2 : inB e 1 20
  all_goals
    go_enter Try.func31, Try.ntmps31
    go_wp2_with (first | (go_at_call 39; refine (ecGood_any _ _ _).mono ?_; rintro e w1 ⟨rfl, hb⟩; have hz := hb.size; (try simp only [World.size_alloc, World.size_setCell, World.size_drew, World.heap_drewN] at hz); try (refine keepc hb (w.heap.size) ?_ ?_; (focus (first | omega | (simp <;> omega))); intro hc0); try (refine keepc hb (w.heap.size + 1) ?_ ?_; (focus (first | omega | (simp <;> omega))); intro hc1); try (refine keepc hb (w.heap.size + 2) ?_ ?_; (focus (first | omega | (simp <;> omega))); intro hc2)) | (go_at_call 27; refine (l1In_any _ _ _ _).mono ?_; rintro e w1 ⟨rfl, rfl⟩) | (go_at_call 43; refine (seE_any _ _).mono ?_; rintro e w1 ⟨rfl, rfl⟩))
    go_ret; exact gives (vbool (by simp [sFit, g0, g1, g2])) (by repeat' (first | (with_reducible exact Below.refl _ _) | (with_reducible assumption) | (with_reducible refine Below.alloc ?_ ?_ _) | (with_reducible refine Below.setCell ?_ ?_ _) | (with_reducible refine Below.drew ?_) | (apply bthen2; (with_reducible assumption)) | go_size))

def cvR (a b x e : Int) : Value := if sFit a b x e then .tuple #[.int .i64 (cVal a b x e), .bool true] else .tuple #[.int .i64 0, .bool false]
theorem CurveValue_any (a b x e : Int) (w : World) : Calls Try.prog 18 #[.agg #[.int .i64 a, .int .i64 b], .int .i64 x, .int .i64 e] w (Gives (cvR a b x e) w) := by
  cases g0 : sFit a b x e
  all_goals
    go_enter Try.func18, Try.ntmps18
    go_wp2_with (first | (go_at_call 33; refine (searchFits_any _ _ _ _ _).mono ?_; rintro e w1 ⟨rfl, hb⟩; have hz := hb.size; (try simp only [World.size_alloc, World.size_setCell, World.size_drew, World.heap_drewN] at hz); try (refine keepc hb (w.heap.size) ?_ ?_; (focus (first | omega | (simp <;> omega))); intro hc0); try (refine keepc hb (w.heap.size + 1) ?_ ?_; (focus (first | omega | (simp <;> omega))); intro hc1); try (refine keepc hb (w.heap.size + 2) ?_ ?_; (focus (first | omega | (simp <;> omega))); intro hc2)) | (go_at_call 34; refine (curveValue_any _ _ _ _ _).mono ?_; rintro e w1 ⟨rfl, hb⟩; have hz := hb.size; (try simp only [World.size_alloc, World.size_setCell, World.size_drew, World.heap_drewN] at hz); try (refine keepc hb (w.heap.size) ?_ ?_; (focus (first | omega | (simp <;> omega))); intro hc0); try (refine keepc hb (w.heap.size + 1) ?_ ?_; (focus (first | omega | (simp <;> omega))); intro hc1); try (refine keepc hb (w.heap.size + 2) ?_ ?_; (focus (first | omega | (simp <;> omega))); intro hc2)))
    go_ret2; exact gives (by simp [cvR, g0]) (by repeat' (first | (with_reducible exact Below.refl _ _) | (with_reducible assumption) | (with_reducible refine Below.alloc ?_ ?_ _) | (with_reducible refine Below.setCell ?_ ?_ _) | (with_reducible refine Below.drew ?_) | (apply bthen2; (with_reducible assumption)) | go_size))
theorem sCurveValue_any (a b x e : Int) (w : World) : Calls Try.prog 16 #[.agg #[.int .i64 a, .int .i64 b], .int .i64 x, .int .i64 e] w (Gives (cvR a b x e) w) := by
  cases g0 : sFit a b x e
  all_goals
    go_enter Try.func16, Try.ntmps16
    go_wp2_with (first | (go_at_call 31; refine (seAsked_any _ _ _ _ _).mono ?_; rintro e w1 ⟨rfl, hb⟩; have hz := hb.size; (try simp only [World.size_alloc, World.size_setCell, World.size_drew, World.heap_drewN] at hz); try (refine keepc hb (w.heap.size) ?_ ?_; (focus (first | omega | (simp <;> omega))); intro hc0); try (refine keepc hb (w.heap.size + 1) ?_ ?_; (focus (first | omega | (simp <;> omega))); intro hc1); try (refine keepc hb (w.heap.size + 2) ?_ ?_; (focus (first | omega | (simp <;> omega))); intro hc2)) | (go_at_call 32; refine (seValue_any _ _ _ _ _).mono ?_; rintro e w1 ⟨rfl, hb⟩; have hz := hb.size; (try simp only [World.size_alloc, World.size_setCell, World.size_drew, World.heap_drewN] at hz); try (refine keepc hb (w.heap.size) ?_ ?_; (focus (first | omega | (simp <;> omega))); intro hc0); try (refine keepc hb (w.heap.size + 1) ?_ ?_; (focus (first | omega | (simp <;> omega))); intro hc1); try (refine keepc hb (w.heap.size + 2) ?_ ?_; (focus (first | omega | (simp <;> omega))); intro hc2)))
    go_ret2; exact gives (by simp [cvR, g0]) (by repeat' (first | (with_reducible exact Below.refl _ _) | (with_reducible assumption) | (with_reducible refine Below.alloc ?_ ?_ _) | (with_reducible refine Below.setCell ?_ ?_ _) | (with_reducible refine Below.drew ?_) | (apply bthen2; (with_reducible assumption)) | go_size))
theorem walk_FnExactCurveValue (a b x e : Int) (w : World) (_w0 : (Lit.int .i64 a).wf = true) (_w1 : (Lit.int .i64 b).wf = true) (_w2 : (Lit.int .i64 x).wf = true) (_w3 : (Lit.int .i64 e).wf = true) : Calls Try.prog 6 #[.agg #[.int .i64 a, .int .i64 b], .int .i64 x, .int .i64 e] w (Gives (.bool true) w) := by
  obtain ⟨r0, r1, hr⟩ : ∃ r0 r1, cvR a b x e = .tuple #[.int .i64 r0, .bool r1] := by unfold cvR; split <;> exact ⟨_, _, rfl⟩
  have h1 := fun w => CurveValue_any a b x e w
  have h2 := fun w => sCurveValue_any a b x e w
  rw [hr] at h1 h2; clear hr
  have H1 := Lib.hid h1; have H2 := Lib.hid h2; clear h1 h2
  go_enter Try.func6, Try.ntmps6
  go_wp2_with (first | (go_at_call 17; refine (toCurve_any _ _ _).mono ?_; rintro e w1 ⟨rfl, hb⟩; have hz := hb.size; (try simp only [World.size_alloc, World.size_setCell, World.size_drew, World.heap_drewN] at hz); try (refine keepc hb (w.heap.size) ?_ ?_; (focus (first | omega | (simp <;> omega))); intro hc0); try (refine keepc hb (w.heap.size + 1) ?_ ?_; (focus (first | omega | (simp <;> omega))); intro hc1); try (refine keepc hb (w.heap.size + 2) ?_ ?_; (focus (first | omega | (simp <;> omega))); intro hc2)) | (go_at_call 18; refine (H1.out _).mono ?_; rintro e w1 ⟨rfl, hb⟩; have hz := hb.size; (try simp only [World.size_alloc, World.size_setCell, World.size_drew, World.heap_drewN] at hz); try (refine keepc hb (w.heap.size) ?_ ?_; (focus (first | omega | (simp <;> omega))); intro hc0); try (refine keepc hb (w.heap.size + 1) ?_ ?_; (focus (first | omega | (simp <;> omega))); intro hc1); try (refine keepc hb (w.heap.size + 2) ?_ ?_; (focus (first | omega | (simp <;> omega))); intro hc2)) | (go_at_call 16; refine (H2.out _).mono ?_; rintro e w1 ⟨rfl, hb⟩; have hz := hb.size; (try simp only [World.size_alloc, World.size_setCell, World.size_drew, World.heap_drewN] at hz); try (refine keepc hb (w.heap.size) ?_ ?_; (focus (first | omega | (simp <;> omega))); intro hc0); try (refine keepc hb (w.heap.size + 1) ?_ ?_; (focus (first | omega | (simp <;> omega))); intro hc1); try (refine keepc hb (w.heap.size + 2) ?_ ?_; (focus (first | omega | (simp <;> omega))); intro hc2)))
  go_ret
  exact gives rfl (by repeat' (first | (with_reducible exact Below.refl _ _) | (with_reducible assumption) | (with_reducible refine Below.alloc ?_ ?_ _) | (with_reducible refine Below.setCell ?_ ?_ _) | (with_reducible refine Below.drew ?_) | (apply bthen2; (with_reducible assumption)) | go_size))

noncomputable def dfR (p : Int) : Value := if inB p 2 997 && prB p then .tuple #[.int .i64 (dep p), .bool true] else .tuple #[.int .i64 0, .bool false]
theorem DepthFor_any (p : Int) (w : World) : Calls Try.prog 20 #[.int .i64 p] w (Gives (dfR p) w) := by
  by_cases h0 : inB p 2 997 = true
  · have h0' := inB_iff.1 h0
    have h00 : 2 ≤ p := h0'.1
    have h01 : p ≤ 997 := h0'.2
    clear h0'
    have h02 : p ≤ 1000000000000000000 := by omega
    cases g : prB p
    all_goals
      go_enter Try.func20, Try.ntmps20
      go_wp2_with (first | (go_at_call 29; refine (inside_any _ _ _ _).mono ?_; rintro e w1 ⟨rfl, rfl⟩) | (go_at_call 37; refine (isPrime_any p h02 _).mono ?_; rintro e w1 ⟨rfl, rfl⟩) | (go_at_call 38; refine (depth_any p h00 h01 _).mono ?_; rintro e w1 ⟨rfl, rfl⟩))
      go_ret2; exact gives (by simp [dfR, h0, g]) (by repeat' (first | (with_reducible exact Below.refl _ _) | (with_reducible assumption) | (with_reducible refine Below.alloc ?_ ?_ _) | (with_reducible refine Below.setCell ?_ ?_ _) | (with_reducible refine Below.drew ?_) | (apply bthen2; (with_reducible assumption)) | go_size))
  · have h0' : inB p 2 997 = false := by simpa using h0
    go_enter Try.func20, Try.ntmps20
    go_wp2_with (first | (go_at_call 29; refine (inside_any _ _ _ _).mono ?_; rintro e w1 ⟨rfl, rfl⟩))
    go_ret2; exact gives (by simp [dfR, h0']) (by repeat' (first | (with_reducible exact Below.refl _ _) | (with_reducible assumption) | (with_reducible refine Below.alloc ?_ ?_ _) | (with_reducible refine Below.setCell ?_ ?_ _) | (with_reducible refine Below.drew ?_) | (apply bthen2; (with_reducible assumption)) | go_size))
theorem sDepthFor_any (p : Int) (w : World) : Calls Try.prog 19 #[.int .i64 p] w (Gives (dfR p) w) := by
  by_cases h0 : mdPr p = true
  · have h0' : (inB p 2 997 && prB p) = true := h0
    have h1 : inB p 2 997 = true := by simp at h0'; exact h0'.1
    have h00 : 2 ≤ p := (inB_iff.1 h1).1
    have h01 : p ≤ 997 := (inB_iff.1 h1).2
    have h2 : dfR p = .tuple #[.int .i64 (dep p), .bool true] := by unfold dfR; rw [if_pos h0']
    clear h0' h1
    have H2 := Lib.hid h2; clear h2
    go_enter Try.func19, Try.ntmps19
    go_wp2_with (first | (go_at_call 35; refine (mdPrime_any p _).mono ?_; rintro e w1 ⟨rfl, rfl⟩) | (go_at_call 36; refine (loDepth_any p h00 h01 _).mono ?_; rintro e w1 ⟨rfl, rfl⟩))
    go_ret2; exact gives H2.out.symm (by repeat' (first | (with_reducible exact Below.refl _ _) | (with_reducible assumption) | (with_reducible refine Below.alloc ?_ ?_ _) | (with_reducible refine Below.setCell ?_ ?_ _) | (with_reducible refine Below.drew ?_) | (apply bthen2; (with_reducible assumption)) | go_size))
  · have h0' : mdPr p = false := by simpa using h0
    have h0'' : ¬ (inB p 2 997 && prB p) = true := h0
    have h2 : dfR p = .tuple #[.int .i64 0, .bool false] := by unfold dfR; rw [if_neg h0'']
    clear h0''
    have H2 := Lib.hid h2; clear h2
    go_enter Try.func19, Try.ntmps19
    go_wp2_with (first | (go_at_call 35; refine (mdPrime_any p _).mono ?_; rintro e w1 ⟨rfl, rfl⟩))
    go_ret2; exact gives H2.out.symm (by repeat' (first | (with_reducible exact Below.refl _ _) | (with_reducible assumption) | (with_reducible refine Below.alloc ?_ ?_ _) | (with_reducible refine Below.setCell ?_ ?_ _) | (with_reducible refine Below.drew ?_) | (apply bthen2; (with_reducible assumption)) | go_size))
theorem walk_FnExactDepthFor (p : Int) (w : World) (_w0 : (Lit.int .i64 p).wf = true) : Calls Try.prog 7 #[.int .i64 p] w (Gives (.bool true) w) := by
  obtain ⟨r0, r1, hr⟩ : ∃ r0 r1, dfR p = .tuple #[.int .i64 r0, .bool r1] := by unfold dfR; split <;> exact ⟨_, _, rfl⟩
  have h1 := fun w => DepthFor_any p w
  have h2 := fun w => sDepthFor_any p w
  rw [hr] at h1 h2; clear hr
  have H1 := Lib.hid h1; have H2 := Lib.hid h2; clear h1 h2
  go_enter Try.func7, Try.ntmps7
  go_wp2_with (first | (go_at_call 20; refine (H1.out _).mono ?_; rintro e w1 ⟨rfl, hb⟩; have hz := hb.size; (try simp only [World.size_alloc, World.size_setCell, World.size_drew, World.heap_drewN] at hz); try (refine keepc hb (w.heap.size) ?_ ?_; (focus (first | omega | (simp <;> omega))); intro hc0); try (refine keepc hb (w.heap.size + 1) ?_ ?_; (focus (first | omega | (simp <;> omega))); intro hc1); try (refine keepc hb (w.heap.size + 2) ?_ ?_; (focus (first | omega | (simp <;> omega))); intro hc2)) | (go_at_call 19; refine (H2.out _).mono ?_; rintro e w1 ⟨rfl, hb⟩; have hz := hb.size; (try simp only [World.size_alloc, World.size_setCell, World.size_drew, World.heap_drewN] at hz); try (refine keepc hb (w.heap.size) ?_ ?_; (focus (first | omega | (simp <;> omega))); intro hc0); try (refine keepc hb (w.heap.size + 1) ?_ ?_; (focus (first | omega | (simp <;> omega))); intro hc1); try (refine keepc hb (w.heap.size + 2) ?_ ?_; (focus (first | omega | (simp <;> omega))); intro hc2)))
  go_ret
  exact gives rfl (by repeat' (first | (with_reducible exact Below.refl _ _) | (with_reducible assumption) | (with_reducible refine Below.alloc ?_ ?_ _) | (with_reducible refine Below.setCell ?_ ?_ _) | (with_reducible refine Below.drew ?_) | (apply bthen2; (with_reducible assumption)) | go_size))

end Go.Proofs.Ythhkjllbkefpjaa
