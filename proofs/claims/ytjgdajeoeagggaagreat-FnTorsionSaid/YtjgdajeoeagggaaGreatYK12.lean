import Derived.Test.YtjgdajeoeagggaaGreatYK11
set_option linter.unusedSimpArgs false
set_option linter.unusedVariables false
namespace Go.Proofs.YtjgdajeoeagggaaGreat
open Go.RowKit
/-! ### a small group is cyclic, or so with one point of order two besides -/
namespace TB
theorem prime_ex : ∀ j : Fin 14, 2 ≤ j.val → ∃ l ∈ [2, 3, 5, 7, 11, 13], j.val % l = 0 := by decide +kernel
theorem inv_ex : ∀ l ∈ [2, 3, 5, 7, 11, 13], ∀ n : Fin 14, 2 ≤ n.val → n.val % l ≠ 0 → ∃ u : Fin 14, (u.val * l) % n.val = 1 := by decide +kernel
theorem inv_l : ∀ l ∈ [2, 3, 5, 7, 11, 13], ∀ d : Fin 14, 1 ≤ d.val → d.val < l → ∃ u : Fin 14, (u.val * d.val) % l = 1 := by decide +kernel
section
variable {G : Type} {A B : Int} {z : G} {ad : G → G → G} {ne : G → G} {X Y : G → Int} {H : List G}
theorem TG.nm_mod (h : TG A B z ad ne X Y H) {g : G} (hg : g ∈ H) {n : Nat} (e : nm z ad n g = z) (k : Nat) : nm z ad k g = nm z ad (k % n) g := by
  have e1 : nm z ad ((k / n) * n + k % n) g = nm z ad k g := by rw [Nat.mul_comm, Nat.div_add_mod]
  rw [h.nm_add hg, h.nm_mul hg, e, h.nm_z, h.zadd _ (h.nm_mem hg _)] at e1
  exact e1.symm
theorem TG.nm_one (h : TG A B z ad ne X Y H) {g : G} (hg : g ∈ H) : nm z ad 1 g = g := h.zadd g hg
theorem struct [DecidableEq G] (h : TG A B z ad ne X Y H) (h13 : H.length ≤ 13) {g0 : G} (m0 : g0 ∈ H) {n0 : Nat} (o0 : Ord z ad g0 n0) (hmax : ∀ g, g ∈ H → ∀ n, Ord z ad g n → n ≤ n0) :
    ((∀ x, x ∈ H → x ∈ cyc z ad g0 n0) ∧ H.length = n0) ∨ ∃ s, s ∈ H ∧ s ∉ cyc z ad g0 n0 ∧ ad s s = z ∧ 2 ∣ n0 ∧ H.length = 2 * n0 ∧ ∀ x, x ∈ H → x ∈ cyc z ad g0 n0 ∨ ad x s ∈ cyc z ad g0 n0 := by
  have hexp : ∀ x, x ∈ H → nm z ad n0 x = z := by
    intro x hx
    obtain ⟨n, -, o⟩ := h.ord_ex hx
    obtain ⟨k, hk⟩ := max_dvd h h13 m0 o0 hmax hx o
    rw [hk, Nat.mul_comm, h.nm_mul hx, o.fin, h.nm_z]
  have hn13 : n0 ≤ 13 := by
    have := (cyc_nodup h m0 o0).length_le_of_subset (l₂ := H) (fun x hx => cyc_sub h m0 hx)
    rw [cyc_len] at this; omega
  have zC : z ∈ cyc z ad g0 n0 := cyc_mem h m0 o0 0
  by_cases hall : ∀ x, x ∈ H → x ∈ cyc z ad g0 n0
  · left
    refine ⟨hall, ?_⟩
    have h1 := h.nodup.length_le_of_subset (l₂ := cyc z ad g0 n0) hall
    have h2 := (cyc_nodup h m0 o0).length_le_of_subset (l₂ := H) (fun x hx => cyc_sub h m0 hx)
    rw [cyc_len] at h1 h2
    omega
  right
  obtain ⟨q, mq, hq⟩ : ∃ q, q ∈ H ∧ q ∉ cyc z ad g0 n0 := Classical.byContradiction fun g => hall fun x hx => Classical.byContradiction fun g2 => g ⟨x, hx, g2⟩
  obtain ⟨j, j1, j2, j3, j4⟩ := least_of (P := fun j => nm z ad j q ∈ cyc z ad g0 n0) n0 o0.pos (by rw [hexp q mq]; exact zC)
  have j5 : 2 ≤ j := by
    rcases Nat.lt_or_ge j 2 with g | g
    · exfalso
      obtain rfl : j = 1 := by omega
      rw [h.nm_one mq] at j3
      exact hq j3
    · exact g
  obtain ⟨l, hl, hjl⟩ := prime_ex ⟨j, by omega⟩ j5
  simp only at hjl
  have l2 : 2 ≤ l ∧ l ≤ 13 := by
    simp only [List.mem_cons, List.not_mem_nil, or_false] at hl
    omega
  obtain ⟨k, hk⟩ := Nat.dvd_of_mod_eq_zero hjl
  have k1 : 1 ≤ k := by
    rcases Nat.eq_zero_or_pos k with rfl | g
    · omega
    · exact g
  have kj : k < j := by rw [hk]; exact Nat.lt_of_lt_of_le (by omega) (Nat.mul_le_mul l2.1 (Nat.le_refl k))
  have mq1 := h.nm_mem mq k
  have hq1 : nm z ad k q ∉ cyc z ad g0 n0 := j4 k k1 kj
  have hlq : nm z ad l (nm z ad k q) ∈ cyc z ad g0 n0 := by rw [← h.nm_mul mq, ← hk]; exact j3
  generalize nm z ad k q = q1 at *
  obtain ⟨c, hc⟩ := (cyc_iff h m0 o0 _).1 hlq
  have hn2 : 2 ≤ n0 := by omega
  have hln : n0 % l = 0 := by
    apply Classical.byContradiction
    intro g
    obtain ⟨u, hu⟩ := inv_ex l hl ⟨n0, by omega⟩ hn2 g
    simp only at hu
    refine hq1 ((cyc_iff h m0 o0 _).2 ⟨u.val * c, ?_⟩)
    have e := h.nm_mod mq1 (hexp q1 mq1) (u.val * l)
    rw [hu, h.nm_one mq1, h.nm_mul mq1, hc, ← h.nm_mul m0] at e
    exact e.symm
  obtain ⟨n', hn'⟩ := Nat.dvd_of_mod_eq_zero hln
  have n'1 : 1 ≤ n' := by
    rcases Nat.eq_zero_or_pos n' with rfl | g
    · omega
    · exact g
  have hlc : l ∣ c := by
    have e : nm z ad (n' * c) g0 = z := by
      rw [h.nm_mul m0, ← hc, ← h.nm_mul mq1, Nat.mul_comm, ← hn']
      exact hexp q1 mq1
    have d := o0.dvd h m0 e
    rw [hn', Nat.mul_comm l n'] at d
    exact Nat.dvd_of_mul_dvd_mul_left n'1 d
  obtain ⟨c', rfl⟩ := hlc
  have mc := h.nm_mem m0 c'
  have ms := h.ad_mem q1 mq1 _ (h.ne_mem _ mc)
  have hs0 : nm z ad l (ad q1 (ne (nm z ad c' g0))) = z := by
    rw [h.nm_dist mq1 (h.ne_mem _ mc), h.nm_ne mc, hc, ← h.nm_mul m0]
    exact h.back _ (h.nm_mem m0 _)
  have hsC : ad q1 (ne (nm z ad c' g0)) ∉ cyc z ad g0 n0 := by
    intro e
    have := cyc_ad h m0 o0 e (cyc_mem h m0 o0 c')
    rw [h.assoc q1 mq1 _ (h.ne_mem _ mc) _ mc, h.comm _ (h.ne_mem _ mc) _ mc, h.back _ mc, h.add_zero mq1] at this
    exact hq1 this
  generalize ad q1 (ne (nm z ad c' g0)) = s at *
  have nz : ne z = z := (h.neg_of h.z_mem h.z_mem (h.zadd z h.z_mem)).symm
  have zs : s ≠ z := fun e => hsC (by rw [e]; exact zC)
  -- the multiples of s are apart modulo the cyclic group
  have hll : l * n0 ≤ H.length := by
    have := coset_len h m0 o0 ((List.range l).map fun k => nm z ad k s) (fun r hr => by obtain ⟨k, -, rfl⟩ := List.mem_map.1 hr; exact h.nm_mem ms k) (by
      rw [List.pairwise_map]
      refine List.Pairwise.imp_of_mem (fun {i j} hi hj hij e => ?_) (List.pairwise_lt_range (n := l))
      have hj := List.mem_range.1 hj
      obtain ⟨d, rfl⟩ : ∃ d, j = i + d := ⟨j - i, by omega⟩
      rw [h.nm_add ms, h.comm _ (h.nm_mem ms i) _ (h.nm_mem ms d), h.assoc _ (h.nm_mem ms d) _ (h.nm_mem ms i) _ (h.ne_mem _ (h.nm_mem ms i)), h.back _ (h.nm_mem ms i), h.add_zero (h.nm_mem ms d)] at e
      obtain ⟨u, hu⟩ := inv_l l hl ⟨d, by omega⟩ (by simp; omega) (by simp; omega)
      simp only at hu
      obtain ⟨w, hw⟩ := (cyc_iff h m0 o0 _).1 e
      have e2 := h.nm_mod ms hs0 (u.val * d)
      rw [hu, h.nm_one ms, h.nm_mul ms, hw, ← h.nm_mul m0] at e2
      exact hsC (by rw [← e2]; exact cyc_mem h m0 o0 _))
    simpa using this
  have hln2 : l ≤ n0 := by rw [hn']; exact Nat.le_mul_of_pos_right l n'1
  have hl23 : l = 2 ∨ l = 3 := by
    have := Nat.mul_le_mul (Nat.le_refl l) hln2
    simp only [List.mem_cons, List.not_mem_nil, or_false] at hl
    rcases hl with rfl | rfl | rfl | rfl | rfl | rfl <;> omega
  have mt := h.nm_mem m0 n'
  have ht : nm z ad n' g0 ≠ z := o0.least n' n'1 (by rw [hn']; exact Nat.lt_of_lt_of_le (by omega) (Nat.mul_le_mul l2.1 (Nat.le_refl n')))
  have htC := cyc_mem h m0 o0 n'
  have h2 : l = 2 := by
    rcases hl23 with g | g
    · exact g
    · exfalso
      subst g
      have three : ∀ x, x ∈ H → nm z ad 3 x = z → ad x x = ne x := by
        intro x mx e
        have e2 : ad (ad (ad z x) x) x = z := e
        rw [h.zadd x mx] at e2
        have e3 := congrArg ne (h.neg_of (h.ad_mem x mx x mx) mx e2)
        rw [h.ne_ne (h.ad_mem x mx x mx)] at e3
        exact e3.symm
      refine h.no33 mt ms ht zs (three _ mt (by rw [← h.nm_mul m0, ← hn']; exact o0.fin)) (three _ ms hs0) (fun e => hsC (by rw [← e]; exact htC)) (fun e => hsC ?_)
      have := cyc_ne h m0 o0 htC
      rw [e, h.ne_ne ms] at this
      exact this
  subst h2
  have ss : ad s s = z := by
    have e2 : ad (ad z s) s = z := hs0
    rwa [h.zadd s ms] at e2
  have sne : ne s = s := (h.neg_of ms ms ss).symm
  have hup : ∀ x, x ∈ H → x ∈ cyc z ad g0 n0 ∨ ad x s ∈ cyc z ad g0 n0 := by
    intro r mr
    apply Classical.byContradiction
    intro g
    rw [not_or] at g
    obtain ⟨g1, g2⟩ := g
    have mrs := h.ad_mem r mr s ms
    have e1 : ∀ x, x ∈ H → ad x (ne z) = x := fun x mx => by rw [nz, h.add_zero mx]
    have e2 : ad (ad r s) (ne s) = r := by rw [h.assoc r mr s ms _ (h.ne_mem s ms), h.back s ms, h.add_zero mr]
    have e3 : ad (ad r s) (ne r) = s := by rw [h.comm r mr s ms, h.assoc s ms r mr _ (h.ne_mem r mr), h.back r mr, h.add_zero ms]
    have := coset_len h m0 o0 [z, s, r, ad r s] (fun x hx => by
      simp only [List.mem_cons, List.not_mem_nil, or_false] at hx
      rcases hx with rfl | rfl | rfl | rfl
      · exact h.z_mem
      · exact ms
      · exact mr
      · exact mrs) (by
      have e4 : ad (ad r s) s = r := by rw [sne] at e2; exact e2
      refine List.pairwise_cons.2 ⟨?_, List.pairwise_cons.2 ⟨?_, List.pairwise_cons.2 ⟨?_, List.pairwise_cons.2 ⟨?_, List.Pairwise.nil⟩⟩⟩⟩
      · intro a ha
        simp only [List.mem_cons, List.not_mem_nil, or_false] at ha
        rcases ha with rfl | rfl | rfl
        · rw [e1 _ ms]; exact hsC
        · rw [e1 _ mr]; exact g1
        · rw [e1 _ mrs]; exact g2
      · intro a ha
        simp only [List.mem_cons, List.not_mem_nil, or_false] at ha
        rcases ha with rfl | rfl
        · rw [sne]; exact g2
        · rw [sne, e4]; exact g1
      · intro a ha
        simp only [List.mem_cons, List.not_mem_nil, or_false] at ha
        subst ha
        rw [e3]; exact hsC
      · intro a ha
        cases ha)
    simp only [List.length_cons, List.length_nil] at this
    have hn4 : n0 = 2 := by omega
    subst hn4
    have t := tw_le h
    have : (tw z ad H).length = H.length := by
      unfold tw
      rw [List.filter_eq_self.2]
      intro x hx
      have e2 : ad (ad z x) x = z := hexp x hx
      rw [h.zadd x hx] at e2
      simpa using e2
    omega
  refine ⟨s, ms, hsC, ss, Nat.dvd_of_mod_eq_zero hln, ?_, hup⟩
  have hle : H.length ≤ (cyc z ad g0 n0 ++ (cyc z ad g0 n0).map fun c => ad c s).length := h.nodup.length_le_of_subset (fun x hx => by
    rw [List.mem_append]
    rcases hup x hx with g | g
    · exact .inl g
    · right
      refine List.mem_map.2 ⟨_, g, ?_⟩
      rw [h.assoc x hx s ms s ms, ss, h.add_zero hx])
  rw [List.length_append, List.length_map, cyc_len] at hle
  omega
end
end TB
/-! ### the told torsion points are such a group -/
section
variable {A B : Int}
theorem tors_int (hC : isC A B = true) {r : Q2} (h : Tors A B r) (h0 : r ≠ none) : ∃ X Y : Int, r = some ((X : Rat), (Y : Rat)) := by
  obtain ⟨on, n, n1, n2, hn⟩ := h
  exact (whole2 hC on (m := 1) (n := n) (by omega) (by omega) n1 n2 (by rw [Nat.one_mul]; exact hn)).resolve_left h0
theorem tors_neg (hC : isC A B = true) {r : Q2} (h : Tors A B r) : Tors A B (EC.neg r) := by
  have ns := EC.disc_ne (disc_ne0 hC)
  obtain ⟨on, n, n1, n2, hn⟩ := h
  have on2 := EC.neg_on on
  refine ⟨on2, n, n1, n2, ?_⟩
  have key : ∀ k, EC.nmul (A : Rat) k (EC.neg r) = EC.neg (EC.nmul (A : Rat) k r) := by
    intro k
    refine neg_uniq hC (EC.nmul_on EC.two_rat on2 k) (EC.nmul_on EC.two_rat on k) ?_
    induction k with
    | zero => rfl
    | succ k ih =>
      show EC.add (A : Rat) (EC.add (A : Rat) (EC.nmul (A : Rat) k (EC.neg r)) (EC.neg r)) (EC.add (A : Rat) (EC.nmul (A : Rat) k r) r) = none
      rw [swapQ hC (EC.nmul_on EC.two_rat on2 k) on2 (EC.nmul_on EC.two_rat on k) on, ih]
      have := EC.add_back EC.two_rat ns (p := none) (q := r) trivial on
      have e : EC.add (A : Rat) (EC.neg r) r = EC.add (A : Rat) r (EC.neg r) := EC.add_comm EC.two_rat on2 on
      rw [e]; exact this
  rw [key, hn]; rfl
/-- A list of torsion points that is closed. -/
theorem mk_TG (hC : isC A B = true) {H : List Q2} (hn : H.Nodup) (h0 : none ∈ H) (ht : ∀ a, a ∈ H → Tors A B a) (hadd : ∀ a, a ∈ H → ∀ b, b ∈ H → EC.add (A : Rat) a b ∈ H) (hneg : ∀ a, a ∈ H → EC.neg a ∈ H) :
    TB.TG A B none (EC.add (A : Rat)) EC.neg xQ yQ H := by
  have ns := EC.disc_ne (disc_ne0 hC)
  have on : ∀ a, a ∈ H → EC.OnO (A : Rat) B a := fun a ha => (ht a ha).1
  have int : ∀ a, a ∈ H → a ≠ none → ∃ X Y : Int, a = some ((X : Rat), (Y : Rat)) := fun a ha h => tors_int hC (ht a ha) h
  have iz : ∀ {x y : Int}, (x : Rat) = (y : Rat) → x = y := fun h => Rat.intCast_inj.1 h
  refine ⟨hn, h0, hadd, hneg, fun a _ => rfl, fun a ha b hb => EC.add_comm EC.two_rat (on a ha) (on b hb), fun a ha b hb c hc => EC.assoc EC.two_rat ns (on a ha) (on b hb) (on c hc), ?_, ?_, ?_, ?_, ?_, ?_, ?_⟩
  · intro a ha
    have := EC.add_back EC.two_rat ns (p := none) (q := a) trivial (on a ha)
    exact this
  · intro a ha h0
    obtain ⟨X, Y, rfl⟩ := int a ha h0
    have h : EC.On (A : Rat) B (X : Rat) (Y : Rat) := on _ ha
    unfold EC.On at h
    simp only [xQ, yQ, num_int]
    refine iz ?_
    simp only [Rat.intCast_mul, Rat.intCast_add]
    exact h
  · intro a ha h0
    obtain ⟨X, Y, rfl⟩ := int a ha h0
    rfl
  · intro a ha h0
    obtain ⟨X, Y, rfl⟩ := int a ha h0
    simp only [yQ, EC.neg]
    rw [← Rat.intCast_neg, num_int, num_int]
  · intro a ha b hb h0 h1 ex ey
    obtain ⟨X, Y, rfl⟩ := int a ha h0; obtain ⟨X', Y', rfl⟩ := int b hb h1
    simp only [xQ, yQ, num_int] at ex ey
    rw [ex, ey]
  · intro a ha b hb h0 h1 hx
    obtain ⟨X, Y, rfl⟩ := int a ha h0; obtain ⟨X', Y', rfl⟩ := int b hb h1
    simp only [xQ, yQ, num_int] at hx ⊢
    have hne : ¬ ((X' : Rat) = (X : Rat)) := fun e => hx (iz e).symm
    have hs : EC.add (A : Rat) (some ((X : Rat), (Y : Rat))) (some ((X' : Rat), (Y' : Rat))) = EC.third (((Y' : Rat) - Y) / ((X' : Rat) - X)) X Y X' := by simp only [EC.add, hne, if_false]
    have hmem := hadd _ ha _ hb
    rw [hs] at hmem ⊢
    obtain ⟨l, hl⟩ : ∃ l, ((Y' : Rat) - Y) / ((X' : Rat) - X) = l := ⟨_, rfl⟩
    have hl2 : l * ((X' : Rat) - X) = (Y' : Rat) - Y := by
      rw [← hl]
      exact EC.ndiv (by intro e; exact hne (by grind))
    rw [hl] at hmem ⊢
    obtain ⟨X3, Y3, h3⟩ := int _ hmem (by simp [EC.third])
    rw [h3]
    simp only [xQ, num_int]
    unfold EC.third at h3
    have e3 : l * l - X - X' = (X3 : Rat) := by have := Option.some.inj h3; exact congrArg Prod.fst this
    obtain ⟨k, rfl, hk⟩ := EC.rat_sq_int (q := l) (N := X + X' + X3) (by simp only [Rat.intCast_add]; grind)
    refine ⟨k, iz ?_, hk⟩
    simp only [Rat.intCast_mul, Rat.intCast_sub]
    grind
  · intro a ha h0 hy
    obtain ⟨X, Y, rfl⟩ := int a ha h0
    simp only [xQ, yQ, num_int] at hy ⊢
    have hyr : (Y : Rat) ≠ 0 := fun e => hy (Rat.intCast_eq_zero_iff.1 e)
    have hne : ¬ ((Y : Rat) = -(Y : Rat)) := fun e => hyr (by grind)
    have hs : EC.add (A : Rat) (some ((X : Rat), (Y : Rat))) (some ((X : Rat), (Y : Rat))) = EC.third ((3 * (X : Rat) * X + A) / (2 * Y)) X Y X := by simp only [EC.add, hne, if_false, if_true]
    have hmem := hadd _ ha _ ha
    rw [hs] at hmem ⊢
    obtain ⟨l, hl⟩ : ∃ l, (3 * (X : Rat) * X + A) / (2 * Y) = l := ⟨_, rfl⟩
    have hl2 : l * (2 * (Y : Rat)) = 3 * (X : Rat) * X + A := by
      rw [← hl]
      exact EC.ndiv (by intro e; exact hyr (by grind))
    rw [hl] at hmem ⊢
    obtain ⟨X3, Y3, h3⟩ := int _ hmem (by simp [EC.third])
    rw [h3]
    simp only [xQ, num_int]
    unfold EC.third at h3
    have e3 : l * l - X - X = (X3 : Rat) := by have := Option.some.inj h3; exact congrArg Prod.fst this
    obtain ⟨k, rfl, hk⟩ := EC.rat_sq_int (q := l) (N := 2 * X + X3) (by simp only [Rat.intCast_add, Rat.intCast_mul, Rat.intCast_ofNat]; grind)
    refine ⟨k, iz ?_, hk⟩
    simp only [Rat.intCast_mul, Rat.intCast_add, Rat.intCast_ofNat]
    grind
/-- The told torsion points, as points of the group. -/
def tQ (A B : Int) : List Q2 := (tps A B).map EC.toQ
theorem mem_tQ (hC : isC A B = true) (r : Q2) : r ∈ tQ A B ↔ Tors A B r := by
  constructor
  · intro h
    obtain ⟨p, hp, rfl⟩ := List.mem_map.1 h
    have pv := tps_PV hC p hp
    obtain ⟨n, n1, n2, -, n3⟩ := ord_fin pv ((mem_tps hC pv).1 hp)
    exact ⟨pv.on, n, n1, n2, n3⟩
  · rintro ⟨on, n, n1, n2, hn⟩
    obtain ⟨p, hp⟩ := rep_tors hC on n1 n2 hn
    obtain ⟨pv, e⟩ := EC.rep_PV on hp
    refine List.mem_map.2 ⟨p, (mem_tps hC pv).2 ((ord_iff hC pv).2 ⟨n, n1, n2, by rw [e]; exact hn⟩), e⟩
theorem tQ_nodup (hC : isC A B = true) (hn : (tps A B).Nodup) : (tQ A B).Nodup := by
  unfold tQ List.Nodup
  rw [List.pairwise_map]
  exact List.Pairwise.imp_of_mem (fun {a b} ha hb hab e => hab (EC.toQ_inj (tps_PV hC a ha) (tps_PV hC b hb) e)) hn
theorem tQ_TG (hC : isC A B = true) (hn : (tps A B).Nodup) : TB.TG A B none (EC.add (A : Rat)) EC.neg xQ yQ (tQ A B) := by
  refine mk_TG hC (tQ_nodup hC hn) ((mem_tQ hC none).2 ⟨trivial, 1, by omega, by omega, rfl⟩) (fun a ha => (mem_tQ hC a).1 ha) (fun a ha b hb => (mem_tQ hC _).2 (tors_add hC ((mem_tQ hC a).1 ha) ((mem_tQ hC b).1 hb))) (fun a ha => (mem_tQ hC _).2 (tors_neg hC ((mem_tQ hC a).1 ha)))
theorem tps_le (hC : isC A B = true) (hn : (tps A B).Nodup) : (tps A B).length ≤ 13 := by
  obtain ⟨hA, hB⟩ := isC_rng hC
  have := TB.small (tQ_TG hC hn) (by omega) (by omega) (by omega) (by omega) (disc_ne0 hC)
  unfold tQ at this
  simpa using this
end
/-! ### the told torsion points are apart; their structure -/
theorem ptsX_x {x e n : Int} {p : P3} (h : p ∈ ptsX x e n) : p.1 = x := by
  unfold ptsX at h
  split at h
  · split at h
    · simp only [List.mem_singleton] at h; subst h; rfl
    · simp only [List.mem_cons, List.not_mem_nil, or_false] at h
      rcases h with rfl | rfl <;> rfl
  · cases h
theorem ptsX_nodup (x e n : Int) : (ptsX x e n).Nodup := by
  unfold ptsX
  split
  · rename_i hs
    split
    · simp
    · rename_i h0
      simp only [List.nodup_cons, List.mem_singleton, List.not_mem_nil, not_false_eq_true, List.nodup_nil, and_true, Prod.mk.injEq, true_and]
      intro e1
      have e2 : rt n = 0 := by omega
      unfold sqB at hs
      rw [e2] at hs
      simp at hs
      omega
  · simp
theorem cnd_x {a b x : Int} {p : P3} (h : p ∈ cnd a b x) : p.1 = x := by
  unfold cnd at h
  split at h
  · exact ptsX_x h
  · cases h
theorem cnd_nodup (a b x : Int) : (cnd a b x).Nodup := by
  unfold cnd
  split
  · exact ptsX_nodup _ _ _
  · simp
theorem cds_nodup (a b : Int) (k : Nat) : (cds a b k).Nodup ∧ ∀ p ∈ cds a b k, p.1 < -3000 + (k : Int) := by
  induction k with
  | zero => exact ⟨by simp [cds], by simp [cds]⟩
  | succ k ih =>
    rw [cds_succ]
    refine ⟨List.nodup_append.2 ⟨ih.1, cnd_nodup _ _ _, fun p hp q hq e => ?_⟩, fun p hp => ?_⟩
    · have h1 := ih.2 p hp; have h2 := cnd_x hq
      rw [e] at h1; omega
    · rcases List.mem_append.1 hp with g | g
      · have := ih.2 p g; omega
      · have := cnd_x g; omega
theorem tps_nodup (A B : Int) : (tps A B).Nodup := by
  unfold tps
  refine List.nodup_cons.2 ⟨fun h => ?_, (cds_nodup A B 6001).1.sublist List.filter_sublist⟩
  have := cds_E (List.mem_filter.1 h).1
  simp at this
theorem nm_nmul (A : Int) (g : Q2) : ∀ k, TB.nm none (EC.add (A : Rat)) k g = EC.nmul (A : Rat) k g
  | 0 => rfl
  | k + 1 => by
    show EC.add (A : Rat) (TB.nm none (EC.add (A : Rat)) k g) g = EC.add (A : Rat) (EC.nmul (A : Rat) k g) g
    rw [nm_nmul A g k]
/-- A told order is the order in the group. -/
theorem ord_Ord {A B : Int} {p : P3} {n : Nat} (h : Tor A B p n) : TB.Ord none (EC.add (A : Rat)) (EC.toQ p) n := by
  refine ⟨h.lo, by rw [nm_nmul]; exact h.nfin, fun k k1 k2 => by rw [nm_nmul]; exact h.nmid (by omega) k2⟩
/-! ### the told shape -/
theorem gmL_ge (A : Int) : ∀ (L : List P3) (m : Int), m ≤ gmL A L m ∧ ∀ p ∈ L, (ordV A p).1 ≤ gmL A L m
  | [], m => ⟨Int.le_refl _, fun p hp => by cases hp⟩
  | q :: L, m => by
    have ih := gmL_ge A L (max m (ordV A q).1)
    have e : gmL A (q :: L) m = gmL A L (max m (ordV A q).1) := rfl
    rw [e]
    refine ⟨by omega, fun p hp => ?_⟩
    rcases List.mem_cons.1 hp with rfl | hp
    · omega
    · exact ih.2 p hp
theorem gmL_at (A : Int) : ∀ (L : List P3) (m : Int), gmL A L m = m ∨ ∃ p ∈ L, gmL A L m = (ordV A p).1
  | [], m => .inl rfl
  | q :: L, m => by
    have e : gmL A (q :: L) m = gmL A L (max m (ordV A q).1) := rfl
    rw [e]
    rcases gmL_at A L (max m (ordV A q).1) with h | ⟨p, hp, h⟩
    · rw [h]
      by_cases g : m ≤ (ordV A q).1
      · exact .inr ⟨q, List.mem_cons_self, by omega⟩
      · exact .inl (by omega)
    · exact .inr ⟨p, List.mem_cons_of_mem _ hp, h⟩
theorem ord_same {A B : Int} {H : List Q2} (h : TB.TG A B none (EC.add (A : Rat)) EC.neg xQ yQ H) {g : Q2} (hg : g ∈ H) {m n : Nat} (a : TB.Ord none (EC.add (A : Rat)) g m) (b : TB.Ord none (EC.add (A : Rat)) g n) : m = n :=
  Nat.dvd_antisymm (a.dvd h hg b.fin) (b.dvd h hg a.fin)
/-- The told points: their greatest order, a point of it, and the shape. -/
theorem told {A B : Int} (hC : isC A B = true) : ∃ (n0 : Nat) (p0 : P3), p0 ∈ tps A B ∧ Tor A B p0 n0 ∧ gmL A (tps A B) 0 = n0 ∧
    (∀ p ∈ tps A B, ∃ n, Tor A B p n ∧ n ∣ n0) ∧
    (((∀ x, x ∈ tQ A B → x ∈ TB.cyc none (EC.add (A : Rat)) (EC.toQ p0) n0) ∧ (tps A B).length = n0) ∨
      ∃ s, s ∈ tQ A B ∧ s ∉ TB.cyc none (EC.add (A : Rat)) (EC.toQ p0) n0 ∧ EC.add (A : Rat) s s = none ∧ 2 ∣ n0 ∧ (tps A B).length = 2 * n0 ∧ ∀ x, x ∈ tQ A B → x ∈ TB.cyc none (EC.add (A : Rat)) (EC.toQ p0) n0 ∨ EC.add (A : Rat) x s ∈ TB.cyc none (EC.add (A : Rat)) (EC.toQ p0) n0) := by
  have hT := tQ_TG hC (tps_nodup A B)
  have hlen : (tQ A B).length = (tps A B).length := by unfold tQ; simp
  have h13 : (tQ A B).length ≤ 13 := by rw [hlen]; exact tps_le hC (tps_nodup A B)
  have tor : ∀ p ∈ tps A B, ∃ n, Tor A B p n := fun p hp => tor_of (tps_PV hC p hp) ((mem_tps hC (tps_PV hC p hp)).1 hp)
  obtain ⟨L, hL, -⟩ := tps_zero A B
  have hz : ((0, 0, 0) : P3) ∈ tps A B := by rw [hL]; exact List.mem_cons_self
  have hge := gmL_ge A (tps A B) 0
  have h1 : 1 ≤ gmL A (tps A B) 0 := by
    have := hge.2 _ hz
    rw [ordV_zero] at this
    exact this
  obtain ⟨p0, m0, e0⟩ := (gmL_at A (tps A B) 0).resolve_left (by omega)
  obtain ⟨n0, t0⟩ := tor p0 m0
  have e1 : gmL A (tps A B) 0 = n0 := by rw [e0, t0.ord]
  have mq0 : EC.toQ p0 ∈ tQ A B := List.mem_map.2 ⟨p0, m0, rfl⟩
  have o0 := ord_Ord t0
  have hmax : ∀ g, g ∈ tQ A B → ∀ n, TB.Ord none (EC.add (A : Rat)) g n → n ≤ n0 := by
    intro g hg n o
    obtain ⟨p, mp, rfl⟩ := List.mem_map.1 hg
    obtain ⟨m, t⟩ := tor p mp
    have e2 := ord_same hT hg o (ord_Ord t)
    have := hge.2 p mp
    rw [t.ord] at this
    omega
  refine ⟨n0, p0, m0, t0, e1, fun p mp => ?_, ?_⟩
  · obtain ⟨m, t⟩ := tor p mp
    exact ⟨m, t, TB.max_dvd hT h13 mq0 o0 hmax (List.mem_map.2 ⟨p, mp, rfl⟩) (ord_Ord t)⟩
  · have := TB.struct hT h13 mq0 o0 hmax
    rw [hlen] at this
    exact this
end Go.Proofs.YtjgdajeoeagggaaGreat
