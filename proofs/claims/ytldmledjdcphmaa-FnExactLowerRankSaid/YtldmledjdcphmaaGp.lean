import Derived.Test.YtldmledjdcphmaaSq
set_option linter.unusedSimpArgs false
set_option linter.unusedVariables false
namespace Go.Proofs.Ytldmledjdcphmaa
open Go.RowKit

/-! ### the least group with some classes, both ways; cl: what counts as a class -/
structure GI (cl : Int → Bool) (S : List Int) : Prop where
  nd : S.Nodup
  one : (1 : Int) ∈ S
  cls : ∀ x ∈ S, cl x = true
  mul : ∀ x ∈ S, ∀ y ∈ S, pZ x y ∈ S
  pow : ∃ k, k ≤ 6 ∧ S.length = 2 ^ k
theorem mem_dS {S : List Int} {d x : Int} : x ∈ S.map (pZ d) ↔ ∃ y ∈ S, pZ d y = x := by rw [List.mem_map]
theorem GI.next {cl : Int → Bool} (hcl : ∀ x, cl x = true → Sqz x) {S : List Int} {d : Int} (h : GI cl S) (hd : cl d = true) (hn : d ∉ S) (hb : ∀ e ∈ S, cl (pZ d e) = true) (hl : S.length ≠ 64) : GI cl (S ++ S.map (pZ d)) := by
  have hs := fun x hx => hcl x (h.cls x hx)
  have sd := hcl d hd
  have out : ∀ y ∈ S, pZ d y ∉ S := fun y hy hc => by
    have e : pZ (pZ d y) y = d := by
      rw [pZ_comm (pZ_sq sd (hs y hy)) (hs y hy), pZ_comm sd (hs y hy), pZ_pZ (hs y hy) sd]
    exact hn (by rw [← e]; exact h.mul _ hc _ hy)
  refine ⟨?_, ?_, ?_, ?_, ?_⟩
  · rw [List.nodup_append]
    refine ⟨h.nd, ?_, ?_⟩
    · rw [List.nodup_iff_pairwise_ne, List.pairwise_map]
      refine (List.nodup_iff_pairwise_ne.1 h.nd).imp_of_mem ?_
      intro a b ha hb2 hab e
      apply hab
      rw [← pZ_pZ sd (hs a ha), ← pZ_pZ sd (hs b hb2), e]
    · intro a ha b hb2 e
      obtain ⟨y, hy, rfl⟩ := mem_dS.1 hb2
      exact out y hy (e ▸ ha)
  · exact List.mem_append_left _ h.one
  · intro x hx
    rcases List.mem_append.1 hx with hx | hx
    · exact h.cls x hx
    · obtain ⟨y, hy, rfl⟩ := mem_dS.1 hx
      exact hb y hy
  · intro x hx y hy
    rcases List.mem_append.1 hx with hx | hx <;> rcases List.mem_append.1 hy with hy | hy
    · exact List.mem_append_left _ (h.mul x hx y hy)
    · obtain ⟨z, hz, rfl⟩ := mem_dS.1 hy
      refine List.mem_append_right _ (mem_dS.2 ⟨pZ x z, h.mul x hx z hz, ?_⟩)
      rw [pZ_assoc sd (hs x hx) (hs z hz), pZ_assoc (hs x hx) sd (hs z hz), pZ_comm sd (hs x hx)]
    · obtain ⟨z, hz, rfl⟩ := mem_dS.1 hx
      refine List.mem_append_right _ (mem_dS.2 ⟨pZ z y, h.mul z hz y hy, ?_⟩)
      rw [pZ_assoc sd (hs z hz) (hs y hy)]
    · obtain ⟨u, hu, rfl⟩ := mem_dS.1 hx
      obtain ⟨v, hv, rfl⟩ := mem_dS.1 hy
      refine List.mem_append_left _ ?_
      have : pZ (pZ d u) (pZ d v) = pZ u v := by
        rw [pZ_comm sd (hs u hu), ← pZ_assoc (hs u hu) sd (pZ_sq sd (hs v hv)), pZ_pZ sd (hs v hv)]
      rw [this]
      exact h.mul u hu v hv
  · obtain ⟨k, hk, hlk⟩ := h.pow
    refine ⟨k + 1, ?_, ?_⟩
    · rcases Nat.lt_or_ge k 6 with q | q
      · omega
      · exfalso
        have : k = 6 := by omega
        subst this
        exact hl hlk
    · rw [List.length_append, List.length_map, hlk, Nat.pow_succ]; omega
/-! the program's way -/
def gin (cl : Int → Bool) (d : Int) : List Int → List Int → Option (List Int)
  | [], cur => some cur
  | e :: es, cur => if (cl (pZ d e) && decide (cur.length ≠ 64)) = true then gin cl d es (cur ++ [pZ d e]) else none
def gim (cl : Int → Bool) : List Int → List Int → Option (List Int)
  | [], out => some out
  | d :: ds, out => if out.contains d = true then gim cl ds out else match gin cl d out out with
    | some o => gim cl ds o
    | none => none
theorem gin_some {cl : Int → Bool} {d : Int} : ∀ (es cur : List Int), (∀ e ∈ es, cl (pZ d e) = true) → cur.length + es.length ≤ 64 → gin cl d es cur = some (cur ++ es.map (pZ d))
  | [], cur, _, _ => by simp [gin]
  | e :: es, cur, h, hl => by
    have h1 := h e List.mem_cons_self
    simp only [List.length_cons] at hl
    rw [gin, h1, show decide (cur.length ≠ 64) = true by simp; omega, Bool.and_self, if_pos rfl, gin_some es _ (fun x hx => h x (List.mem_cons_of_mem _ hx)) (by simp; omega)]
    simp
theorem gin_none {cl : Int → Bool} {d : Int} : ∀ (es cur : List Int), (∃ e ∈ es, cl (pZ d e) = false) → gin cl d es cur = none
  | [], cur, h => by obtain ⟨e, he, _⟩ := h; cases he
  | e :: es, cur, h => by
    rw [gin]
    split
    · rename_i h1
      refine gin_none es _ ?_
      obtain ⟨x, hx, h2⟩ := h
      rcases List.mem_cons.1 hx with rfl | hx
      · rw [h2] at h1; simp at h1
      · exact ⟨x, hx, h2⟩
    · rfl
theorem gin_full {cl : Int → Bool} {d : Int} {es cur : List Int} (h : es ≠ []) (hl : cur.length = 64) : gin cl d es cur = none := by
  cases es with
  | nil => exact absurd rfl h
  | cons e es => rw [gin, hl]; simp
/-! the reference's way -/
def putL : List Int → Int → List Int
  | [], n => [n]
  | x :: xs, n => if x < n then x :: putL xs n else if x = n then x :: xs else n :: x :: xs
theorem mem_putL : ∀ (xs : List Int) (n y : Int), y ∈ putL xs n ↔ y = n ∨ y ∈ xs
  | [], n, y => by simp [putL]
  | x :: xs, n, y => by
    unfold putL
    split
    · rw [List.mem_cons, mem_putL xs n y, List.mem_cons]
      constructor <;> rintro (h | h | h) <;> simp [h]
    · split
      · rename_i h1 h2; subst h2; simp
      · simp
theorem srt_putL : ∀ (xs : List Int) (n : Int), xs.Pairwise (· < ·) → (putL xs n).Pairwise (· < ·)
  | [], n, _ => by simp [putL]
  | x :: xs, n, h => by
    rw [List.pairwise_cons] at h
    unfold putL
    split
    · rename_i h1
      rw [List.pairwise_cons]
      refine ⟨fun y hy => ?_, srt_putL xs n h.2⟩
      rcases (mem_putL xs n y).1 hy with rfl | hy
      · exact h1
      · exact h.1 y hy
    · split
      · rw [List.pairwise_cons]; exact h
      · rw [List.pairwise_cons, List.pairwise_cons]
        refine ⟨fun y hy => ?_, h⟩
        rcases List.mem_cons.1 hy with rfl | hy
        · omega
        · have := h.1 y hy; omega
def gsn (cl : Int → Bool) (d : Int) : List Int → List Int → Option (List Int)
  | [], more => some more
  | e :: es, more => if cl (pZ d e) = true then gsn cl d es (putL more (pZ d e)) else none
def gsm (cl : Int → Bool) : List Int → List Int → Option (List Int)
  | [], out => some out
  | d :: ds, out => if out.contains d = true then gsm cl ds out else match gsn cl d out out with
    | some o => if o.length > 64 then none else gsm cl ds o
    | none => none
theorem gsn_some {cl : Int → Bool} {d : Int} : ∀ (es more : List Int), (∀ e ∈ es, cl (pZ d e) = true) → more.Pairwise (· < ·) → ∃ o, gsn cl d es more = some o ∧ o.Pairwise (· < ·) ∧ ∀ y, y ∈ o ↔ y ∈ more ∨ y ∈ es.map (pZ d)
  | [], more, _, hs => ⟨more, rfl, hs, fun y => by simp⟩
  | e :: es, more, h, hs => by
    obtain ⟨o, h1, h2, h3⟩ := gsn_some es (putL more (pZ d e)) (fun x hx => h x (List.mem_cons_of_mem _ hx)) (srt_putL _ _ hs)
    refine ⟨o, by rw [gsn, if_pos (h e List.mem_cons_self), h1], h2, fun y => ?_⟩
    rw [h3, mem_putL, List.map_cons, List.mem_cons]
    constructor
    · rintro ((h | h) | h) <;> simp [h]
    · rintro (h | h | h) <;> simp [h]
theorem gsn_none {cl : Int → Bool} {d : Int} : ∀ (es more : List Int), (∃ e ∈ es, cl (pZ d e) = false) → gsn cl d es more = none
  | [], more, h => by obtain ⟨e, he, _⟩ := h; cases he
  | e :: es, more, h => by
    rw [gsn]
    split
    · rename_i h1
      refine gsn_none es _ ?_
      obtain ⟨x, hx, h2⟩ := h
      rcases List.mem_cons.1 hx with rfl | hx
      · rw [h2] at h1; simp at h1
      · exact ⟨x, hx, h2⟩
    · rfl
def Same2 (S T : List Int) : Prop := T.Pairwise (· < ·) ∧ ∀ x, x ∈ T ↔ x ∈ S
theorem lt_nodup {l : List Int} (h : l.Pairwise (· < ·)) : l.Nodup := List.nodup_iff_pairwise_ne.2 (h.imp (fun hab => Int.ne_of_lt hab))
theorem nodup_len : ∀ (l m : List Int), l.Nodup → (∀ x ∈ l, x ∈ m) → l.length ≤ m.length
  | [], m, _, _ => by simp
  | a :: l, m, hn, hs => by
    rw [List.nodup_cons] at hn
    have ha := hs a List.mem_cons_self
    have h1 := nodup_len l (m.erase a) hn.2 (fun x hx => (List.mem_erase_of_ne (fun (e : x = a) => hn.1 (by rw [← e]; exact hx))).2 (hs x (List.mem_cons_of_mem _ hx)))
    rw [List.length_erase_of_mem ha] at h1
    have : 0 < m.length := List.length_pos_of_mem ha
    simp only [List.length_cons]; omega
theorem Same2.len {S T : List Int} (h : Same2 S T) (hn : S.Nodup) : T.length = S.length :=
  ((List.perm_ext_iff_of_nodup (lt_nodup h.1) hn).2 h.2).length_eq
theorem contains_iff {S T : List Int} (h : Same2 S T) (d : Int) : T.contains d = S.contains d := by
  rw [Bool.eq_iff_iff, List.contains_iff_mem, List.contains_iff_mem, h.2]
/-- Both ways go together. -/
theorem gim_gsm {cl : Int → Bool} (hcl : ∀ x, cl x = true → Sqz x) : ∀ (ds S T : List Int), (∀ d ∈ ds, cl d = true) → GI cl S → Same2 S T →
    (gim cl ds S = none ∧ gsm cl ds T = none) ∨ ∃ S' T', gim cl ds S = some S' ∧ gsm cl ds T = some T' ∧ GI cl S' ∧ Same2 S' T'
  | [], S, T, _, h, hs => .inr ⟨S, T, rfl, rfl, h, hs⟩
  | d :: ds, S, T, hd, h, hs => by
    have ih := fun S' T' => gim_gsm hcl ds S' T' (fun x hx => hd x (List.mem_cons_of_mem _ hx))
    rw [gim, gsm, contains_iff hs]
    by_cases hc : S.contains d = true
    · rw [if_pos hc, if_pos hc]
      exact ih S T h hs
    · rw [if_neg hc, if_neg hc]
      have hn : d ∉ S := fun hm => hc (List.contains_iff_mem.2 hm)
      have cd := hd d List.mem_cons_self
      by_cases hb : ∃ e ∈ S, cl (pZ d e) = false
      · rw [gin_none S S hb, gsn_none T T (by obtain ⟨e, he, h2⟩ := hb; exact ⟨e, (hs.2 e).2 he, h2⟩)]
        exact .inl ⟨rfl, rfl⟩
      · have hb2 : ∀ e ∈ S, cl (pZ d e) = true := fun e he => by
          cases q : cl (pZ d e)
          · exact absurd ⟨e, he, q⟩ hb
          · rfl
        obtain ⟨o, o1, o2, o3⟩ := gsn_some T T (fun e he => hb2 e ((hs.2 e).1 he)) hs.1
        rw [o1]
        have hne : S ≠ [] := fun e => by rw [e] at h; exact absurd h.one (by simp)
        by_cases hl : S.length = 64
        · rw [gin_full hne hl]
          have hlen : 64 < o.length := by
            have hT : T.length = 64 := by rw [hs.len h.nd, hl]
            have h1 : (d :: T).Nodup := List.nodup_cons.2 ⟨fun hm => hn ((hs.2 d).1 hm), lt_nodup hs.1⟩
            have h2 : ∀ x ∈ d :: T, x ∈ o := fun x hx => by
              rw [o3]
              rcases List.mem_cons.1 hx with rfl | hx
              · refine .inr (mem_dS.2 ⟨1, (hs.2 1).2 h.one, ?_⟩)
                rw [pZ_comm (hcl _ cd) sqz_one, pZ_one (hcl _ cd)]
              · exact .inl hx
            have h3 := nodup_len _ _ h1 h2
            simp at h3; omega
          dsimp only
          rw [if_pos hlen]
          exact .inl ⟨rfl, rfl⟩
        · obtain ⟨k, hk, hlk⟩ := h.pow
          have hk5 : k ≤ 5 := by
            rcases Nat.lt_or_ge k 6 with q | q
            · omega
            · exfalso; have : k = 6 := by omega
              subst this; exact hl hlk
          have h32 : S.length ≤ 32 := by rw [hlk]; exact Nat.pow_le_pow_right (by omega) hk5
          rw [gin_some S S hb2 (by omega)]
          have hG := h.next hcl cd hn hb2 hl
          have hS2 : Same2 (S ++ S.map (pZ d)) o := ⟨o2, fun x => by
            rw [o3, List.mem_append, hs.2, mem_dS, mem_dS]
            constructor <;> rintro (q | ⟨y, hy, q⟩)
            · exact .inl q
            · exact .inr ⟨y, (hs.2 y).1 hy, q⟩
            · exact .inl q
            · exact .inr ⟨y, (hs.2 y).2 hy, q⟩⟩
          have hlo : ¬ o.length > 64 := by rw [hS2.len hG.nd, List.length_append, List.length_map]; omega
          dsimp only
          rw [if_neg hlo]
          exact ih _ o hG hS2
theorem GI.one_ {cl : Int → Bool} (h1 : cl 1 = true) : GI cl [1] :=
  ⟨by simp, by simp, fun x hx => by rw [List.mem_singleton.1 hx]; exact h1, fun x hx y hy => by rw [List.mem_singleton.1 hx, List.mem_singleton.1 hy, pZ_one sqz_one]; simp, ⟨0, by omega, rfl⟩⟩

end Go.Proofs.Ytldmledjdcphmaa
