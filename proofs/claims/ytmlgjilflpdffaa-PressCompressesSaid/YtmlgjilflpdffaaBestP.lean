/- Plain: what choose says is valid. -/
import Derived.Test.YtmlgjilflpdffaaBestM
import Derived.Test.YtmlgjilflpdffaaCodeB
namespace Go.Proofs.Ytmlgjilflpdffaa
open Go.RowKit
set_option linter.unusedVariables false
set_option linter.unusedSimpArgs false

theorem near_props {b : List Int} {p n : Nat} (hn : 1 ≤ n) (hm : n ≤ (longestM b p).2) : 1 ≤ nearM b p n ∧ nearM b p n ≤ p ∧ n ≤ mlen b p (nearM b p n) := by
  unfold nearM
  cases hf : (uptoM b p p).find? (fun x => decide (n ≤ x.2)) with
  | none =>
    exfalso
    refine some_match hn hm (fun y hy => ?_)
    have := List.find?_eq_none.1 hf y hy
    simp at this
    omega
  | some x =>
    have h1 := List.find?_some hf
    have h2 := List.mem_of_find?_eq_some hf
    obtain ⟨h3, h4, h5⟩ := mem_uptoM h2
    simp only [decide_eq_true_eq] at h1
    exact ⟨h3, h4, by rw [← h5]; exact h1⟩
theorem choose_cases (b : List Int) (p : Nat) (cs : List Int) : ∀ n, chooseF b p cs n = lit (b.getD p 0) ∨ ∃ m, 3 ≤ m ∧ m ≤ n ∧ chooseF b p cs n = cpy (nearM b p m) (m : Int) ∧ cs.getD p 0 = cs.getD (p + m) 0 + 17
  | 0 => .inl rfl
  | n + 1 => by
    unfold chooseF
    by_cases h : 3 ≤ n + 1 ∧ cs.getD p 0 = cs.getD (p + (n + 1)) 0 + 17
    · rw [if_pos h]
      exact .inr ⟨n + 1, h.1, Nat.le_refl _, rfl, h.2⟩
    · rw [if_neg h]
      rcases choose_cases b p cs n with h1 | ⟨m, h1, h2, h3, h4⟩
      · exact .inl h1
      · exact .inr ⟨m, h1, by omega, h3, h4⟩
/-- The token that choose says is valid, and stays within the data. -/
theorem choose_valid {b : List Int} {p : Nat} (cs : List Int) (bad : Int) (hp : p < b.length) (hb : b.length ≤ 3744) :
    ∃ q : Nat, validM (chooseM b p cs) p bad = .ok (p + (q : Int)) ∧ 1 ≤ q ∧ p + q ≤ b.length ∧ max 1 (chooseM b p cs).many = q := by
  have hlp := longest_props b p (by omega)
  rcases choose_cases b p cs (longestM b p).2 with h | ⟨m, h1, h2, h3, h4⟩
  · refine ⟨1, ?_, Nat.le_refl _, by omega, ?_⟩
    · unfold chooseM; rw [h]; exact lit_valid _ _ _ (by omega)
    · unfold chooseM; rw [h]; rfl
  · obtain ⟨n1, n2, n3⟩ := near_props (b := b) (p := p) (n := m) (by omega) h2
    refine ⟨m, ?_, by omega, by omega, ?_⟩
    · unfold chooseM; rw [h3]
      unfold validM cpy
      simp only [Bool.true_eq_false, if_false]
      rw [if_neg (by omega), if_neg (by omega)]
    · unfold chooseM; rw [h3]; simp only [cpy]; omega
theorem bestT_step (b cs : List Int) (f p q : Nat) (hp : p < b.length) (hq : max 1 (chooseM b p cs).many = q) : bestT b cs (f + 1) p = chooseM b p cs :: bestT b cs f (p + q) := by
  conv => lhs; unfold bestT
  rw [if_pos hp, hq]
  simp
theorem bestT_pos (b cs : List Int) (hb : b.length ≤ 3744) (bad : Int) : ∀ (f p : Nat), p ≤ b.length → b.length < f + p → posM bad p (bestT b cs f p) = .ok (b.length : Int)
  | 0, p, hp, hf => by omega
  | f + 1, p, hp, hf => by
    by_cases hlt : p < b.length
    · obtain ⟨q, h1, h2, h3, h4⟩ := choose_valid cs bad hlt hb
      rw [bestT_step b cs f p q hlt h4]
      simp only [posM, h1]
      have := bestT_pos b cs hb bad f (p + q) h3 (by omega)
      simpa using this
    · unfold bestT
      rw [if_neg hlt]
      have : p = b.length := by omega
      subst this
      rfl
theorem bestT_by {b : List Int} (cs : List Int) (hb : ∀ x ∈ b, 0 ≤ x ∧ x ≤ 255) : ∀ (f p : Nat), ByTok (bestT b cs f p)
  | 0, p => by intro t ht; simp [bestT] at ht
  | f + 1, p => by
    intro t ht
    unfold bestT at ht
    split at ht
    · simp only [List.mem_cons] at ht
      rcases ht with rfl | ht
      · unfold chooseM
        rcases choose_cases b p cs (longestM b p).2 with h | ⟨m, h1, h2, h3, h4⟩
        · rw [h]; exact getD_bytes hb p
        · rw [h3]; simp [cpy]
      · exact bestT_by cs hb f _ t ht
    · simp at ht
end Go.Proofs.Ytmlgjilflpdffaa
