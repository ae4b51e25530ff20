/- Plain: the data of the greedy tokens and of Best's tokens are the data. -/
import Derived.Test.YtmlgjilflpdffaaCodeD
import Derived.Test.YtmlgjilflpdffaaBestP
namespace Go.Proofs.Ytmlgjilflpdffaa
open Go.RowKit
set_option linter.unusedVariables false
set_option linter.unusedSimpArgs false

theorem mrun_get (b : List Int) : ∀ (f i j k : Nat), k < mrun b f i j → i + k < b.length ∧ b.getD (i + k) 0 = b.getD (j + k) 0
  | 0, i, j, k, h => by simp [mrun] at h
  | f + 1, i, j, k, h => by
    unfold mrun at h
    by_cases hc : i < b.length ∧ b.getD i 0 = b.getD j 0
    · rw [if_pos hc] at h
      cases k with
      | zero => exact hc
      | succ k =>
        have := mrun_get b f (i + 1) (j + 1) k (by omega)
        rw [show i + (k + 1) = i + 1 + k from by omega, show j + (k + 1) = j + 1 + k from by omega]
        exact this
    · rw [if_neg hc] at h; omega
theorem take_snoc (b : List Int) (p : Nat) (hp : p < b.length) : b.take p ++ [b.getD p 0] = b.take (p + 1) := by
  rw [List.take_add_one, List.getElem?_eq_getElem hp]
  simp [List.getD_eq_getElem?_getD, hp]
/-- A copy of what stands in the data. -/
theorem copy_take (b : List Int) (k : Nat) : ∀ (n p : Nat), 1 ≤ k → k ≤ p → p + n ≤ b.length → (∀ i, i < n → b.getD (p + i) 0 = b.getD (p - k + i) 0) → copyM (k : Int) n (b.take p) = b.take (p + n)
  | 0, p, h1, h2, h3, h4 => rfl
  | n + 1, p, h1, h2, h3, h4 => by
    have hl : (b.take p).length = p := by simp; omega
    have h0 := h4 0 (by omega)
    simp only [Nat.add_zero] at h0
    have e : (b.take p).getD (((b.take p).length : Int) - (k : Int)).toNat 0 = b.getD p 0 := by
      rw [hl, show ((p : Int) - (k : Int)).toNat = p - k from by omega, h0]
      simp only [List.getD_eq_getElem?_getD]
      rw [List.getElem?_take, if_pos (by omega)]
    rw [copyM, e, take_snoc b p (by omega), copy_take b k n (p + 1) h1 (by omega) (by omega) (fun i hi => by
      have := h4 (i + 1) (by omega)
      rw [show p + 1 + i = p + (i + 1) from by omega, show p + 1 - k + i = p - k + (i + 1) from by omega]
      exact this)]
    congr 1
    omega
theorem copy_match {b : List Int} {p k n : Nat} (h1 : 1 ≤ k) (h2 : k ≤ p) (h3 : n ≤ mlen b p k) (h4 : p + n ≤ b.length) : copyM (k : Int) n (b.take p) = b.take (p + n) :=
  copy_take b k n p h1 h2 h4 (fun i hi => (mrun_get b _ p (p - k) i (Nat.lt_of_lt_of_le hi h3)).2)

theorem greedy_data (b : List Int) : ∀ (f p : Nat), p ≤ b.length → b.length < f + p → dataM (b.take p) (greedyM b f p) = b
  | 0, p, hp, hf => by omega
  | f + 1, p, hp, hf => by
    unfold greedyM
    by_cases hlt : p < b.length
    · rw [if_pos hlt]
      obtain ⟨h1, h2, h4⟩ := longest_props b p hp
      by_cases h3 : 3 ≤ (longestM b p).2
      · rw [if_pos h3]
        rcases h1 with h1 | ⟨h1, h5, h6⟩
        · omega
        · simp only [dataM, cpy, if_true]
          rw [Int.toNat_natCast, copy_match h1 h5 (Nat.le_of_eq h6) h2]
          exact greedy_data b f _ h2 (by omega)
      · rw [if_neg h3]
        simp only [dataM, lit, Bool.false_eq_true, if_false]
        have := greedy_data b f (p + 1) (by omega) (by omega)
        rw [← take_snoc b p hlt] at this
        exact this
    · rw [if_neg hlt]
      have : p = b.length := by omega
      subst this
      simp [dataM]
theorem choose_data {b : List Int} {p q : Nat} (cs : List Int) (hp : p < b.length) (hb : b.length ≤ 3744) (hq : max 1 (chooseM b p cs).many = q) (hpq : p + q ≤ b.length) :
    copyM (chooseM b p cs).back (chooseM b p cs).many.toNat (if (chooseM b p cs).copy = true then b.take p else b.take p ++ [(chooseM b p cs).byte]) = b.take (p + q) := by
  unfold chooseM at hq ⊢
  rcases choose_cases b p cs (longestM b p).2 with h | ⟨m, h1, h2, h3, h4⟩
  · rw [h] at hq ⊢
    have hq1 : q = 1 := by simp [lit] at hq; omega
    subst hq1
    simp only [lit, Bool.false_eq_true, if_false]
    exact take_snoc b p hp
  · obtain ⟨n1, n2, n3⟩ := near_props (b := b) (p := p) (n := m) (by omega) h2
    rw [h3] at hq ⊢
    have hqm : q = m := by
      simp only [cpy] at hq
      rw [Int.max_def] at hq
      split at hq <;> omega
    subst hqm
    simp only [cpy, if_true]
    rw [Int.toNat_natCast]
    exact copy_match n1 n2 n3 hpq
theorem best_data (b cs : List Int) (hb : b.length ≤ 3744) : ∀ (f p : Nat), p ≤ b.length → b.length < f + p → dataM (b.take p) (bestT b cs f p) = b
  | 0, p, hp, hf => by omega
  | f + 1, p, hp, hf => by
    by_cases hlt : p < b.length
    · obtain ⟨q, h1, h2, h3, h4⟩ := choose_valid cs 1 hlt hb
      rw [bestT_step b cs f p q hlt h4]
      simp only [dataM]
      rw [choose_data cs hlt hb h4 h3]
      exact best_data b cs hb f (p + q) h3 (by omega)
    · unfold bestT
      rw [if_neg hlt]
      have : p = b.length := by omega
      subst this
      simp [dataM]
theorem press_data (b : List Int) : dataM [] (greedyM b (b.length + 1) 0) = b := by
  have := greedy_data b (b.length + 1) 0 (by omega) (by omega)
  simpa using this
theorem bestB_data (b : List Int) (hb : b.length ≤ 3744) : dataM [] (bestT b (costM b) (b.length + 1) 0) = b := by
  have := best_data b (costM b) hb (b.length + 1) 0 (by omega) (by omega)
  simpa using this
/-- Best: what its tokens are. -/
theorem best_tokens {b : List Int} (hb : b.length ≤ 3744) : tokensM ((bestB b).length + 1) (bestB b) 0 [] = .ok (bestT b (costM b) (b.length + 1) 0, (b.length : Int)) :=
  tokens_build (bad := 1) (bestT_pos b _ hb 1 (b.length + 1) 0 (by omega) (by omega))
theorem bestB_bytes {b : List Int} (hl : b.length ≤ 3744) (hb : ∀ x ∈ b, 0 ≤ x ∧ x ≤ 255) : ∀ x ∈ bestB b, 0 ≤ x ∧ x ≤ 255 :=
  build_bytes (bestT_pos b _ hl 1 (b.length + 1) 0 (by omega) (by omega)) (bestT_by _ hb _ _)
theorem bestT_len {b : List Int} (hb : b.length ≤ 3744) : (bestT b (costM b) (b.length + 1) 0).length ≤ b.length := by
  have := (pos_len 1 _ _ _ (bestT_pos b (costM b) hb 1 (b.length + 1) 0 (by omega) (by omega)) (by simp)).1
  omega
theorem bestB_len {b : List Int} (hb : b.length ≤ 3744) : (bestB b).length ≤ 3 * b.length := by
  have := build_len3 (bestT b (costM b) (b.length + 1) 0)
  have := bestT_len hb
  unfold bestB
  omega
end Go.Proofs.Ytmlgjilflpdffaa
