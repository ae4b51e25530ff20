/- Plain: what the laws on lengths say. -/
import Derived.Test.YtmlgjilflpdffaaCodeF
namespace Go.Proofs.Ytmlgjilflpdffaa
open Go.RowKit
set_option linter.unusedVariables false
set_option linter.unusedSimpArgs false

theorem bestB_lenC (b : List Int) (hb : b.length ≤ 3744) : ((bestB b).length : Int) = (costC b 0 + 7) / 8 := by
  unfold bestB
  rw [build_len, best_bits b hb (b.length + 1) 0 (by omega) (by omega)]
theorem cost0_le {b : List Int} {ts : List Tok} {bad : Int} (h : posM bad 0 ts = .ok (b.length : Int)) (hd : dataM [] ts = b) : costC b 0 ≤ bitsT ts :=
  bits_ge b bad ts 0 (by omega) (by simpa using h) (by simpa using hd)
theorem best_le {b : List Int} (hb : b.length ≤ 3744) {ts : List Tok} {bad : Int} (h : posM bad 0 ts = .ok (b.length : Int)) (hd : dataM [] ts = b) : (bestB b).length ≤ (buildM ts).length := by
  have h1 := bestB_lenC b hb
  have h2 := build_len ts
  have h3 := cost0_le h hd
  omega
theorem best_le_press {b : List Int} (hb : b.length ≤ 3744) : (bestB b).length ≤ (pressM b).length :=
  best_le hb (greedy_pos b hb 1 (b.length + 1) 0 (by omega) (by omega)) (press_data b)
theorem greedy_bits (b : List Int) : ∀ (f p : Nat), p ≤ b.length → bitsT (greedyM b f p) ≤ 9 * ((b.length : Int) - p)
  | 0, p, hp => by simp [greedyM, bitsT]; omega
  | f + 1, p, hp => by
    unfold greedyM
    by_cases hlt : p < b.length
    · rw [if_pos hlt]
      obtain ⟨h1, h2, h4⟩ := longest_props b p hp
      by_cases h3 : 3 ≤ (longestM b p).2
      · rw [if_pos h3]
        have := greedy_bits b f _ h2
        simp only [bitsT, bitT, cpy, if_true]
        omega
      · rw [if_neg h3]
        have := greedy_bits b f (p + 1) (by omega)
        simp only [bitsT, bitT, lit, Bool.false_eq_true, if_false]
        omega
    · rw [if_neg hlt]
      simp [bitsT]; omega
theorem press_bound {b : List Int} (hb : b.length ≤ 3744) : ((pressM b).length : Int) ≤ b.length + ((b.length : Int) + 7) / 8 := by
  unfold pressM
  rw [build_len]
  have := greedy_bits b (b.length + 1) 0 (by omega)
  omega
theorem best_zero {b : List Int} (hb : b.length ≤ 3744) : (b.length = 0 ↔ (bestB b).length = 0) := by
  have h1 := bestB_lenC b hb
  rw [← best_bits b hb (b.length + 1) 0 (by omega) (by omega)] at h1
  constructor
  · intro h
    unfold bestT at h1
    rw [if_neg (by omega)] at h1
    simp only [bitsT] at h1
    omega
  · intro h
    by_cases hn : b.length = 0
    · exact hn
    · exfalso
      obtain ⟨q, e1, e2, e3, e4⟩ := choose_valid (costM b) 1 (show 0 < b.length by omega) hb
      rw [bestT_step b _ _ 0 q (by omega) e4] at h1
      simp only [bitsT] at h1
      have g1 := bitsT_nn (bestT b (costM b) b.length (0 + q))
      have g2 : 9 ≤ bitT (chooseM b 0 (costM b)) := by unfold bitT; split <;> omega
      omega
end Go.Proofs.Ytmlgjilflpdffaa
