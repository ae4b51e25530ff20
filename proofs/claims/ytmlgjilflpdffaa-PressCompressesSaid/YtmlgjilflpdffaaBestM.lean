/- The plain model of Best. -/
import Derived.Test.YtmlgjilflpdffaaChoose
namespace Go.Proofs.Ytmlgjilflpdffaa
open Go.RowKit
set_option linter.unusedVariables false

/-- The least of a start and of copies of 3 to 2 + k bytes. -/
def minF (S : List Int) : Nat → Int → Int
  | 0, a => a
  | k + 1, a => min (minF S k a) (S.getD (k + 2) 0 + 17)
/-- The costs of the last k positions and of the end. -/
def costS (b : List Int) : Nat → List Int
  | 0 => [0]
  | k + 1 => minF (costS b k) ((longestM b (b.length - (k + 1))).2 - 2) ((costS b k).getD 0 0 + 9) :: costS b k
def costM (b : List Int) : List Int := costS b b.length
theorem costS_len (b : List Int) : ∀ k, (costS b k).length = k + 1
  | 0 => rfl
  | k + 1 => by simp [costS, costS_len b k]
theorem minF_bd (S : List Int) (hS : ∀ j, 0 ≤ S.getD j 0) : ∀ k a, 0 ≤ a → 0 ≤ minF S k a ∧ minF S k a ≤ a
  | 0, a, h => ⟨h, Int.le_refl _⟩
  | k + 1, a, h => by
    have := minF_bd S hS k a h
    have := hS (k + 2)
    simp only [minF]
    omega
theorem costS_bd (b : List Int) : ∀ k j, 0 ≤ (costS b k).getD j 0 ∧ (costS b k).getD j 0 ≤ 9 * (k : Int)
  | 0, j => by
    cases j with
    | zero => simp [costS]
    | succ j => simp [costS]
  | k + 1, j => by
    have ih := costS_bd b k
    cases j with
    | zero =>
      have h0 := ih 0
      have := minF_bd (costS b k) (fun j => (ih j).1) ((longestM b (b.length - (k + 1))).2 - 2) ((costS b k).getD 0 0 + 9) (by omega)
      simp only [costS, List.getD_cons_zero]
      omega
    | succ j =>
      have := ih j
      simp only [costS, List.getD_cons_succ]
      omega
/-- The tokens of Best from a position on (the first number: rounds). -/
def bestT (b : List Int) (cs : List Int) : Nat → Nat → List Tok
  | 0, _ => []
  | f + 1, p => if p < b.length then chooseM b p cs :: bestT b cs f (p + (max 1 (chooseM b p cs).many).toNat) else []
def bestB (b : List Int) : List Int := buildM (bestT b (costM b) (b.length + 1) 0)
end Go.Proofs.Ytmlgjilflpdffaa
