/- The plain model of the matches. -/
import Derived.Test.YtmlgjilflpdffaaModel
namespace Go.Proofs.Ytmlgjilflpdffaa
open Go.RowKit

/-- How many bytes stand both from i and from j on: at most f, not beyond the end. -/
def mrun (b : List Int) : Nat → Nat → Nat → Nat
  | 0, _, _ => 0
  | f + 1, i, j => if i < b.length ∧ b.getD i 0 = b.getD j 0 then mrun b f (i + 1) (j + 1) + 1 else 0
/-- The match at a position for an offset. -/
def mlen (b : List Int) (p k : Nat) : Nat := mrun b (reach p).toNat p (p - k)
/-- The first i offsets with their matches. -/
def uptoM (b : List Int) (p i : Nat) : List (Nat × Nat) := (List.range i).map fun k => (k + 1, mlen b p (k + 1))
theorem uptoM_succ (b : List Int) (p i : Nat) : uptoM b p (i + 1) = uptoM b p i ++ [(i + 1, mlen b p (i + 1))] := by simp [uptoM, List.range_succ]
theorem uptoM_length (b : List Int) (p i : Nat) : (uptoM b p i).length = i := by simp [uptoM]
theorem uptoM_prefix (b : List Int) (p : Nat) {i j : Nat} (h : i ≤ j) : uptoM b p i <+: uptoM b p j := by
  induction h with
  | refl => exact List.prefix_refl _
  | step h ih => rw [uptoM_succ]; exact ih.trans (List.prefix_append _ _)

theorem mrun_le (b : List Int) : ∀ f i j, i ≤ b.length → mrun b f i j ≤ f ∧ i + mrun b f i j ≤ b.length
  | 0, i, j, h => by simp [mrun]; exact h
  | f + 1, i, j, h => by
    unfold mrun
    split
    · rename_i hc
      have := mrun_le b f (i + 1) (j + 1) (by omega)
      omega
    · omega
/-- The better of two. -/
def stepM (r x : Nat × Nat) : Nat × Nat := if r.2 < x.2 then x else r
/-- The greatest one, and the least offset that has it. -/
def bestM (l : List (Nat × Nat)) : Nat × Nat := l.foldl stepM (0, 0)
theorem bestM_snoc (l : List (Nat × Nat)) (x : Nat × Nat) : bestM (l ++ [x]) = stepM (bestM l) x := by simp [bestM]
def longestM (b : List Int) (p : Nat) : Nat × Nat := bestM (uptoM b p p)
end Go.Proofs.Ytmlgjilflpdffaa
