/- The plain model of choose. -/
import Derived.Test.YtmlgjilflpdffaaGreedy
namespace Go.Proofs.Ytmlgjilflpdffaa
open Go.RowKit
set_option linter.unusedVariables false

/-- The nearest offset with a match of at least n bytes. -/
def nearM (b : List Int) (p n : Nat) : Nat := match (uptoM b p p).find? (fun x => decide (n ≤ x.2)) with | some x => x.1 | none => 0
/-- The token of the least cost. -/
def chooseF (b : List Int) (p : Nat) (cs : List Int) : Nat → Tok
  | 0 => lit (b.getD p 0)
  | n + 1 => if 3 ≤ n + 1 ∧ cs.getD p 0 = cs.getD (p + (n + 1)) 0 + 17 then cpy (nearM b p (n + 1)) ((n + 1 : Nat) : Int) else chooseF b p cs n
def chooseM (b : List Int) (p : Nat) (cs : List Int) : Tok := chooseF b p cs (longestM b p).2
theorem choose_small (b : List Int) (p : Nat) (cs : List Int) : ∀ n, n < 3 → chooseF b p cs n = lit (b.getD p 0)
  | 0, h => rfl
  | n + 1, h => by unfold chooseF; rw [if_neg (by omega)]; exact choose_small b p cs n (by omega)

/-- The first that is great enough. -/
theorem near_of {b : List Int} {p n : Nat} {ys : List (Nat × Nat)} {x : Nat × Nat} (hp : ys ++ [x] <+: uptoM b p p) (hy : ∀ y ∈ ys, y.2 < n) (hx : n ≤ x.2) : nearM b p n = x.1 := by
  obtain ⟨zs, hz⟩ := hp
  unfold nearM
  rw [← hz, List.find?_append, List.find?_append]
  have h1 : ys.find? (fun x => decide (n ≤ x.2)) = none := by
    rw [List.find?_eq_none]
    intro y hyy
    have := hy y hyy
    simp; omega
  rw [h1]
  simp [hx]
theorem fold_ge : ∀ (l : List (Nat × Nat)) (r : Nat × Nat), r.2 ≤ (l.foldl stepM r).2 ∧ ∀ x ∈ l, x.2 ≤ (l.foldl stepM r).2
  | [], r => ⟨Nat.le_refl _, by simp⟩
  | x :: l, r => by
    obtain ⟨h1, h2⟩ := fold_ge l (stepM r x)
    have hs : r.2 ≤ (stepM r x).2 ∧ x.2 ≤ (stepM r x).2 := by unfold stepM; split <;> omega
    simp only [List.foldl_cons]
    refine ⟨by omega, fun y hy => ?_⟩
    simp only [List.mem_cons] at hy
    rcases hy with rfl | hy
    · omega
    · exact h2 y hy
/-- Some match is as great as the greatest one. -/
theorem some_match {b : List Int} {p n : Nat} (hn : 1 ≤ n) (hm : n ≤ (longestM b p).2) (h : ∀ y ∈ uptoM b p p, y.2 < n) : False := by
  rcases bestM_mem (uptoM b p p) with h0 | h0
  · unfold longestM at hm; rw [h0] at hm; simp at hm; omega
  · have := h _ h0; unfold longestM at hm; omega
end Go.Proofs.Ytmlgjilflpdffaa
