/- The plain model of Press. -/
import Derived.Test.YtmlgjilflpdffaaSeqModel
import Derived.Test.YtmlgjilflpdffaaPutModel
namespace Go.Proofs.Ytmlgjilflpdffaa
open Go.RowKit

/-- The greedy tokens from a position on (the first number: rounds). -/
def greedyM (b : List Int) : Nat → Nat → List Tok
  | 0, _ => []
  | f + 1, p => if p < b.length then
      (if 3 ≤ (longestM b p).2 then cpy (longestM b p).1 (longestM b p).2 :: greedyM b f (p + (longestM b p).2) else lit (b.getD p 0) :: greedyM b f (p + 1))
    else []
def pressM (b : List Int) : List Int := buildM (greedyM b (b.length + 1) 0)

theorem mem_uptoM {b : List Int} {p i : Nat} {x : Nat × Nat} (h : x ∈ uptoM b p i) : 1 ≤ x.1 ∧ x.1 ≤ i ∧ x.2 = mlen b p x.1 := by
  unfold uptoM at h
  obtain ⟨k, hk, rfl⟩ := List.mem_map.1 h
  have := List.mem_range.1 hk
  exact ⟨by simp, by simp; omega, rfl⟩
theorem foldM_mem (l : List (Nat × Nat)) : ∀ r, l.foldl stepM r = r ∨ l.foldl stepM r ∈ l := by
  induction l with
  | nil => exact fun r => .inl rfl
  | cons x l ih =>
    intro r
    simp only [List.foldl_cons]
    rcases ih (stepM r x) with h | h
    · rw [h]
      unfold stepM
      split
      · exact .inr (by simp)
      · exact .inl rfl
    · exact .inr (by simp [h])
theorem bestM_mem (l : List (Nat × Nat)) : bestM l = (0, 0) ∨ bestM l ∈ l := foldM_mem l (0, 0)
theorem longest_props (b : List Int) (p : Nat) (hp : p ≤ b.length) : ((longestM b p).2 = 0 ∨ (1 ≤ (longestM b p).1 ∧ (longestM b p).1 ≤ p ∧ (longestM b p).2 = mlen b p (longestM b p).1)) ∧ p + (longestM b p).2 ≤ b.length ∧ ((longestM b p).2 : Int) ≤ reach p := by
  have hg := gap_bd p
  rcases bestM_mem (uptoM b p p) with h | h
  · unfold longestM
    rw [h]
    exact ⟨.inl rfl, by simpa using hp, by unfold reach; simp; omega⟩
  · obtain ⟨h1, h2, h3⟩ := mem_uptoM h
    have h4 := mrun_le b (reach p).toNat p (p - (longestM b p).1) hp
    have h3' : (longestM b p).2 = mlen b p (longestM b p).1 := h3
    refine ⟨.inr ⟨h1, h2, h3⟩, ?_, ?_⟩
    · rw [h3']; exact h4.2
    · rw [h3']
      have := h4.1
      unfold mlen
      unfold reach at this ⊢
      omega
theorem lit_valid (x p bad : Int) (h : p < 3744) : validM (lit x) p bad = .ok (p + 1) := by
  unfold validM lit
  simp
  omega
theorem cpy_valid (b : List Int) (p : Nat) (bad : Int) (hp : p ≤ b.length) (hb : b.length ≤ 3744) (h3 : 3 ≤ (longestM b p).2) : validM (cpy (longestM b p).1 (longestM b p).2) p bad = .ok (((p + (longestM b p).2 : Nat)) : Int) := by
  obtain ⟨h1, h2, h4⟩ := longest_props b p hp
  rcases h1 with h1 | ⟨h1, h5, -⟩
  · omega
  · unfold validM cpy
    simp only [Bool.true_eq_false, if_false]
    rw [if_neg (by omega), if_neg (by omega)]
    simp
theorem put_len (s : Wst) (x : Tok) : (putM s x).out.length ≤ s.out.length + 3 := by
  unfold putM laidM openM
  split <;> split <;> simp <;> omega
end Go.Proofs.Ytmlgjilflpdffaa
