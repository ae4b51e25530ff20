/- Plain: the data of tokens. -/
import Derived.Test.YtmlgjilflpdffaaCodeC
namespace Go.Proofs.Ytmlgjilflpdffaa
open Go.RowKit
set_option linter.unusedVariables false
set_option linter.unusedSimpArgs false

theorem copyM_len (back : Int) : ∀ (n : Nat) (out : List Int), (copyM back n out).length = out.length + n
  | 0, out => rfl
  | n + 1, out => by rw [copyM, copyM_len back n]; simp; omega
theorem copyM_pre (back : Int) : ∀ (n : Nat) (out : List Int), out <+: copyM back n out
  | 0, out => List.prefix_refl _
  | n + 1, out => by rw [copyM]; exact (List.prefix_append _ _).trans (copyM_pre back n _)
theorem data_append : ∀ (a b : List Tok) (out : List Int), dataM out (a ++ b) = dataM (dataM out a) b
  | [], b, out => rfl
  | t :: a, b, out => by simp only [List.cons_append, dataM]; exact data_append a b _
theorem data_pre : ∀ (ts : List Tok) (out : List Int), out <+: dataM out ts
  | [], out => List.prefix_refl _
  | t :: ts, out => by
    simp only [dataM]
    refine List.IsPrefix.trans ?_ (data_pre ts _)
    split
    · exact copyM_pre _ _ _
    · exact (List.prefix_append _ _).trans (copyM_pre _ _ _)
theorem data_one {t : Tok} {bad q : Int} {out : List Int} (h : validM t (out.length : Int) bad = .ok q) : ((copyM t.back t.many.toNat (if t.copy = true then out else out ++ [t.byte])).length : Int) = q := by
  obtain ⟨h1, ⟨h2, h4, h3⟩ | ⟨h2, h4, h3⟩⟩ := valid_inv h
  · rw [copyM_len, h2, if_neg (by simp)]
    have hm : t.many = 0 := by rw [h4]; rfl
    unfold sizT at h1
    rw [h2, if_neg (by simp)] at h1
    rw [hm]; simp; omega
  · rw [copyM_len, h2, if_pos rfl]
    unfold sizT at h1
    rw [if_pos h2] at h1
    omega
theorem data_len (bad : Int) : ∀ (ts : List Tok) (out : List Int) (q : Int), posM bad (out.length : Int) ts = .ok q → ((dataM out ts).length : Int) = q
  | [], out, q, h => by cases h; rfl
  | t :: ts, out, q, h => by
    simp only [posM] at h
    cases hv : validM t (out.length : Int) bad with
    | error e => rw [hv] at h; cases h
    | ok r =>
      rw [hv] at h
      simp only [dataM]
      have := data_one hv
      rw [← this] at h
      exact data_len bad ts _ q h

/-- The first k tokens. -/
theorem prefix_tokens {ts : List Tok} {q bad : Int} (h : posM bad 0 ts = .ok q) (k : Nat) (hk : k ≤ ts.length) :
    ∃ r, posM bad 0 (ts.take k) = .ok r ∧ 0 ≤ r ∧ r ≤ 3744 ∧ r ≤ q ∧ (k : Int) ≤ r ∧ (dataM [] (ts.take k)).length = r ∧ (dataM [] ts).take (dataM [] (ts.take k)).length = dataM [] (ts.take k) ∧ (dataM [] (ts.take k)).length ≤ (dataM [] ts).length := by
  obtain ⟨h1, h2⟩ := pos_split bad (ts.take k) (ts.drop k) 0 q (by rw [List.take_append_drop]; exact h)
  have hl := pos_len bad _ _ _ h1 (Int.le_refl _)
  have hl2 := pos_len bad _ _ _ h2 (by omega)
  have hlen := data_len bad (ts.take k) [] _ (by simpa using h1)
  have hkl : (ts.take k).length = k := by simp; omega
  have hpre : dataM [] (ts.take k) <+: dataM [] ts := by
    have := data_append (ts.take k) (ts.drop k) []
    rw [List.take_append_drop] at this
    rw [this]
    exact data_pre _ _
  have h3744 : endM 0 (ts.take k) ≤ 3744 := by
    by_cases hn : ts.take k = []
    · rw [hn]; simp [endM]
    · exact hl.2 hn
  refine ⟨_, h1, by omega, h3744, by omega, by omega, hlen, (List.prefix_iff_eq_take.1 hpre).symm, hpre.length_le⟩
end Go.Proofs.Ytmlgjilflpdffaa
