/- Plain: bytes and lengths of what Build writes; the greedy tokens end where the data end. -/
import Derived.Test.YtmlgjilflpdffaaCode
namespace Go.Proofs.Ytmlgjilflpdffaa
open Go.RowKit
set_option linter.unusedVariables false
set_option linter.unusedSimpArgs false

/-- The tokens' bytes are bytes. -/
def ByTok (ts : List Tok) : Prop := ∀ t ∈ ts, 0 ≤ t.byte ∧ t.byte ≤ 255

theorem payT_bytes {t : Tok} {p bad q : Int} (h : validM t p bad = .ok q) (h0 : 0 ≤ p) (hb : 0 ≤ t.byte ∧ t.byte ≤ 255) : ∀ x ∈ payT p t, 0 ≤ x ∧ x ≤ 255 := by
  obtain ⟨h1, ⟨h2, h4, h3⟩ | ⟨h2, h4, h5, h6, h7, h8, h9⟩⟩ := valid_inv h
  · unfold payT
    rw [h2, if_neg (by simp)]
    intro x hx
    simp at hx
    rw [hx]; exact hb
  · unfold payT
    rw [h2, if_pos rfl]
    have hc := cpy_bd p t.back t.many (by omega) h5 h6 h8
    intro x hx
    have hv : vTok p t = (t.back - 1) * gap p + t.many - 3 := rfl
    simp at hx
    rcases hx with rfl | rfl
    · rw [hv]; omega
    · rw [hv]; omega
theorem payT_len (p : Int) (t : Tok) : 1 ≤ (payT p t).length ∧ (payT p t).length ≤ 2 := by unfold payT; split <;> simp
theorem payM_bytes (bad : Int) : ∀ (g : List Tok) (p q : Int), posM bad p g = .ok q → 0 ≤ p → ByTok g → ∀ x ∈ payM p g, 0 ≤ x ∧ x ≤ 255
  | [], p, q, h, h0, hb => by simp [payM]
  | t :: g, p, q, h, h0, hb => by
    simp only [posM] at h
    cases hv : validM t p bad with
    | error e => rw [hv] at h; cases h
    | ok r =>
      rw [hv] at h
      have hp := valid_pos hv h0
      obtain ⟨rfl, -⟩ := valid_inv hv
      intro x hx
      simp only [payM, List.mem_append] at hx
      rcases hx with hx | hx
      · exact payT_bytes hv h0 (hb t (by simp)) x hx
      · exact payM_bytes bad g _ q h (by omega) (fun u hu => hb u (by simp [hu])) x hx
theorem pos_len (bad : Int) : ∀ (g : List Tok) (p q : Int), posM bad p g = .ok q → 0 ≤ p → p + g.length ≤ q ∧ (g ≠ [] → q ≤ 3744)
  | [], p, q, h, h0 => by cases h; simp
  | t :: g, p, q, h, h0 => by
    simp only [posM] at h
    cases hv : validM t p bad with
    | error e => rw [hv] at h; cases h
    | ok r =>
      rw [hv] at h
      have hp := valid_pos hv h0
      have := pos_len bad g r q h (by omega)
      refine ⟨by simp only [List.length_cons]; omega, fun _ => ?_⟩
      by_cases hg : g = []
      · subst hg; cases h; omega
      · exact this.2 hg
theorem enc_bytes (bad : Int) : ∀ (k : Nat) (ts : List Tok) (p q : Int), posM bad p ts = .ok q → 0 ≤ p → ByTok ts → ∀ x ∈ encM k p ts, 0 ≤ x ∧ x ≤ 255
  | 0, ts, p, q, h, h0, hb => by simp [encM]
  | k + 1, ts, p, q, h, h0, hb => by
    unfold encM
    by_cases hn : ts = []
    · rw [if_pos hn]; simp
    · rw [if_neg hn]
      obtain ⟨h1, h2⟩ := pos_split bad (ts.take 8) (ts.drop 8) p q (by rw [List.take_append_drop]; exact h)
      have hl := (pos_len bad _ _ _ h1 h0).1
      intro x hx
      simp only [List.mem_cons, List.mem_append] at hx
      rcases hx with rfl | hx | hx
      · have hd := hdr_bd (ts.take 8)
        have h8 : (ts.take 8).length ≤ 8 := by simp; omega
        have hp : (2 : Int) ^ (ts.take 8).length ≤ 256 := by
          generalize (ts.take 8).length = m at h8
          have : m = 0 ∨ m = 1 ∨ m = 2 ∨ m = 3 ∨ m = 4 ∨ m = 5 ∨ m = 6 ∨ m = 7 ∨ m = 8 := by omega
          rcases this with rfl | rfl | rfl | rfl | rfl | rfl | rfl | rfl | rfl <;> decide
        omega
      · exact payM_bytes bad _ _ _ h1 h0 (fun u hu => hb u (List.mem_of_mem_take hu)) x hx
      · exact enc_bytes bad k _ _ _ h2 (by omega) (fun u hu => hb u (List.mem_of_mem_drop hu)) x hx
theorem build_bytes {bad : Int} {ts : List Tok} {q : Int} (h : posM bad 0 ts = .ok q) (hb : ByTok ts) : ∀ x ∈ buildM ts, 0 ≤ x ∧ x ≤ 255 := by
  rw [build_is_enc]
  exact enc_bytes bad _ ts 0 q h (Int.le_refl _) hb
theorem put_len3 : ∀ (ts : List Tok) (s : Wst), (ts.foldl putM s).out.length ≤ s.out.length + 3 * ts.length
  | [], s => by simp
  | t :: ts, s => by
    have h1 := put_len s t
    have h2 := put_len3 ts (putM s t)
    simp only [List.foldl_cons, List.length_cons]
    omega
theorem build_len3 (ts : List Tok) : (buildM ts).length ≤ 3 * ts.length := by
  have := put_len3 ts w0M
  simpa [buildM, w0M] using this

/-- The greedy tokens end where the data end. -/
theorem greedy_pos (b : List Int) (hb : b.length ≤ 3744) (bad : Int) : ∀ (f p : Nat), p ≤ b.length → b.length < f + p → posM bad p (greedyM b f p) = .ok (b.length : Int)
  | 0, p, hp, hf => by omega
  | f + 1, p, hp, hf => by
    unfold greedyM
    by_cases hlt : p < b.length
    · rw [if_pos hlt]
      by_cases h3 : 3 ≤ (longestM b p).2
      · rw [if_pos h3]
        simp only [posM, cpy_valid b p bad hp hb h3]
        obtain ⟨h1, h2, h4⟩ := longest_props b p hp
        exact greedy_pos b hb bad f _ h2 (by omega)
      · rw [if_neg h3]
        simp only [posM, lit_valid (b.getD p 0) p bad (by omega)]
        have := greedy_pos b hb bad f (p + 1) (by omega) (by omega)
        simpa using this
    · rw [if_neg hlt]
      have : p = b.length := by omega
      subst this
      rfl
theorem getD_bytes {b : List Int} (hb : ∀ x ∈ b, 0 ≤ x ∧ x ≤ 255) (p : Nat) : 0 ≤ b.getD p 0 ∧ b.getD p 0 ≤ 255 := by
  by_cases h : p < b.length
  · have := hb b[p] (List.getElem_mem h)
    simpa [List.getD_eq_getElem?_getD, h] using this
  · simp [List.getD_eq_getElem?_getD, List.getElem?_eq_none (show b.length ≤ p by omega)]
theorem greedy_by {b : List Int} (hb : ∀ x ∈ b, 0 ≤ x ∧ x ≤ 255) : ∀ (f p : Nat), ByTok (greedyM b f p)
  | 0, p => by intro t ht; simp [greedyM] at ht
  | f + 1, p => by
    intro t ht
    unfold greedyM at ht
    split at ht
    · split at ht
      · simp only [List.mem_cons] at ht
        rcases ht with rfl | ht
        · simp [cpy]
        · exact greedy_by hb f _ t ht
      · simp only [List.mem_cons] at ht
        rcases ht with rfl | ht
        · exact getD_bytes hb p
        · exact greedy_by hb f _ t ht
    · simp at ht
theorem press_tokens {b : List Int} (hb : b.length ≤ 3744) : tokensM ((pressM b).length + 1) (pressM b) 0 [] = .ok (greedyM b (b.length + 1) 0, (b.length : Int)) :=
  tokens_build (bad := 1) (greedy_pos b hb 1 (b.length + 1) 0 (by omega) (by omega))
theorem press_bytes {b : List Int} (hl : b.length ≤ 3744) (hb : ∀ x ∈ b, 0 ≤ x ∧ x ≤ 255) : ∀ x ∈ pressM b, 0 ≤ x ∧ x ≤ 255 :=
  build_bytes (greedy_pos b hl 1 (b.length + 1) 0 (by omega) (by omega)) (greedy_by hb _ _)
theorem greedy_len {b : List Int} (hb : b.length ≤ 3744) : (greedyM b (b.length + 1) 0).length ≤ b.length := by
  have := (pos_len 1 _ _ _ (greedy_pos b hb 1 (b.length + 1) 0 (by omega) (by omega)) (by simp)).1
  omega
theorem press_len {b : List Int} (hb : b.length ≤ 3744) : (pressM b).length ≤ 3 * b.length := by
  have := build_len3 (greedyM b (b.length + 1) 0)
  have := greedy_len hb
  unfold pressM
  omega
end Go.Proofs.Ytmlgjilflpdffaa
