/- Plain: what Tokens reads, Build writes back. -/
import Derived.Test.YtmlgjilflpdffaaCodeB
namespace Go.Proofs.Ytmlgjilflpdffaa
open Go.RowKit
set_option linter.unusedVariables false
set_option linter.unusedSimpArgs false

theorem tok_back {xs r : List Int} {b : Bool} {p : Int} {t : Tok} (h : tokM xs b p = .ok (t, r)) (hb : ∀ x ∈ xs, 0 ≤ x ∧ x ≤ 255) : xs = payT p t ++ r ∧ t.copy = b ∧ (0 ≤ t.byte ∧ t.byte ≤ 255) := by
  unfold tokM at h
  split at h
  · cases h
  · rename_i x r'
    cases h
    exact ⟨rfl, rfl, hb x (by simp)⟩
  · rename_i a c r'
    cases h
    have ha := hb a (by simp)
    have hg := gap_bd p
    have hv : vTok p (cpy ((a + c * 256) / gap p + 1) ((a + c * 256) % gap p + 3)) = a + c * 256 := by
      show ((a + c * 256) / gap p + 1 - 1) * gap p + ((a + c * 256) % gap p + 3) - 3 = _
      have := Int.mul_ediv_add_emod (a + c * 256) (gap p)
      rw [Int.mul_comm] at this
      rw [show (a + c * 256) / gap p + 1 - 1 = (a + c * 256) / gap p from by omega]
      omega
    refine ⟨?_, rfl, by simp [cpy]⟩
    unfold payT
    rw [if_pos (show (cpy _ _).copy = true from rfl), hv]
    rw [show (a + c * 256) % 256 = a from by omega, show (a + c * 256) / 256 = c from by omega]
    rfl
  · cases h

theorem group_back (h : Int) : ∀ (k : Nat) (i p : Int) (xs : List Int) (out : List Tok) (i2 : Int) (rest : List Int) (q : Int) (out2 : List Tok), groupM k h i xs p out = .ok (i2, rest, q, out2) → 0 ≤ i → i ≤ 8 → (∀ x ∈ xs, 0 ≤ x ∧ x ≤ 255) →
    ∃ g, out2 = out ++ g ∧ i2 = i + g.length ∧ posM 4 p g = .ok q ∧ xs = payM p g ++ rest ∧ (∀ j (hj : j < g.length), bit h (i + j) = g[j].copy) ∧ i2 ≤ 8 ∧ (i2 = 8 ∨ rest = []) ∧ ByTok g
  | 0, i, p, xs, out, i2, rest, q, out2, hm, hi, hi8, hb => by simp [groupM] at hm
  | k + 1, i, p, xs, out, i2, rest, q, out2, hm, hi, hi8, hb => by
    unfold groupM at hm
    by_cases hc : i < 8 ∧ xs ≠ []
    · rw [if_pos hc] at hm
      cases ht : tokM xs (bit h i) p with
      | error e => rw [ht] at hm; cases hm
      | ok tr =>
        obtain ⟨t, r⟩ := tr
        rw [ht] at hm
        simp only at hm
        cases hv : validM t p 4 with
        | error e => rw [hv] at hm; cases hm
        | ok q1 =>
          rw [hv] at hm
          simp only at hm
          obtain ⟨hx, hcp, hby⟩ := tok_back ht hb
          obtain ⟨hq, -⟩ := valid_inv hv
          obtain ⟨g, e1, e2, e3, e4, e5, e6, e7, e8⟩ := group_back h k (i + 1) q1 r (out ++ [t]) i2 rest q out2 hm (by omega) (by omega) (fun x hxr => hb x (by rw [hx]; simp [hxr]))
          refine ⟨t :: g, by rw [e1]; simp, by simp only [List.length_cons]; omega, ?_, ?_, ?_, e6, e7, ?_⟩
          · simp only [posM, hv, e3]
          · simp only [payM]
            rw [hx, e4, hq, List.append_assoc]
          · intro j hj
            cases j with
            | zero => simp [hcp]
            | succ j =>
              have := e5 j (by simp at hj; omega)
              simp only [List.getElem_cons_succ]
              rw [← this]
              congr 1
              omega
          · intro u hu
            simp only [List.mem_cons] at hu
            rcases hu with rfl | hu
            · exact hby
            · exact e8 u hu
    · rw [if_neg hc] at hm
      cases hm
      refine ⟨[], by simp, by simp, rfl, by simp [payM], fun j hj => absurd hj (by simp), by omega, ?_, fun t ht => by simp at ht⟩
      by_cases h8 : i = 8
      · exact .inl h8
      · right
        exact Classical.byContradiction fun hne => hc ⟨by omega, hne⟩

theorem hdr_unique : ∀ (g : List Tok) (h : Int), 0 ≤ h → (∀ j (hj : j < g.length), bit h (j : Int) = g[j].copy) → h / 2 ^ g.length = 0 → h = hdrM g
  | [], h, h0, hb, hz => by simpa [hdrM] using hz
  | t :: g, h, h0, hb, hz => by
    have ih := hdr_unique g (h / 2) (by omega) (fun j hj => by
      have := hb (j + 1) (by simp; omega)
      simp only [List.getElem_cons_succ] at this
      rw [← this]
      unfold bit
      congr 1
      simp only [Int.toNat_natCast]
      rw [Int.pow_succ, Int.mul_comm ((2 : Int) ^ j) 2, ← Int.ediv_ediv_of_nonneg (by omega)]) (by
      simp only [List.length_cons] at hz
      rw [Int.pow_succ, Int.mul_comm ((2 : Int) ^ g.length) 2, ← Int.ediv_ediv_of_nonneg (by omega)] at hz
      exact hz)
    have h1 := hb 0 (by simp)
    simp only [List.getElem_cons_zero, bit] at h1
    simp at h1
    unfold hdrM
    rw [← ih]
    cases hc : t.copy with
    | false =>
      rw [hc] at h1
      have : ¬ h % 2 = 1 := by simpa using h1
      simp; omega
    | true =>
      rw [hc] at h1
      have : h % 2 = 1 := by simpa using h1
      simp; omega

theorem enc_group (k : Nat) (p : Int) (g ts : List Tok) (h1 : 1 ≤ g.length) (h8 : g.length ≤ 8) (hg : g.length = 8 ∨ ts = []) : encM (k + 1) p (g ++ ts) = hdrM g :: (payM p g ++ encM k (endM p g) ts) := by
  have hne : g ++ ts ≠ [] := by
    intro h
    have := congrArg List.length h
    rw [List.length_append, List.length_nil] at this
    omega
  have ht : (g ++ ts).take 8 = g ∧ (g ++ ts).drop 8 = ts := by
    rcases hg with hg | hg
    · rw [← hg]; simp
    · subst hg; simp; exact ⟨List.take_of_length_le h8, h8⟩
  conv => lhs; unfold encM
  rw [if_neg hne, ht.1, ht.2]
theorem enc_nil (k : Nat) (p : Int) : encM k p [] = [] := by cases k <;> simp [encM]
theorem enc_more : ∀ (k : Nat) (p : Int) (ts : List Tok), ts.length ≤ k → encM k p ts = encM ts.length p ts
  | 0, p, ts, h => by rw [show ts.length = 0 from by omega]
  | k + 1, p, ts, h => by
    by_cases hn : ts = []
    · subst hn; rw [enc_nil, enc_nil]
    · have hl := List.length_pos_iff.2 hn
      obtain ⟨m, hm⟩ : ∃ m, ts.length = m + 1 := ⟨ts.length - 1, by omega⟩
      rw [hm]
      unfold encM
      rw [if_neg hn, if_neg hn, enc_more k _ (ts.drop 8) (by simp; omega), enc_more m _ (ts.drop 8) (by simp; omega)]

theorem pos_join (bad : Int) : ∀ (g ts : List Tok) (p q r : Int), posM bad p g = .ok q → posM bad q ts = .ok r → posM bad p (g ++ ts) = .ok r ∧ endM p g = q
  | [], ts, p, q, r, h1, h2 => by cases h1; exact ⟨h2, rfl⟩
  | t :: g, ts, p, q, r, h1, h2 => by
    simp only [posM, List.cons_append, endM] at h1 ⊢
    cases hv : validM t p bad with
    | error e => rw [hv] at h1; cases h1
    | ok s =>
      rw [hv] at h1
      obtain ⟨rfl, -⟩ := valid_inv hv
      exact pos_join bad g ts _ q r h1 h2

theorem tokens_back : ∀ (k : Nat) (xs : List Int) (p : Int) (out out2 : List Tok) (q : Int), tokensM k xs p out = .ok (out2, q) → (∀ x ∈ xs, 0 ≤ x ∧ x ≤ 255) →
    ∃ ts, out2 = out ++ ts ∧ posM 4 p ts = .ok q ∧ encM ts.length p ts = xs ∧ ByTok ts
  | 0, xs, p, out, out2, q, h, hb => by simp [tokensM] at h
  | k + 1, [], p, out, out2, q, h, hb => by
    simp only [tokensM] at h
    cases h
    exact ⟨[], by simp, rfl, rfl, fun t ht => by simp at ht⟩
  | k + 1, h :: xs, p, out, out2, q, hm, hb => by
    simp only [tokensM] at hm
    cases hg : groupM 9 h 0 xs p out with
    | error e => rw [hg] at hm; simp [afterM] at hm
    | ok r =>
      obtain ⟨i, ys, q1, out1⟩ := r
      rw [hg] at hm
      simp only [afterM] at hm
      by_cases hc : i = 0 ∨ h / 2 ^ i.toNat ≠ 0
      · rw [if_pos hc] at hm; cases hm
      · rw [if_neg hc] at hm
        obtain ⟨g, e1, e2, e3, e4, e5, e6, e7, e8⟩ := group_back h 9 0 p xs out i ys q1 out1 hg (Int.le_refl _) (by omega) (fun x hx => hb x (by simp [hx]))
        obtain ⟨ts, f1, f2, f3, f4⟩ := tokens_back k ys q1 out1 out2 q hm (fun x hx => hb x (by rw [e4]; simp [hx]))
        obtain ⟨p1, p2⟩ := pos_join 4 g ts p q1 q e3 f2
        have hgl : 1 ≤ g.length := by omega
        have hg8 : g.length ≤ 8 := by omega
        have hh : h = hdrM g := hdr_unique g h (hb h (by simp)).1 (fun j hj => by have := e5 j hj; rwa [Int.zero_add] at this) (by
          have : ¬ h / 2 ^ i.toNat ≠ 0 := fun hz => hc (.inr hz)
          rw [e2, Int.zero_add, Int.toNat_natCast] at this
          exact Classical.byContradiction this)
        have hts : g.length = 8 ∨ ts = [] := by
          rcases e7 with h7 | h7
          · left; omega
          · right
            subst h7
            rw [List.eq_nil_iff_length_eq_zero]
            by_cases hn : ts = []
            · rw [hn]; rfl
            · exfalso
              have hl := List.length_pos_iff.2 hn
              obtain ⟨m, hm2⟩ : ∃ m, ts.length = m + 1 := ⟨ts.length - 1, by omega⟩
              rw [hm2] at f3
              unfold encM at f3
              rw [if_neg hn] at f3
              cases f3
        refine ⟨g ++ ts, by rw [f1, e1, List.append_assoc], p1, ?_, fun t ht => ?_⟩
        · rw [← enc_more (ts.length + g.length) p (g ++ ts) (by simp; omega)]
          obtain ⟨m, hm2⟩ : ∃ m, ts.length + g.length = m + 1 := ⟨ts.length + g.length - 1, by omega⟩
          rw [hm2, enc_group m p g ts hgl hg8 hts, p2, enc_more m q1 ts (by omega), f3, ← hh, e4]
        · simp only [List.mem_append] at ht
          rcases ht with ht | ht
          · exact e8 t ht
          · exact f4 t ht

theorem posM_bad (bad bad' : Int) : ∀ (ts : List Tok) (p q : Int), posM bad p ts = .ok q → posM bad' p ts = .ok q
  | [], p, q, h => h
  | t :: ts, p, q, h => by
    simp only [posM] at h ⊢
    cases hv : validM t p bad with
    | error e => rw [hv] at h; cases h
    | ok r =>
      rw [hv] at h
      rw [valid_any_bad bad' hv]
      exact posM_bad bad bad' ts r q h

/-- Tokens, then Build. -/
theorem build_tokens {xs : List Int} {ts : List Tok} {q : Int} (h : tokensM (xs.length + 1) xs 0 [] = .ok (ts, q)) (hb : ∀ x ∈ xs, 0 ≤ x ∧ x ≤ 255) (bad : Int) : posM bad 0 ts = .ok q ∧ buildM ts = xs ∧ ByTok ts := by
  obtain ⟨us, e1, e2, e3, e4⟩ := tokens_back _ xs 0 [] ts q h hb
  simp only [List.nil_append] at e1
  subst e1
  exact ⟨posM_bad 4 bad _ _ _ e2, by rw [build_is_enc]; exact e3, e4⟩
end Go.Proofs.Ytmlgjilflpdffaa
