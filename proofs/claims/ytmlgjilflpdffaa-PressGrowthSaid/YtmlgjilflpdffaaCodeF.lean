/- Plain: lengths, and that no tokens of the same data cost less than Best's. -/
import Derived.Test.YtmlgjilflpdffaaCodeE
namespace Go.Proofs.Ytmlgjilflpdffaa
open Go.RowKit
set_option linter.unusedVariables false
set_option linter.unusedSimpArgs false

def bitT (t : Tok) : Int := if t.copy = true then 17 else 9
def bitsT : List Tok → Int
  | [] => 0
  | t :: ts => bitT t + bitsT ts
theorem bitsT_nn : ∀ ts, 0 ≤ bitsT ts
  | [] => by simp [bitsT]
  | t :: ts => by have := bitsT_nn ts; unfold bitsT bitT; split <;> omega
theorem bitsT_append : ∀ a b, bitsT (a ++ b) = bitsT a + bitsT b
  | [], b => by simp [bitsT]
  | t :: a, b => by simp only [List.cons_append, bitsT, bitsT_append a b]; omega
theorem bits_pay : ∀ (g : List Tok) (p : Int), bitsT g = 8 * (payM p g).length + g.length
  | [], p => by simp [bitsT, payM]
  | t :: g, p => by
    have ih := bits_pay g (p + sizT t)
    simp only [bitsT, payM, List.length_append, List.length_cons]
    unfold bitT payT
    split <;> simp <;> omega
theorem enc_len : ∀ (k : Nat) (ts : List Tok) (p : Int), ts.length ≤ k → ((encM k p ts).length : Int) = (bitsT ts + 7) / 8
  | 0, ts, p, hk => by
    have : ts = [] := List.eq_nil_of_length_eq_zero (by omega)
    subst this
    simp [encM, bitsT]
  | k + 1, ts, p, hk => by
    unfold encM
    by_cases hn : ts = []
    · subst hn; simp [bitsT]
    · rw [if_neg hn]
      have h1 := bits_pay (ts.take 8) p
      have h2 := enc_len k (ts.drop 8) (endM p (ts.take 8)) (by simp; omega)
      have h3 := bitsT_append (ts.take 8) (ts.drop 8)
      rw [List.take_append_drop] at h3
      have h4 := bitsT_nn (ts.drop 8)
      have hl := List.length_pos_iff.2 hn
      simp only [List.length_cons, List.length_append]
      by_cases h8 : 8 ≤ ts.length
      · have hl8 : (ts.take 8).length = 8 := by simp; omega
        rw [hl8] at h1
        omega
      · have hd : ts.drop 8 = [] := by simp; omega
        have hl8 : (ts.take 8).length = ts.length := by simp; omega
        rw [hl8] at h1
        rw [hd] at h2 h3 ⊢
        simp only [bitsT] at h2 h3
        omega
theorem build_len (ts : List Tok) : ((buildM ts).length : Int) = (bitsT ts + 7) / 8 := by
  rw [build_is_enc]
  exact enc_len _ _ _ (Nat.le_refl _)

/-! ### The costs -/
def costC (b : List Int) (p : Nat) : Int := (costM b).getD p 0
theorem costS_at (b : List Int) (k j : Nat) : ∀ d, (costS b (k + d)).getD (d + j) 0 = (costS b k).getD j 0
  | 0 => by simp
  | d + 1 => by
    rw [show k + (d + 1) = (k + d) + 1 from by omega, show d + 1 + j = (d + j) + 1 from by omega]
    simp only [costS, List.getD_cons_succ]
    exact costS_at b k j d
theorem costC_at (b : List Int) (k j : Nat) (hk : k ≤ b.length) : (costS b k).getD j 0 = costC b (b.length - k + j) := by
  have := costS_at b k j (b.length - k)
  rw [show k + (b.length - k) = b.length from by omega] at this
  exact this.symm
theorem cost_end (b : List Int) : costC b b.length = 0 := by
  have := costC_at b 0 0 (by omega)
  simp only [Nat.sub_zero, Nat.add_zero] at this
  rw [← this]
  rfl
theorem cost_step (b : List Int) (p : Nat) (hp : p < b.length) : costC b p = minF (costS b (b.length - p - 1)) ((longestM b p).2 - 2) (costC b (p + 1) + 9) := by
  have h1 := costC_at b (b.length - p) 0 (by omega)
  have h2 := costC_at b (b.length - p - 1) 0 (by omega)
  rw [show b.length - (b.length - p) + 0 = p from by omega] at h1
  rw [show b.length - (b.length - p - 1) + 0 = p + 1 from by omega] at h2
  rw [← h1, ← h2]
  obtain ⟨k, hk⟩ : ∃ k, b.length - p = k + 1 := ⟨b.length - p - 1, by omega⟩
  rw [hk]
  simp only [costS, List.getD_cons_zero, Nat.add_sub_cancel]
  rw [show b.length - (k + 1) = p from by omega]
theorem minF_le (S : List Int) : ∀ n a, minF S n a ≤ a ∧ ∀ i, i < n → minF S n a ≤ S.getD (i + 2) 0 + 17
  | 0, a => ⟨Int.le_refl _, fun i hi => by omega⟩
  | n + 1, a => by
    obtain ⟨h1, h2⟩ := minF_le S n a
    simp only [minF]
    refine ⟨by omega, fun i hi => ?_⟩
    by_cases h : i = n
    · subst h; omega
    · have := h2 i (by omega); omega
theorem minF_is (S : List Int) : ∀ n a, minF S n a = a ∨ ∃ i, i < n ∧ minF S n a = S.getD (i + 2) 0 + 17
  | 0, a => .inl rfl
  | n + 1, a => by
    simp only [minF]
    rcases minF_is S n a with h | ⟨i, h1, h2⟩
    · by_cases hc : minF S n a ≤ S.getD (n + 2) 0 + 17
      · left; rw [Int.min_eq_left hc]; exact h
      · right; exact ⟨n, by omega, Int.min_eq_right (by omega)⟩
    · by_cases hc : minF S n a ≤ S.getD (n + 2) 0 + 17
      · right; exact ⟨i, by omega, by rw [Int.min_eq_left hc]; exact h2⟩
      · right; exact ⟨n, by omega, Int.min_eq_right (by omega)⟩
theorem cost_lit (b : List Int) (p : Nat) (hp : p < b.length) : costC b p ≤ costC b (p + 1) + 9 := by
  rw [cost_step b p hp]
  exact (minF_le _ _ _).1
theorem cost_cpy (b : List Int) (p m : Nat) (hp : p < b.length) (h3 : 3 ≤ m) (hm : m ≤ (longestM b p).2) (hpm : p + m ≤ b.length) : costC b p ≤ costC b (p + m) + 17 := by
  rw [cost_step b p hp]
  have h := (minF_le (costS b (b.length - p - 1)) ((longestM b p).2 - 2) (costC b (p + 1) + 9)).2 (m - 3) (by omega)
  rw [costC_at b _ _ (by omega), show b.length - (b.length - p - 1) + (m - 3 + 2) = p + m from by omega] at h
  exact h
theorem cost_is (b : List Int) (p : Nat) (hp : p < b.length) : costC b p = costC b (p + 1) + 9 ∨ ∃ m, 3 ≤ m ∧ m ≤ (longestM b p).2 ∧ costC b p = costC b (p + m) + 17 := by
  have hs := cost_step b p hp
  have hlp := (longest_props b p (by omega)).2.1
  rcases minF_is (costS b (b.length - p - 1)) ((longestM b p).2 - 2) (costC b (p + 1) + 9) with h | ⟨i, h1, h2⟩
  · left; rw [hs, h]
  · right
    rw [costC_at b _ _ (by omega), show b.length - (b.length - p - 1) + (i + 2) = p + (i + 3) from by omega] at h2
    exact ⟨i + 3, by omega, by omega, by rw [hs, h2]⟩

/-! ### Best's tokens cost the least -/
theorem choose_lit (b : List Int) (p : Nat) (cs : List Int) : ∀ n, (∃ m, 3 ≤ m ∧ m ≤ n ∧ chooseF b p cs n = cpy (nearM b p m) (m : Int) ∧ cs.getD p 0 = cs.getD (p + m) 0 + 17) ∨ (chooseF b p cs n = lit (b.getD p 0) ∧ ∀ m, 3 ≤ m → m ≤ n → cs.getD p 0 ≠ cs.getD (p + m) 0 + 17)
  | 0 => .inr ⟨rfl, fun m h1 h2 => by omega⟩
  | n + 1 => by
    unfold chooseF
    by_cases h : 3 ≤ n + 1 ∧ cs.getD p 0 = cs.getD (p + (n + 1)) 0 + 17
    · rw [if_pos h]
      exact .inl ⟨n + 1, h.1, Nat.le_refl _, rfl, h.2⟩
    · rw [if_neg h]
      rcases choose_lit b p cs n with ⟨m, h1, h2, h3, h4⟩ | ⟨h1, h2⟩
      · exact .inl ⟨m, h1, by omega, h3, h4⟩
      · refine .inr ⟨h1, fun m g1 g2 => ?_⟩
        by_cases hm : m = n + 1
        · subst hm; exact fun e => h ⟨g1, e⟩
        · exact h2 m g1 (by omega)
theorem best_bits (b : List Int) (hb : b.length ≤ 3744) : ∀ (f p : Nat), p ≤ b.length → b.length < f + p → bitsT (bestT b (costM b) f p) = costC b p
  | 0, p, hp, hf => by omega
  | f + 1, p, hp, hf => by
    by_cases hlt : p < b.length
    · obtain ⟨q, h1, h2, h3, h4⟩ := choose_valid (costM b) 1 hlt hb
      rw [bestT_step b _ f p q hlt h4]
      simp only [bitsT]
      rw [best_bits b hb f (p + q) h3 (by omega)]
      unfold chooseM at h4 ⊢
      rcases choose_lit b p (costM b) (longestM b p).2 with ⟨m, g1, g2, g3, g4⟩ | ⟨g1, g2⟩
      · rw [g3] at h4 ⊢
        have hqm : q = m := by
          simp only [cpy] at h4
          rw [Int.max_def] at h4
          split at h4 <;> omega
        subst hqm
        unfold bitT cpy
        rw [if_pos rfl]
        have : costC b p = costC b (p + q) + 17 := g4
        omega
      · rw [g1] at h4 ⊢
        have hq1 : q = 1 := by simp [lit] at h4; omega
        subst hq1
        unfold bitT lit
        rw [if_neg (by simp)]
        rcases cost_is b p hlt with h | ⟨m, e1, e2, e3⟩
        · omega
        · exact absurd e3 (g2 m e1 e2)
    · unfold bestT
      rw [if_neg hlt]
      have : p = b.length := by omega
      subst this
      rw [cost_end]
      rfl

theorem copy_get (k : Nat) : ∀ (n : Nat) (out : List Int), 1 ≤ k → k ≤ out.length → ∀ i, i < n → (copyM (k : Int) n out).getD (out.length + i) 0 = (copyM (k : Int) n out).getD (out.length + i - k) 0
  | 0, out, h1, h2, i, hi => by omega
  | n + 1, out, h1, h2, i, hi => by
    rw [copyM]
    obtain ⟨x, hx⟩ : ∃ x, out.getD ((out.length : Int) - k).toNat 0 = x := ⟨_, rfl⟩
    rw [hx]
    have hl : (out ++ [x]).length = out.length + 1 := by simp
    obtain ⟨zs, hz⟩ := copyM_pre (k : Int) n (out ++ [x])
    cases i with
    | zero =>
      rw [← hz]
      have e1 : ((out ++ [x]) ++ zs).getD (out.length + 0) 0 = x := by simp
      have e2 : ((out ++ [x]) ++ zs).getD (out.length + 0 - k) 0 = x := by
        rw [← hx, show ((out.length : Int) - k).toNat = out.length - k from by omega]
        simp only [List.getD_eq_getElem?_getD, Nat.add_zero]
        rw [List.getElem?_append_left (by simp; omega), List.getElem?_append_left (by omega)]
      rw [e1, e2]
    | succ i =>
      have := copy_get k n (out ++ [x]) h1 (by omega) i (by omega)
      rw [hl] at this
      rw [show out.length + (i + 1) = out.length + 1 + i from by omega]
      exact this
theorem mrun_ge (b : List Int) : ∀ (f m i j : Nat), m ≤ f → (∀ k, k < m → i + k < b.length ∧ b.getD (i + k) 0 = b.getD (j + k) 0) → m ≤ mrun b f i j
  | 0, m, i, j, hm, h => by omega
  | f + 1, 0, i, j, hm, h => by omega
  | f + 1, m + 1, i, j, hm, h => by
    unfold mrun
    rw [if_pos (by simpa using h 0 (by omega))]
    have := mrun_ge b f m (i + 1) (j + 1) (by omega) (fun k hk => by
      have := h (k + 1) (by omega)
      rw [show i + 1 + k = i + (k + 1) from by omega, show j + 1 + k = j + (k + 1) from by omega]
      exact this)
    omega
theorem longest_ge {b : List Int} {p k m : Nat} (h1 : 1 ≤ k) (h2 : k ≤ p) (hm : m ≤ mlen b p k) : m ≤ (longestM b p).2 := by
  have hmem : (k, mlen b p k) ∈ uptoM b p p := by
    unfold uptoM
    exact List.mem_map.2 ⟨k - 1, List.mem_range.2 (by omega), by rw [show k - 1 + 1 = k from by omega]⟩
  have := (fold_ge (uptoM b p p) (0, 0)).2 _ hmem
  simp only at this
  exact Nat.le_trans hm this
theorem pre_take {a b : List Int} (h : a <+: b) : a = b.take a.length := List.prefix_iff_eq_take.1 h

/-- No tokens of the same data cost less. -/
theorem bits_ge (b : List Int) (bad : Int) : ∀ (ts : List Tok) (p : Nat), p ≤ b.length → posM bad p ts = .ok (b.length : Int) → dataM (b.take p) ts = b → costC b p ≤ bitsT ts
  | [], p, hp, h, hd => by
    have hpe : (p : Int) = b.length := by simpa [posM] using h
    have : p = b.length := by omega
    subst this
    rw [cost_end]
    simp [bitsT]
  | t :: ts, p, hp, h, hd => by
    simp only [posM] at h
    have hl : (b.take p).length = p := by simp; omega
    cases hv : validM t p bad with
    | error e => rw [hv] at h; cases h
    | ok q =>
      rw [hv] at h
      have hv2 : validM t ((b.take p).length : Int) bad = .ok q := by rw [hl]; exact hv
      have hone := data_one hv2
      simp only [dataM] at hd
      have hpre := data_pre ts (copyM t.back t.many.toNat (if t.copy = true then b.take p else b.take p ++ [t.byte]))
      rw [hd] at hpre
      have htake := pre_take hpre
      obtain ⟨hq, hcase⟩ := valid_inv hv
      have hpos := valid_pos hv (by omega)
      obtain ⟨q', rfl⟩ := Int.eq_ofNat_of_zero_le (show 0 ≤ q by omega)
      have hlen : (copyM t.back t.many.toNat (if t.copy = true then b.take p else b.take p ++ [t.byte])).length = q' := by omega
      rw [hlen] at htake
      have hq'b : q' ≤ b.length := by rw [← hlen]; exact hpre.length_le
      rw [htake] at hd
      have ih := bits_ge b bad ts q' hq'b h hd
      simp only [bitsT]
      rcases hcase with ⟨h2, h4, h3⟩ | ⟨h2, h4, h5, h6, h7, h8, h9⟩
      · have hs : q' = p + 1 := by
          unfold sizT at hq
          rw [h2, if_neg (by simp)] at hq
          omega
        subst hs
        have := cost_lit b p (by omega)
        unfold bitT
        rw [h2, if_neg (by simp)]
        omega
      · obtain ⟨k, hk⟩ := Int.eq_ofNat_of_zero_le (show 0 ≤ t.back by omega)
        obtain ⟨m, hm⟩ := Int.eq_ofNat_of_zero_le (show 0 ≤ t.many by omega)
        have hs : q' = p + m := by
          unfold sizT at hq
          rw [if_pos h2] at hq
          omega
        rw [h2, if_pos rfl, hk, hm, Int.toNat_natCast] at htake
        have hmatch : m ≤ mlen b p k := by
          refine mrun_ge b _ m p (p - k) (by rw [hm] at h8; omega) (fun i hi => ⟨by omega, ?_⟩)
          have hg := copy_get k m (b.take p) (by omega) (by rw [hl]; omega) i hi
          rw [htake, hl] at hg
          simp only [List.getD_eq_getElem?_getD] at hg ⊢
          rw [List.getElem?_take, List.getElem?_take, if_pos (by omega), if_pos (by omega)] at hg
          rw [show p - k + i = p + i - k from by omega]
          exact hg
        have hlong := longest_ge (by omega) (by omega) hmatch
        have := cost_cpy b p m (by omega) (by omega) hlong (by omega)
        unfold bitT
        rw [if_pos h2, ← hs] at *
        omega
end Go.Proofs.Ytmlgjilflpdffaa
