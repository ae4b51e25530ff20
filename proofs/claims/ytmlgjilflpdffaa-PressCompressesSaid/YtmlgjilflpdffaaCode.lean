/- Plain: what Build writes, Tokens reads back. -/
import Derived.Test.YtmlgjilflpdffaaGreedy
namespace Go.Proofs.Ytmlgjilflpdffaa
open Go.RowKit
set_option linter.unusedVariables false
set_option linter.unusedSimpArgs false

def sizT (t : Tok) : Int := if t.copy = true then t.many else 1
def vTok (p : Int) (t : Tok) : Int := (t.back - 1) * gap p + t.many - 3
def payT (p : Int) (t : Tok) : List Int := if t.copy = true then [vTok p t % 256, vTok p t / 256] else [t.byte]
def payM : Int → List Tok → List Int
  | _, [] => []
  | p, t :: ts => payT p t ++ payM (p + sizT t) ts
def hdrM : List Tok → Int
  | [] => 0
  | t :: ts => (if t.copy = true then 1 else 0) + 2 * hdrM ts
/-- Where a list of tokens ends. -/
def endM : Int → List Tok → Int
  | p, [] => p
  | p, t :: ts => endM (p + sizT t) ts

theorem valid_inv {t : Tok} {p bad q : Int} (h : validM t p bad = .ok q) :
    q = p + sizT t ∧ ((t.copy = false ∧ t = lit t.byte ∧ p < 3744) ∨ (t.copy = true ∧ t = cpy t.back t.many ∧ 1 ≤ t.back ∧ t.back ≤ p ∧ 3 ≤ t.many ∧ t.many ≤ reach p ∧ p + t.many ≤ 3744)) := by
  obtain ⟨c, b, k, m⟩ := t
  unfold validM at h
  unfold sizT
  cases c with
  | false =>
    simp only [if_true] at h
    by_cases h1 : k ≠ 0 ∨ m ≠ 0
    · rw [if_pos h1] at h; cases h
    · rw [if_neg h1] at h
      by_cases h2 : 3744 ≤ p
      · rw [if_pos h2] at h; cases h
      · rw [if_neg h2] at h
        cases h
        obtain ⟨rfl, rfl⟩ : k = 0 ∧ m = 0 := by omega
        exact ⟨by simp, .inl ⟨rfl, rfl, by omega⟩⟩
  | true =>
    simp only [Bool.true_eq_false, if_false] at h
    by_cases h1 : b ≠ 0 ∨ k < 1 ∨ p < k ∨ m < 3 ∨ reach p < m
    · rw [if_pos h1] at h; cases h
    · rw [if_neg h1] at h
      by_cases h2 : 3744 < p + m
      · rw [if_pos h2] at h; cases h
      · rw [if_neg h2] at h
        cases h
        obtain rfl : b = 0 := by omega
        exact ⟨by simp, .inr ⟨rfl, rfl, by simp; omega⟩⟩
theorem valid_pos {t : Tok} {p bad q : Int} (h : validM t p bad = .ok q) (h0 : 0 ≤ p) : p < q ∧ q ≤ 3744 ∧ q = p + sizT t := by
  obtain ⟨h1, ⟨h2, -, h3⟩ | ⟨h2, -, h3⟩⟩ := valid_inv h
  · unfold sizT at h1 ⊢; rw [if_neg (by rw [h2]; simp)] at h1 ⊢; omega
  · unfold sizT at h1 ⊢; rw [if_pos h2] at h1 ⊢; omega
theorem valid_any_bad {t : Tok} {p bad q : Int} (bad' : Int) (h : validM t p bad = .ok q) : validM t p bad' = .ok q := by
  unfold validM at h ⊢
  repeat' split at h
  all_goals first | (cases h; done) | skip
  · rename_i h1 h2 h3; rw [if_pos h1, if_neg h2, if_neg h3]; exact h
  · rename_i h1 h2 h3; rw [if_neg h1, if_neg h2, if_neg h3]; exact h

theorem tok_pay {t : Tok} {p bad q : Int} (h : validM t p bad = .ok q) (rest : List Int) : tokM (payT p t ++ rest) t.copy p = .ok (t, rest) := by
  obtain ⟨h1, ⟨h2, h4, h3⟩ | ⟨h2, h4, h3⟩⟩ := valid_inv h
  · unfold payT
    rw [h2, if_neg (by simp)]
    show Except.ok (lit t.byte, rest) = _
    rw [← h4]
  · unfold payT
    rw [h2, if_pos rfl]
    have hg := gap_bd p
    have hv : vTok p t = (t.many - 3) + (t.back - 1) * gap p := by unfold vTok; omega
    have e0 : vTok p t % 256 + vTok p t / 256 * 256 = vTok p t := by omega
    have e1 : vTok p t / gap p = t.back - 1 := by
      rw [hv, Int.add_mul_ediv_right _ _ (by omega), Int.ediv_eq_zero_of_lt (by omega) (by unfold reach at h3; omega)]; omega
    have e2 : vTok p t % gap p = t.many - 3 := by
      rw [hv, Int.add_mul_emod_self_right, Int.emod_eq_of_lt (by omega) (by unfold reach at h3; omega)]
    show Except.ok (cpy ((vTok p t % 256 + vTok p t / 256 * 256) / gap p + 1) ((vTok p t % 256 + vTok p t / 256 * 256) % gap p + 3), rest) = _
    rw [e0, e1, e2, show t.back - 1 + 1 = t.back from by omega, show t.many - 3 + 3 = t.many from by omega, ← h4]

theorem payT_ne (p : Int) (t : Tok) : payT p t ≠ [] := by unfold payT; split <;> simp

theorem groupM_stop (k : Nat) (h i : Int) (xs : List Int) (p : Int) (out : List Tok) (hc : ¬ (i < 8 ∧ xs ≠ [])) : groupM (k + 1) h i xs p out = .ok (i, xs, p, out) := by
  unfold groupM
  rw [if_neg hc]
theorem groupM_step (k : Nat) (h i : Int) (xs r : List Int) (p q : Int) (t : Tok) (out : List Tok) (hc : i < 8 ∧ xs ≠ []) (ht : tokM xs (bit h i) p = .ok (t, r)) (hv : validM t p 4 = .ok q) :
    groupM (k + 1) h i xs p out = groupM k h (i + 1) r q (out ++ [t]) := by
  conv => lhs; unfold groupM
  rw [if_pos hc, ht]
  simp only [hv]

theorem group_parse (h bad : Int) : ∀ (g : List Tok) (i p q : Int) (rest : List Int) (out : List Tok) (fuel : Nat), posM bad p g = .ok q → 0 ≤ i →
    (∀ j (hj : j < g.length), bit h (i + j) = g[j].copy) → g.length < fuel → i + g.length ≤ 8 → (i + g.length = 8 ∨ rest = []) →
    groupM fuel h i (payM p g ++ rest) p out = .ok (i + g.length, rest, q, out ++ g)
  | [], i, p, q, rest, out, fuel, hp, hi, hb, hf, h8, he => by
    obtain ⟨k, rfl⟩ : ∃ k, fuel = k + 1 := ⟨fuel - 1, by simp at hf; omega⟩
    cases hp
    simp at he h8
    rw [groupM_stop _ _ _ _ _ _ (by
      rintro ⟨a, b⟩
      rcases he with he | he
      · omega
      · exact b (by simpa [payM] using he))]
    simp [payM]
  | t :: g, i, p, q, rest, out, fuel, hp, hi, hb, hf, h8, he => by
    obtain ⟨k, rfl⟩ : ∃ k, fuel = k + 1 := ⟨fuel - 1, by simp at hf; omega⟩
    simp only [List.length_cons] at hf h8 he
    simp only [posM] at hp
    cases hv : validM t p bad with
    | error e => rw [hv] at hp; cases hp
    | ok r =>
      rw [hv] at hp
      have hb0 := hb 0 (by simp)
      simp at hb0
      obtain ⟨hr, -⟩ := valid_inv hv
      simp only [payM, List.append_assoc]
      rw [groupM_step k h i _ _ p r t out ⟨by omega, by simp [payT_ne]⟩ (by rw [hb0]; exact tok_pay hv _) (valid_any_bad 4 hv)]
      subst hr
      rw [group_parse h bad g (i + 1) (p + sizT t) q rest (out ++ [t]) k hp (by omega) (fun j hj => by
        have := hb (j + 1) (by simp; omega)
        simp at this
        rw [← this]; congr 1; omega) (by omega) (by omega) (he.imp (fun h => by omega) id)]
      simp only [List.length_cons, List.append_assoc, List.singleton_append]
      rw [show i + 1 + (g.length : Int) = i + ((g.length + 1 : Nat) : Int) from by omega]

theorem hdr_bd : ∀ g : List Tok, 0 ≤ hdrM g ∧ hdrM g < 2 ^ g.length
  | [] => by simp [hdrM]
  | t :: g => by
    have := hdr_bd g
    simp only [hdrM, List.length_cons, Int.pow_succ]
    split <;> omega
theorem hdr_bit : ∀ (g : List Tok) (j : Nat) (hj : j < g.length), bit (hdrM g) j = g[j].copy
  | [], j, hj => absurd hj (by simp)
  | t :: g, 0, hj => by
    rw [List.getElem_cons_zero]
    cases hc : t.copy <;> simp [bit, hdrM, hc] <;> omega
  | t :: g, j + 1, hj => by
    have ih := hdr_bit g j (by simp at hj; omega)
    simp only [List.getElem_cons_succ]
    rw [← ih]
    unfold bit
    have e : hdrM (t :: g) / 2 ^ ((j + 1 : Nat) : Int).toNat = hdrM g / 2 ^ (j : Int).toNat := by
      simp only [Int.toNat_natCast, hdrM]
      rw [Int.pow_succ, Int.mul_comm ((2 : Int) ^ j) 2, ← Int.ediv_ediv_of_nonneg (by omega)]
      congr 1
      split <;> omega
    rw [e]
theorem hdr_snoc : ∀ (g : List Tok) (t : Tok), hdrM (g ++ [t]) = hdrM g + (if t.copy = true then 2 ^ g.length else 0)
  | [], t => by simp [hdrM]
  | s :: g, t => by
    simp only [List.cons_append, hdrM, hdr_snoc g t, List.length_cons, Int.pow_succ]
    split <;> split <;> omega

/-- The bytes of tokens, group by group. -/
def encM : Nat → Int → List Tok → List Int
  | 0, _, _ => []
  | k + 1, p, ts => if ts = [] then [] else hdrM (ts.take 8) :: (payM p (ts.take 8) ++ encM k (endM p (ts.take 8)) (ts.drop 8))

theorem pos_split (bad : Int) : ∀ (g ts : List Tok) (p q : Int), posM bad p (g ++ ts) = .ok q → posM bad p g = .ok (endM p g) ∧ posM bad (endM p g) ts = .ok q
  | [], ts, p, q, h => ⟨rfl, h⟩
  | t :: g, ts, p, q, h => by
    simp only [List.cons_append, posM] at h ⊢
    cases hv : validM t p bad with
    | error e => rw [hv] at h; cases h
    | ok r =>
      rw [hv] at h
      obtain ⟨rfl, -⟩ := valid_inv hv
      exact pos_split bad g ts _ q h

theorem tokens_enc (bad : Int) : ∀ (k : Nat) (ts : List Tok) (p q : Int) (out : List Tok) (fuel : Nat), posM bad p ts = .ok q → ts.length ≤ k → (encM k p ts).length < fuel →
    tokensM fuel (encM k p ts) p out = .ok (out ++ ts, q)
  | 0, ts, p, q, out, fuel, hp, hk, hf => by
    have : ts = [] := List.eq_nil_of_length_eq_zero (by omega)
    subst this
    cases hp
    obtain ⟨f, rfl⟩ : ∃ f, fuel = f + 1 := ⟨fuel - 1, by omega⟩
    simp [encM, tokensM]
  | k + 1, ts, p, q, out, fuel, hp, hk, hf => by
    obtain ⟨f, rfl⟩ : ∃ f, fuel = f + 1 := ⟨fuel - 1, by omega⟩
    unfold encM at hf ⊢
    by_cases hn : ts = []
    · subst hn
      cases hp
      simp [tokensM]
    · rw [if_neg hn] at hf ⊢
      obtain ⟨h1, h2⟩ := pos_split bad (ts.take 8) (ts.drop 8) p q (by rw [List.take_append_drop]; exact hp)
      have hl : 0 < (ts.take 8).length := by
        have := List.length_pos_iff.2 hn
        simp; omega
      have hl8 : (ts.take 8).length ≤ 8 := by simp; omega
      have hrest : ((0 : Int) + (ts.take 8).length = 8 ∨ encM k (endM p (ts.take 8)) (ts.drop 8) = []) := by
        by_cases h8 : 8 ≤ ts.length
        · left; simp; omega
        · right
          have : ts.drop 8 = [] := by simp; omega
          rw [this]
          cases k <;> simp [encM]
      unfold tokensM
      rw [group_parse (hdrM (ts.take 8)) bad (ts.take 8) 0 p _ _ out 9 h1 (Int.le_refl _) (fun j hj => by rw [Int.zero_add]; exact hdr_bit _ j hj) (by omega) (by omega) hrest]
      unfold afterM
      simp only
      have hb := hdr_bd (ts.take 8)
      have hz : hdrM (ts.take 8) / 2 ^ ((0 : Int) + (ts.take 8).length).toNat = 0 := by
        rw [Int.zero_add, Int.toNat_natCast]
        exact Int.ediv_eq_zero_of_lt hb.1 hb.2
      rw [if_neg (by rw [hz]; omega)]
      rw [tokens_enc bad k (ts.drop 8) _ q (out ++ ts.take 8) f h2 (by simp; omega) (by simp at hf; omega)]
      rw [List.append_assoc, List.take_append_drop]

/-- The rest of a group is written. -/
theorem chunk_put : ∀ (g : List Tok) (s : Wst) (a c : List Int) (h : Int) (i : Nat), s.out = a ++ h :: c → s.head = a.length → s.inn = i → 1 ≤ i → i + g.length ≤ 8 →
    (g.foldl putM s).out = a ++ (h + 2 ^ i * hdrM g) :: (c ++ payM s.pos g) ∧ (g.foldl putM s).pos = endM s.pos g ∧ (g ≠ [] → (g.foldl putM s).inn = ((i + g.length) % 8 : Nat))
  | [], s, a, c, h, i, h1, h2, h3, h4, h5 => by simp [hdrM, payM, endM, h1]
  | t :: g, s, a, c, h, i, h1, h2, h3, h4, h5 => by
    simp only [List.length_cons] at h5
    have ho : openM s = s := by unfold openM; rw [if_neg (by omega)]
    have hput : (putM s t).out = a ++ (h + (if t.copy = true then 2 ^ i else 0)) :: (c ++ payT s.pos t) ∧ (putM s t).pos = s.pos + sizT t ∧ (putM s t).inn = ((i + 1) % 8 : Nat) ∧ (putM s t).head = s.head := by
      unfold putM
      rw [ho]
      unfold laidM payT sizT
      by_cases hc : t.copy = true
      · simp only [if_pos hc]
        refine ⟨?_, trivial, by rw [h3]; omega, trivial⟩
        have e1 : s.out.getD s.head.toNat 0 = h := by rw [h1, h2]; simp
        rw [e1, h2, h3, h1]
        simp [vTok]
      · simp only [if_neg hc]
        refine ⟨by rw [h1]; simp, trivial, by rw [h3]; omega, trivial⟩
    obtain ⟨p1, p2, p3, p4⟩ := hput
    simp only [List.foldl_cons]
    cases g with
    | nil =>
      simp only [List.foldl_nil]
      refine ⟨?_, by rw [p2]; rfl, fun _ => p3⟩
      rw [p1]
      simp only [payM, List.append_nil, hdrM]
      congr 2
      split <;> simp
    | cons u g =>
      simp only [List.length_cons] at h5
      have ih := chunk_put (u :: g) (putM s t) a (c ++ payT s.pos t) (h + (if t.copy = true then 2 ^ i else 0)) (i + 1) p1 (by rw [p4, h2]) (by rw [p3]; omega) (by omega) (by simp; omega)
      rw [p2] at ih
      obtain ⟨i1, i2, i3⟩ := ih
      refine ⟨?_, i2, fun _ => by rw [i3 (by simp)]; simp only [List.length_cons]; omega⟩
      rw [i1]
      have e : h + (if t.copy = true then 2 ^ i else 0) + 2 ^ (i + 1) * hdrM (u :: g) = h + 2 ^ i * hdrM (t :: u :: g) := by
        rw [show hdrM (t :: u :: g) = (if t.copy = true then 1 else 0) + 2 * hdrM (u :: g) from rfl, Int.mul_add, Int.pow_succ, Int.mul_assoc]
        split <;> simp <;> omega
      rw [e]
      simp [payM]

/-- A whole group is written. -/
theorem group_put (g : List Tok) (s : Wst) (hi : s.inn = 0) (hn : g ≠ []) (h8 : g.length ≤ 8) :
    (g.foldl putM s).out = s.out ++ hdrM g :: payM s.pos g ∧ (g.foldl putM s).pos = endM s.pos g ∧ (g.foldl putM s).inn = (g.length % 8 : Nat) := by
  cases g with
  | nil => exact absurd rfl hn
  | cons t g =>
    simp only [List.length_cons] at h8
    have ho : openM s = ⟨s.out ++ [0], s.pos, s.inn, s.out.length⟩ := by unfold openM; rw [if_pos hi]
    have hput : (putM s t).out = s.out ++ (if t.copy = true then 1 else 0) :: payT s.pos t ∧ (putM s t).pos = s.pos + sizT t ∧ (putM s t).inn = (1 : Nat) ∧ (putM s t).head = s.out.length := by
      unfold putM
      rw [ho]
      unfold laidM payT sizT
      by_cases hc : t.copy = true
      · simp only [if_pos hc, hi]
        refine ⟨?_, trivial, by decide, trivial⟩
        simp [vTok]
      · simp only [if_neg hc, hi]
        exact ⟨by simp, trivial, by decide, trivial⟩
    obtain ⟨p1, p2, p3, p4⟩ := hput
    simp only [List.foldl_cons]
    have ih := chunk_put g (putM s t) s.out (payT s.pos t) (if t.copy = true then 1 else 0) 1 p1 p4 p3 (by omega) (by omega)
    rw [p2] at ih
    obtain ⟨i1, i2, i3⟩ := ih
    refine ⟨?_, i2, ?_⟩
    · rw [i1]
      simp [payM, hdrM]
    · by_cases hg : g = []
      · subst hg; simpa using p3
      · rw [i3 hg]; simp only [List.length_cons]; omega

theorem build_enc : ∀ (k : Nat) (ts : List Tok) (s : Wst), s.inn = 0 → ts.length ≤ k → (ts.foldl putM s).out = s.out ++ encM k s.pos ts
  | 0, ts, s, hi, hk => by
    have : ts = [] := List.eq_nil_of_length_eq_zero (by omega)
    subst this
    simp [encM]
  | k + 1, ts, s, hi, hk => by
    unfold encM
    by_cases hn : ts = []
    · subst hn; simp
    · rw [if_neg hn]
      have hne : ts.take 8 ≠ [] := by
        have := List.length_pos_iff.2 hn
        intro h
        have h2 := congrArg List.length h
        simp at h2
        exact hn h2
      obtain ⟨h1, h2, h3⟩ := group_put (ts.take 8) s hi hne (by simp; omega)
      by_cases h8 : 8 ≤ ts.length
      · have hl : (ts.take 8).length = 8 := by simp; omega
        have ih := build_enc k (ts.drop 8) ((ts.take 8).foldl putM s) (by rw [h3, hl]; rfl) (by simp; omega)
        rw [← List.foldl_append, List.take_append_drop] at ih
        rw [ih, h1, h2]
        simp
      · have hd : ts.drop 8 = [] := by simp; omega
        have ht : ts.take 8 = ts := List.take_of_length_le (by omega)
        rw [ht] at h1 ⊢
        rw [h1, hd]
        cases k <;> simp [encM]

theorem build_is_enc (ts : List Tok) : buildM ts = encM ts.length 0 ts := by
  have := build_enc ts.length ts w0M rfl (Nat.le_refl _)
  simpa [buildM, w0M] using this
/-- Tokens of what Build writes. -/
theorem tokens_build {bad : Int} {ts : List Tok} {q : Int} (h : posM bad 0 ts = .ok q) : tokensM ((buildM ts).length + 1) (buildM ts) 0 [] = .ok (ts, q) := by
  rw [build_is_enc]
  have := tokens_enc bad ts.length ts 0 q [] ((encM ts.length 0 ts).length + 1) h (Nat.le_refl _) (by omega)
  simpa using this
end Go.Proofs.Ytmlgjilflpdffaa
