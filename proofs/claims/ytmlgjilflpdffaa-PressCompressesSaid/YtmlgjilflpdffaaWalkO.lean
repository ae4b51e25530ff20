/- Walk: PressTokens. -/
import Derived.Test.YtmlgjilflpdffaaWalkN
import Derived.Test.YtmlgjilflpdffaaCodeC
namespace Go.Proofs.Ytmlgjilflpdffaa
open Go.RowKit Go.Deep
set_option linter.unusedVariables false
set_option linter.unusedSimpArgs false

theorem valid_err_of {t : Tok} {p bad e : Int} (h : validM t p bad = .error e) : e = bad ∨ e = 2 := by
  unfold validM at h
  repeat' split at h
  all_goals first | (cases h; simp; done) | (cases h; done)
theorem tok_err_of {xs : List Int} {b : Bool} {p e : Int} (h : tokM xs b p = .error e) : e = 4 := by
  unfold tokM at h
  split at h <;> cases h <;> rfl
theorem pos_err_of (bad : Int) : ∀ (ts : List Tok) (p e : Int), posM bad p ts = .error e → e = bad ∨ e = 2
  | [], p, e, h => by cases h
  | t :: ts, p, e, h => by
    simp only [posM] at h
    cases hv : validM t p bad with
    | error e1 => rw [hv] at h; cases h; exact valid_err_of hv
    | ok q => rw [hv] at h; exact pos_err_of bad ts q e h
theorem group_err_of (h : Int) : ∀ (k : Nat) (i p : Int) (xs : List Int) (out : List Tok) (e : Int), 8 < i + k → i ≤ 8 → groupM k h i xs p out = .error e → e = 4 ∨ e = 2
  | 0, i, p, xs, out, e, hk, hi, hm => by omega
  | k + 1, i, p, xs, out, e, hk, hi, hm => by
    unfold groupM at hm
    by_cases hc : i < 8 ∧ xs ≠ []
    · rw [if_pos hc] at hm
      cases ht : tokM xs (bit h i) p with
      | error e1 => rw [ht] at hm; cases hm; exact .inl (tok_err_of ht)
      | ok tr =>
        obtain ⟨t, r⟩ := tr
        rw [ht] at hm
        simp only at hm
        cases hv : validM t p 4 with
        | error e1 => rw [hv] at hm; cases hm; exact valid_err_of hv
        | ok q1 => rw [hv] at hm; exact group_err_of h k (i + 1) q1 r _ e (by omega) (by omega) hm
    · rw [if_neg hc] at hm; cases hm
theorem group_rest (h : Int) : ∀ (k : Nat) (i p : Int) (xs : List Int) (out : List Tok) (i2 : Int) (rest : List Int) (q : Int) (out2 : List Tok), groupM k h i xs p out = .ok (i2, rest, q, out2) → rest.length ≤ xs.length
  | 0, i, p, xs, out, i2, rest, q, out2, hm => by simp [groupM] at hm
  | k + 1, i, p, xs, out, i2, rest, q, out2, hm => by
    unfold groupM at hm
    by_cases hc : i < 8 ∧ xs ≠ []
    · rw [if_pos hc] at hm
      cases ht : tokM xs (bit h i) p with
      | error e1 => rw [ht] at hm; cases hm
      | ok tr =>
        obtain ⟨t, r⟩ := tr
        rw [ht] at hm
        simp only at hm
        cases hv : validM t p 4 with
        | error e1 => rw [hv] at hm; cases hm
        | ok q1 =>
          rw [hv] at hm
          have := group_rest h k (i + 1) q1 r _ i2 rest q out2 hm
          have hr : r.length ≤ xs.length := by
            unfold tokM at ht
            split at ht <;> cases ht <;> simp <;> omega
          omega
    · rw [if_neg hc] at hm; cases hm; exact Nat.le_refl _
theorem tokens_err_of : ∀ (k : Nat) (xs : List Int) (p : Int) (out : List Tok) (e : Int), xs.length < k → tokensM k xs p out = .error e → e = 4 ∨ e = 2
  | 0, xs, p, out, e, hk, hm => by omega
  | k + 1, [], p, out, e, hk, hm => by simp [tokensM] at hm
  | k + 1, h :: xs, p, out, e, hk, hm => by
    simp only [tokensM] at hm
    cases hg : groupM 9 h 0 xs p out with
    | error e1 => rw [hg] at hm; simp only [afterM] at hm; cases hm; exact group_err_of h 9 0 p xs out e (by omega) (by omega) hg
    | ok r =>
      obtain ⟨i, ys, q1, out1⟩ := r
      rw [hg] at hm
      simp only [afterM] at hm
      by_cases hc : i = 0 ∨ h / 2 ^ i.toNat ≠ 0
      · rw [if_pos hc] at hm; cases hm; exact .inl rfl
      · rw [if_neg hc] at hm
        have := group_rest h 9 0 p xs out i ys q1 out1 hg
        exact tokens_err_of k ys q1 out1 e (by simp at hk; omega) hm

/-- Bytes that are read, as a string, wherever they stand. -/
theorem Rd.str2 {w : World} {A : Option Addr} {n c : Nat} {xs : List Int} (h : Rd w .u8 A n xs) : (convert 22 9 (.slice A n c)).run Try.prog w = .ok (.string (strOfNums xs)) w := by
  cases A with
  | none =>
    have : n = 0 := by
      rcases Nat.eq_zero_or_pos n with h0 | h0
      · exact h0
      · obtain ⟨ad, e, _⟩ := h.at_ 0 h0; cases e
    have hx : xs = [] := List.eq_nil_of_length_eq_zero (by rw [h.len, this])
    rw [run_convert_bytes_nil w 22 5 Try.underlying22 Try.underlying5 n c 9 Try.underlying9, hx]
    rfl
  | some ad =>
    obtain ⟨b, o, s⟩ := ad
    rcases Nat.eq_zero_or_pos n with h0 | h0
    · subst h0
      have hx : xs = [] := List.eq_nil_of_length_eq_zero h.len
      subst hx
      rw [run_convert_bytes_string w 22 9 5 _ 0 c Try.underlying22 Try.underlying5 Try.underlying9]
      rfl
    · have hs : s = none := by
        obtain ⟨ad, e, hcell⟩ := h.at_ 0 h0
        cases e
        simpa [Addr.add] using World.cell?_spot hcell
      subst hs
      exact run_convert_bytes_arg w 22 5 Try.underlying22 Try.underlying5 b o n c xs h.len (fun i hi => by
        obtain ⟨ad, e, hcell⟩ := h.at_ i hi
        cases e
        rw [Addr.add_lit] at hcell
        exact hcell) 9 Try.underlying9

set_option maxRecDepth 100000 in
set_option maxHeartbeats 4000000 in
theorem PT_ee (A : Option Addr) (c : Nat) (xs : List Int) (A' : Option Addr) (c' : Nat) (l : List Tok) (w : World) (n : Nat) (HN2 : Hid (w.heap.size = n)) (HN : Hid (n ≤ w.heap.size)) (HR : Hid (Rd w .u8 A xs.length xs)) (HBy : Hid (Bytes xs)) (HBC : Hid (xs.length ≤ c)) (HT : Hid (RdT w A' l.length l)) (HBl : Hid (ByTok l)) (h2 : ¬ 3000 < xs.length) (h3 : ¬ 3000 < l.length) (k k2 : Int) (hT : tokensM (xs.length + 1) xs 0 [] = .error k) (hP : posM 1 0 l = .error k2) :
    Calls Try.prog 6 #[.slice A xs.length c, .slice A' l.length c'] w fun e W' => e = .returned (.bool true) ∧ Below n w W' := by
  have hk := tokens_err_of _ _ _ _ _ (Nat.lt_succ_self _) hT
  have hk0 : (k == 0) = false := by simp; omega
  have HTo := Lib.hid hT
  clear hT hk
  have hk := pos_err_of _ _ _ _ hP
  have hk20 : (k2 == 0) = false := by simp; omega
  have HPo := Lib.hid hP
  clear hP hk
  go_enter Try.func6, Try.ntmps6
  go_wp2_with (first
    | (go_at_call 19; refine (Tokens_err A c xs k _ HBC.out HR.out HBy.out (by omega) HTo.out).mono ?_; rintro e w1 ⟨rfl, hB⟩; rw [HN2.out] at hB; (have HB1 := Lib.hid hB); clear hB)
    | (go_at_call 21; refine (Build_err A' c' l k2 _ (HT.out.below (by rw [HN2.out]; exact HB1.out)) (by omega) HPo.out).mono ?_; rintro e w4 ⟨rfl, hB⟩; (have HB4 := Lib.hid (below_then HB1.out (Nat.le_trans HN.out HB1.out.size) hB)); clear hB)
    | (go_at_call 13; refine (sane_any _).mono ?_; rintro e w8 ⟨rfl, hB⟩; (have HB8 := Lib.hid (below_then HB4.out (Nat.le_trans HN.out HB4.out.size) hB)); clear hB))
  go_ret
  exact ⟨rfl, HB8.out⟩

set_option maxRecDepth 100000 in
set_option maxHeartbeats 4000000 in
theorem PT_eo (A : Option Addr) (c : Nat) (xs : List Int) (A' : Option Addr) (c' : Nat) (l : List Tok) (w : World) (n : Nat) (HN2 : Hid (w.heap.size = n)) (HN : Hid (n ≤ w.heap.size)) (HR : Hid (Rd w .u8 A xs.length xs)) (HBy : Hid (Bytes xs)) (HBC : Hid (xs.length ≤ c)) (HT : Hid (RdT w A' l.length l)) (HBl : Hid (ByTok l)) (h2 : ¬ 3000 < xs.length) (h3 : ¬ 3000 < l.length) (k q : Int) (hT : tokensM (xs.length + 1) xs 0 [] = .error k) (hP : posM 1 0 l = .ok q) :
    Calls Try.prog 6 #[.slice A xs.length c, .slice A' l.length c'] w fun e W' => e = .returned (.bool true) ∧ Below n w W' := by
  have hk := tokens_err_of _ _ _ _ _ (Nat.lt_succ_self _) hT
  have hk0 : (k == 0) = false := by simp; omega
  have HTo := Lib.hid hT
  clear hT hk
  have HPo := Lib.hid hP
  have HPT := Lib.hid (tokens_build hP)
  have HPB := Lib.hid (build_bytes hP HBl.out)
  have HPL := Lib.hid (build_len3 l)
  clear hP
  obtain ⟨ys, hys⟩ : ∃ ys, buildM l = ys := ⟨_, rfl⟩
  rw [hys] at HPT HPB HPL
  have HYS := Lib.hid hys
  clear hys
  go_enter Try.func6, Try.ntmps6
  go_wp2_with (first
    | ((have hgd := HR6); clear hgd; go_at_call 19; refine (Tokens_ok A6 c6 ys l q _ HC6.out HR6.out HPB.out (by have := HPL.out; omega) HPT.out).mono ?_; rintro e w7 ⟨v, rfl, hO, hB⟩; obtain ⟨A7, c7, rfl, hc7, hT7⟩ := own_toks hO rfl (by omega); (have HT7 := Lib.hid hT7); (have HB7 := Lib.hid (below_then HB4.out (Nat.le_trans HN.out HB4.out.size) hB)); clear hB hO hT7 hc7)
    | (go_at_call 19; refine (Tokens_err A c xs k _ HBC.out HR.out HBy.out (by omega) HTo.out).mono ?_; rintro e w1 ⟨rfl, hB⟩; rw [HN2.out] at hB; (have HB1 := Lib.hid hB); clear hB)
    | (go_at_call 21; refine (Build_ok A' c' l q _ (HT.out.below (by rw [HN2.out]; exact HB1.out)) HPo.out).mono ?_; rintro e w4 ⟨v, rfl, hO, hB⟩; rw [HYS.out] at hO; obtain ⟨A6, c6, rfl, hc6, hR6, -⟩ := own_bytes hO (by have := HPL.out; omega); (have HR6 := Lib.hid hR6); (have HC6 := Lib.hid hc6); (have HB4 := Lib.hid (below_then HB1.out (Nat.le_trans HN.out HB1.out.size) hB)); clear hB hO hR6 hc6)
    | (go_at_call 13; refine (sane_any _).mono ?_; rintro e w8 ⟨rfl, hB⟩; (have HB8 := Lib.hid (below_then HB7.out (Nat.le_trans HN.out HB7.out.size) hB)); (have HT8 := Lib.hid (HT7.out.below hB)); clear hB)
    | (go_at_call 23; refine (Same_refl A7 A' c7 c' l _ HT8.out (HT.out.below (by rw [HN2.out]; exact HB8.out))).mono ?_; rintro e w9 ⟨rfl, hD⟩; (have HB9 := Lib.hid (below_drawn HB8.out hD)); clear hD))
  go_ret
  exact ⟨rfl, HB9.out⟩

set_option maxRecDepth 100000 in
set_option maxHeartbeats 4000000 in
theorem PT_oe (A : Option Addr) (c : Nat) (xs : List Int) (A' : Option Addr) (c' : Nat) (l : List Tok) (w : World) (n : Nat) (HN2 : Hid (w.heap.size = n)) (HN : Hid (n ≤ w.heap.size)) (HR : Hid (Rd w .u8 A xs.length xs)) (HBy : Hid (Bytes xs)) (HBC : Hid (xs.length ≤ c)) (HT : Hid (RdT w A' l.length l)) (HBl : Hid (ByTok l)) (h2 : ¬ 3000 < xs.length) (h3 : ¬ 3000 < l.length) (ts : List Tok) (q0 k2 : Int) (hT : tokensM (xs.length + 1) xs 0 [] = .ok (ts, q0)) (hP : posM 1 0 l = .error k2) :
    Calls Try.prog 6 #[.slice A xs.length c, .slice A' l.length c'] w fun e W' => e = .returned (.bool true) ∧ Below n w W' := by
  obtain ⟨hb1, hb2, hb3⟩ := build_tokens hT HBy.out 1
  have HTo := Lib.hid hT
  have HB1o := Lib.hid hb1
  have HB2o := Lib.hid hb2
  have HTL : Hid (ts.length ≤ 3744) := Lib.hid (by
    have h1 := pos_len 1 _ _ _ hb1 (by omega)
    by_cases hn : ts = []
    · subst hn; simp
    · have := h1.2 hn; omega)
  clear hT hb1 hb2 hb3
  have hk := pos_err_of _ _ _ _ hP
  have hk20 : (k2 == 0) = false := by simp; omega
  have HPo := Lib.hid hP
  clear hP hk
  go_enter Try.func6, Try.ntmps6
  go_wp2_with (first
    | (go_at_call 19; refine (Tokens_ok A c xs ts q0 _ HBC.out HR.out HBy.out (by omega) HTo.out).mono ?_; rintro e w1 ⟨v, rfl, hO, hB⟩; rw [HN2.out] at hO hB; obtain ⟨A3, c3, rfl, hc3, hT3⟩ := own_toks hO rfl (by have := HTL.out; omega); (have HT3 := Lib.hid hT3); (have HB1 := Lib.hid hB); clear hB hO hT3 hc3)
    | ((have hgd := HB2); clear hgd; go_at_call 21; refine (Build_err A' c' l k2 _ (HT.out.below (by rw [HN2.out]; exact HB2.out)) (by omega) HPo.out).mono ?_; rintro e w4 ⟨rfl, hB⟩; (have HB4 := Lib.hid (below_then HB2.out (Nat.le_trans HN.out HB2.out.size) hB)); clear hB)
    | (go_at_call 21; refine (Build_ok A3 c3 ts q0 _ HT3.out HB1o.out).mono ?_; rintro e w2 ⟨v, rfl, hO, hB⟩; rw [HB2o.out] at hO; obtain ⟨A5, c5, rfl, hc5, hR5, -⟩ := own_bytes hO (by omega); (have HB2 := Lib.hid (below_then HB1.out (Nat.le_trans HN.out HB1.out.size) hB)); (have k3 := hR5.str2 (c := c5)); (have k4 := (HR.out.below (by rw [HN2.out]; exact HB2.out)).str2 (c := c)); generalize strOfNums xs = sx at k3 k4; clear hB hO hR5 hc5)
    | (go_at_call 13; refine (sane_any _).mono ?_; rintro e w8 ⟨rfl, hB⟩; (have HB8 := Lib.hid (below_then HB4.out (Nat.le_trans HN.out HB4.out.size) hB)); clear hB))
  go_ret
  exact ⟨rfl, HB8.out⟩

set_option maxRecDepth 100000 in
set_option maxHeartbeats 4000000 in
theorem PT_oo (A : Option Addr) (c : Nat) (xs : List Int) (A' : Option Addr) (c' : Nat) (l : List Tok) (w : World) (n : Nat) (HN2 : Hid (w.heap.size = n)) (HN : Hid (n ≤ w.heap.size)) (HR : Hid (Rd w .u8 A xs.length xs)) (HBy : Hid (Bytes xs)) (HBC : Hid (xs.length ≤ c)) (HT : Hid (RdT w A' l.length l)) (HBl : Hid (ByTok l)) (h2 : ¬ 3000 < xs.length) (h3 : ¬ 3000 < l.length) (ts : List Tok) (q0 q : Int) (hT : tokensM (xs.length + 1) xs 0 [] = .ok (ts, q0)) (hP : posM 1 0 l = .ok q) :
    Calls Try.prog 6 #[.slice A xs.length c, .slice A' l.length c'] w fun e W' => e = .returned (.bool true) ∧ Below n w W' := by
  obtain ⟨hb1, hb2, hb3⟩ := build_tokens hT HBy.out 1
  have HTo := Lib.hid hT
  have HB1o := Lib.hid hb1
  have HB2o := Lib.hid hb2
  have HTL : Hid (ts.length ≤ 3744) := Lib.hid (by
    have h1 := pos_len 1 _ _ _ hb1 (by omega)
    by_cases hn : ts = []
    · subst hn; simp
    · have := h1.2 hn; omega)
  clear hT hb1 hb2 hb3
  have HPo := Lib.hid hP
  have HPT := Lib.hid (tokens_build hP)
  have HPB := Lib.hid (build_bytes hP HBl.out)
  have HPL := Lib.hid (build_len3 l)
  clear hP
  obtain ⟨ys, hys⟩ : ∃ ys, buildM l = ys := ⟨_, rfl⟩
  rw [hys] at HPT HPB HPL
  have HYS := Lib.hid hys
  clear hys
  go_enter Try.func6, Try.ntmps6
  go_wp2_with (first
    | ((have hgd := HR6); clear hgd; go_at_call 19; refine (Tokens_ok A6 c6 ys l q _ HC6.out HR6.out HPB.out (by have := HPL.out; omega) HPT.out).mono ?_; rintro e w7 ⟨v, rfl, hO, hB⟩; obtain ⟨A7, c7, rfl, hc7, hT7⟩ := own_toks hO rfl (by omega); (have HT7 := Lib.hid hT7); (have HB7 := Lib.hid (below_then HB4.out (Nat.le_trans HN.out HB4.out.size) hB)); clear hB hO hT7 hc7)
    | (go_at_call 19; refine (Tokens_ok A c xs ts q0 _ HBC.out HR.out HBy.out (by omega) HTo.out).mono ?_; rintro e w1 ⟨v, rfl, hO, hB⟩; rw [HN2.out] at hO hB; obtain ⟨A3, c3, rfl, hc3, hT3⟩ := own_toks hO rfl (by have := HTL.out; omega); (have HT3 := Lib.hid hT3); (have HB1 := Lib.hid hB); clear hB hO hT3 hc3)
    | ((have hgd := HB2); clear hgd; go_at_call 21; refine (Build_ok A' c' l q _ (HT.out.below (by rw [HN2.out]; exact HB2.out)) HPo.out).mono ?_; rintro e w4 ⟨v, rfl, hO, hB⟩; rw [HYS.out] at hO; obtain ⟨A6, c6, rfl, hc6, hR6, -⟩ := own_bytes hO (by have := HPL.out; omega); (have HR6 := Lib.hid hR6); (have HC6 := Lib.hid hc6); (have HB4 := Lib.hid (below_then HB2.out (Nat.le_trans HN.out HB2.out.size) hB)); clear hB hO hR6 hc6)
    | (go_at_call 21; refine (Build_ok A3 c3 ts q0 _ HT3.out HB1o.out).mono ?_; rintro e w2 ⟨v, rfl, hO, hB⟩; rw [HB2o.out] at hO; obtain ⟨A5, c5, rfl, hc5, hR5, -⟩ := own_bytes hO (by omega); (have HB2 := Lib.hid (below_then HB1.out (Nat.le_trans HN.out HB1.out.size) hB)); (have k3 := hR5.str2 (c := c5)); (have k4 := (HR.out.below (by rw [HN2.out]; exact HB2.out)).str2 (c := c)); generalize strOfNums xs = sx at k3 k4; clear hB hO hR5 hc5)
    | (go_at_call 13; refine (sane_any _).mono ?_; rintro e w8 ⟨rfl, hB⟩; (have HB8 := Lib.hid (below_then HB7.out (Nat.le_trans HN.out HB7.out.size) hB)); (have HT8 := Lib.hid (HT7.out.below hB)); clear hB)
    | (go_at_call 23; refine (Same_refl A7 A' c7 c' l _ HT8.out (HT.out.below (by rw [HN2.out]; exact HB8.out))).mono ?_; rintro e w9 ⟨rfl, hD⟩; (have HB9 := Lib.hid (below_drawn HB8.out hD)); clear hD))
  go_ret
  exact ⟨rfl, HB9.out⟩

set_option maxRecDepth 100000 in
set_option maxHeartbeats 4000000 in
theorem law_PressTokens (A : Option Addr) (c : Nat) (xs : List Int) (A' : Option Addr) (c' : Nat) (l : List Tok) (w : World) (hR : Rd w .u8 A xs.length xs) (hA : ∀ ad, A = some ad → ad.block < w.heap.size) (hBy : Bytes xs) (hbc : xs.length ≤ c)
    (hRT : RdT w A' l.length l) (hA' : ∀ ad, A' = some ad → ad.block < w.heap.size) (hBl : ∀ t ∈ l, (0 ≤ t.byte ∧ t.byte ≤ 255) ∧ (-9223372036854775808 ≤ t.back ∧ t.back ≤ 9223372036854775807) ∧ (-9223372036854775808 ≤ t.many ∧ t.many ≤ 9223372036854775807)) (hlc : l.length ≤ c') :
    Calls Try.prog 6 #[.slice A xs.length c, .slice A' l.length c'] w fun e W' => e = .returned (.bool true) ∧ Below w.heap.size w W' := by
  have HR := Lib.hid hR
  have HT := Lib.hid hRT
  have HBy := Lib.hid hBy
  have HBl : Hid (ByTok l) := Lib.hid fun t ht => (hBl t ht).1
  have HBC := Lib.hid hbc
  have HLC := Lib.hid hlc
  clear hR hA hBy hRT hA' hBl hbc hlc
  obtain ⟨n, hn⟩ : ∃ n, w.heap.size = n := ⟨_, rfl⟩
  rw [hn]
  have HN := Lib.hid (Nat.le_of_eq hn.symm)
  have HN2 := Lib.hid hn
  clear hn
  by_cases h1 : 3000 < xs.length ∨ 3000 < l.length
  · have hd : (decide ((3000 : Int) < xs.length) || decide ((3000 : Int) < l.length)) = true := by simp; omega
    by_cases h2 : 3000 < xs.length
    · go_enter Try.func6, Try.ntmps6
      go_wp2_with (go_at_call 13; refine (sane_any _).mono ?_; rintro e w1 ⟨rfl, hB⟩)
      go_ret
      exact ⟨rfl, by rw [← HN2.out]; exact hB⟩
    · have h3 : 3000 < l.length := by omega
      go_enter Try.func6, Try.ntmps6
      go_wp2_with (go_at_call 13; refine (sane_any _).mono ?_; rintro e w1 ⟨rfl, hB⟩)
      go_ret
      exact ⟨rfl, by rw [← HN2.out]; exact hB⟩
  · have h2 : ¬ 3000 < xs.length := by omega
    have h3 : ¬ 3000 < l.length := by omega
    clear h1
    cases hT : tokensM (xs.length + 1) xs 0 [] with
    | error k =>
      cases hP : posM 1 0 l with
      | error k2 => exact PT_ee A c xs A' c' l w n HN2 HN HR HBy HBC HT HBl h2 h3 k k2 hT hP
      | ok q => exact PT_eo A c xs A' c' l w n HN2 HN HR HBy HBC HT HBl h2 h3 k q hT hP
    | ok tp =>
      obtain ⟨ts, q0⟩ := tp
      cases hP : posM 1 0 l with
      | error k2 => exact PT_oe A c xs A' c' l w n HN2 HN HR HBy HBC HT HBl h2 h3 ts q0 k2 hT hP
      | ok q => exact PT_oo A c xs A' c' l w n HN2 HN HR HBy HBC HT HBl h2 h3 ts q0 q hT hP
end Go.Proofs.Ytmlgjilflpdffaa
