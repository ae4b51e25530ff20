/- Walks: the document's literal, copied, valid, size. -/
import Derived.Test.YtmlgjilflpdffaaWalkO
namespace Go.Proofs.Ytmlgjilflpdffaa
open Go.RowKit Go.Deep
set_option linter.unusedVariables false
set_option linter.unusedSimpArgs false

set_option maxRecDepth 100000 in
set_option maxHeartbeats 1000000 in
theorem Rliteral_any (x : Int) (w : World) : Calls Try.prog 37 #[.int .u8 x] w fun e W' => e = .returned (.agg #[.bool false, .int .u8 x, .int .i64 0, .int .i64 0]) ∧ Below w.heap.size w W' := by
  go_enter Try.func37, Try.ntmps37
  go_wp2
  exact bodyPost_ret (v := .agg #[.bool false, .int .u8 x, .int .i64 0, .int .i64 0]) (by simp [results, Try.results37, go_sem]) rfl ⟨rfl, one_alloc _ _⟩
set_option maxRecDepth 100000 in
set_option maxHeartbeats 1000000 in
theorem Rcopied_any (k m : Int) (w : World) : Calls Try.prog 38 #[.int .i64 k, .int .i64 m] w fun e W' => e = .returned (.agg #[.bool true, .int .u8 0, .int .i64 k, .int .i64 m]) ∧ Below w.heap.size w W' := by
  go_enter Try.func38, Try.ntmps38
  go_wp2
  exact bodyPost_ret (v := .agg #[.bool true, .int .u8 0, .int .i64 k, .int .i64 m]) (by simp [results, Try.results38, go_sem]) rfl ⟨rfl, one_alloc _ _⟩
set_option maxRecDepth 100000 in
set_option maxHeartbeats 1000000 in
theorem Rsize_any (t : Tok) (w : World) : Calls Try.prog 40 #[.agg #[.bool t.copy, .int .u8 t.byte, .int .i64 t.back, .int .i64 t.many]] w fun e W' => e = .returned (.int .i64 (sizT t)) ∧ Below w.heap.size w W' := by
  obtain ⟨tc, tb, tk, tm⟩ := t
  cases tc with
  | true =>
    go_enter Try.func40, Try.ntmps40
    go_wp2
    go_ret
    exact ⟨rfl, one_alloc _ _⟩
  | false =>
    go_enter Try.func40, Try.ntmps40
    go_wp2
    go_ret
    exact ⟨rfl, one_alloc _ _⟩
/-- What the document's 'valid' says. -/
def rvalid (t : Tok) (p : Int) : Bool := if t.copy = false then decide (t.back = 0 ∧ t.many = 0) else decide (t.byte = 0 ∧ 1 ≤ t.back ∧ t.back ≤ p ∧ 3 ≤ t.many ∧ t.many ≤ reach p)
theorem validM_r (t : Tok) (p bad : Int) : validM t p bad = if rvalid t p = true then (if 3744 < p + sizT t then .error 2 else .ok (p + sizT t)) else .error bad := by
  obtain ⟨tc, tb, tk, tm⟩ := t
  unfold validM rvalid sizT
  cases tc with
  | false =>
    simp only [if_true, Bool.false_eq_true, if_false, decide_eq_true_eq]
    by_cases h : tk = 0 ∧ tm = 0
    · have h0 : ¬ (tk ≠ 0 ∨ tm ≠ 0) := by omega
      simp only [if_pos h, if_neg h0]
      by_cases h2 : 3744 ≤ p
      · simp only [if_pos h2, if_pos (show 3744 < p + 1 by omega)]
      · simp only [if_neg h2, if_neg (show ¬ 3744 < p + 1 by omega)]
    · have h0 : tk ≠ 0 ∨ tm ≠ 0 := by omega
      simp only [if_neg h, if_pos h0]
  | true =>
    simp only [Bool.true_eq_false, if_false, if_true, decide_eq_true_eq]
    by_cases h : tb = 0 ∧ 1 ≤ tk ∧ tk ≤ p ∧ 3 ≤ tm ∧ tm ≤ reach p
    · have h0 : ¬ (tb ≠ 0 ∨ tk < 1 ∨ p < tk ∨ tm < 3 ∨ reach p < tm) := by omega
      simp only [if_pos h, if_neg h0]
    · have h0 : tb ≠ 0 ∨ tk < 1 ∨ p < tk ∨ tm < 3 ∨ reach p < tm := by omega
      simp only [if_neg h, if_pos h0]

set_option maxRecDepth 100000 in
set_option maxHeartbeats 2000000 in
theorem Rvalid_any (t : Tok) (p : Int) (w : World) (h0 : 0 ≤ p) (hp : p ≤ 3744) : Calls Try.prog 39 #[.agg #[.bool t.copy, .int .u8 t.byte, .int .i64 t.back, .int .i64 t.many], .int .i64 p] w fun e W' => e = .returned (.bool (rvalid t p)) ∧ Below w.heap.size w W' := by
  obtain ⟨tc, tb, tk, tm⟩ := t
  cases tc with
  | false =>
    by_cases h1 : tk = 0
    · subst h1
      by_cases h2 : tm = 0
      · subst h2
        go_enter Try.func39, Try.ntmps39
        go_wp2_with (go_at_call 15; refine (RWidth_ok _ _ h0 hp).mono ?_; rintro e w' ⟨rfl, ⟨m, rfl⟩⟩)
        go_ret
        exact ⟨by simp [rvalid], below_drewN (one_alloc _ _) _⟩
      · have hd : (tm == 0) = false := by simpa using h2
        have hE := Lib.hid (show rvalid ⟨false, tb, 0, tm⟩ p = false by simp [rvalid, h2])
        go_enter Try.func39, Try.ntmps39
        go_wp2_with (go_at_call 15; refine (RWidth_ok _ _ h0 hp).mono ?_; rintro e w' ⟨rfl, ⟨m, rfl⟩⟩)
        go_ret
        exact ⟨by rw [hE.out]; rfl, below_drewN (one_alloc _ _) _⟩
    · have hd : (tk == 0) = false := by simpa using h1
      have hE := Lib.hid (show rvalid ⟨false, tb, tk, tm⟩ p = false by simp [rvalid, h1])
      go_enter Try.func39, Try.ntmps39
      go_wp2_with (go_at_call 15; refine (RWidth_ok _ _ h0 hp).mono ?_; rintro e w' ⟨rfl, ⟨m, rfl⟩⟩)
      go_ret
      exact ⟨by rw [hE.out]; rfl, below_drewN (one_alloc _ _) _⟩
  | true =>
    by_cases h1 : tb = 0
    · subst h1
      by_cases h2 : 1 ≤ tk
      · by_cases h3 : tk ≤ p
        · by_cases h4 : 3 ≤ tm
          · have hE := Lib.hid (show rvalid ⟨true, 0, tk, tm⟩ p = decide (tm ≤ reach p) by simp [rvalid, h2, h3, h4])
            go_enter Try.func39, Try.ntmps39
            go_wp2_with (go_at_call 15; refine (RWidth_ok _ _ h0 hp).mono ?_; rintro e w' ⟨rfl, ⟨m, rfl⟩⟩)
            go_ret
            exact ⟨by rw [hE.out]; rfl, below_drewN (one_alloc _ _) _⟩
          · have hE := Lib.hid (show rvalid ⟨true, 0, tk, tm⟩ p = false by simp [rvalid, h2, h3, h4])
            go_enter Try.func39, Try.ntmps39
            go_wp2_with (go_at_call 15; refine (RWidth_ok _ _ h0 hp).mono ?_; rintro e w' ⟨rfl, ⟨m, rfl⟩⟩)
            go_ret
            exact ⟨by rw [hE.out]; rfl, below_drewN (one_alloc _ _) _⟩
        · have hE := Lib.hid (show rvalid ⟨true, 0, tk, tm⟩ p = false by simp [rvalid, h2, h3])
          go_enter Try.func39, Try.ntmps39
          go_wp2_with (go_at_call 15; refine (RWidth_ok _ _ h0 hp).mono ?_; rintro e w' ⟨rfl, ⟨m, rfl⟩⟩)
          go_ret
          exact ⟨by rw [hE.out]; rfl, below_drewN (one_alloc _ _) _⟩
      · have hE := Lib.hid (show rvalid ⟨true, 0, tk, tm⟩ p = false by simp [rvalid, h2])
        go_enter Try.func39, Try.ntmps39
        go_wp2_with (go_at_call 15; refine (RWidth_ok _ _ h0 hp).mono ?_; rintro e w' ⟨rfl, ⟨m, rfl⟩⟩)
        go_ret
        exact ⟨by rw [hE.out]; rfl, below_drewN (one_alloc _ _) _⟩
    · have hd : (tb == 0) = false := by simpa using h1
      have hE := Lib.hid (show rvalid ⟨true, tb, tk, tm⟩ p = false by simp [rvalid, h1])
      go_enter Try.func39, Try.ntmps39
      go_wp2_with (go_at_call 15; refine (RWidth_ok _ _ h0 hp).mono ?_; rintro e w' ⟨rfl, ⟨m, rfl⟩⟩)
      go_ret
      exact ⟨by rw [hE.out]; rfl, below_drewN (one_alloc _ _) _⟩
theorem rvalid_size {t : Tok} {p : Int} (h : rvalid t p = true) : 1 ≤ sizT t ∧ sizT t ≤ 4098 := by
  have hg := gap_bd p
  unfold rvalid at h
  unfold sizT
  cases hc : t.copy with
  | false => simp
  | true =>
    rw [hc] at h
    simp only [Bool.true_eq_false, if_false, decide_eq_true_eq] at h
    simp only [if_true]
    unfold reach at h
    omega
theorem drop_get (xs : List Int) (a : Nat) (h : a < xs.length) : xs.drop a = xs.getD a 0 :: xs.drop (a + 1) := by
  rw [List.drop_eq_getElem_cons h]
  simp [List.getD_eq_getElem?_getD, h]
end Go.Proofs.Ytmlgjilflpdffaa
