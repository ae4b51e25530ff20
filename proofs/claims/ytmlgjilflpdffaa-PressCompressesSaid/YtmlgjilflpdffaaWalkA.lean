/- Walks: shape, valid. -/
import Derived.Test.YtmlgjilflpdffaaBase
import Derived.Test.YtmlgjilflpdffaaModel
namespace Go.Proofs.Ytmlgjilflpdffaa
open Go.RowKit Go.Deep
set_option linter.unusedVariables false
set_option linter.unusedSimpArgs false

def fault (c : Int) : Ending := .panicked [{ v := .iface 71 (.agg #[.int .i64 c]), recovered := false }]

theorem pow_bd (v : Int) (h4 : 4 ≤ v) (h12 : v ≤ 12) : 16 ≤ (2 : Int) ^ v.toNat ∧ (2 : Int) ^ v.toNat ≤ 4096 := by
  obtain ⟨n, rfl⟩ := Int.eq_ofNat_of_zero_le (show 0 ≤ v by omega)
  have : n = 4 ∨ n = 5 ∨ n = 6 ∨ n = 7 ∨ n = 8 ∨ n = 9 ∨ n = 10 ∨ n = 11 ∨ n = 12 := by omega
  rcases this with rfl | rfl | rfl | rfl | rfl | rfl | rfl | rfl | rfl <;> decide
theorem wid_lt (p v : Int) (h4 : 4 ≤ v) (hlt : v < widN p) : (2 : Int) ^ v.toNat < p := by
  obtain ⟨n, rfl⟩ := Int.eq_ofNat_of_zero_le (show 0 ≤ v by omega)
  have hw := widN_bd p
  have : n = 4 ∨ n = 5 ∨ n = 6 ∨ n = 7 ∨ n = 8 ∨ n = 9 ∨ n = 10 ∨ n = 11 := by omega
  unfold widN at hlt
  rcases this with rfl | rfl | rfl | rfl | rfl | rfl | rfl | rfl
  · show 16 < p; omega
  · show 32 < p; omega
  · show 64 < p; omega
  · show 128 < p; omega
  · show 256 < p; omega
  · show 512 < p; omega
  · show 1024 < p; omega
  · show 2048 < p; omega

set_option maxRecDepth 100000 in
set_option maxHeartbeats 1000000 in
theorem shape_any (p : Int) (w : World) (hp : p ≤ 4096) :
    Calls Try.prog 31 #[.int .i64 p] w fun e w' => e = .returned (.tuple #[.int .i64 (widN p), .int .i64 (reach p)]) ∧ Drawn w w' := by
  have hw := widN_bd p
  go_enter Try.func31, Try.ntmps31
  go_wp2
  go_loopg [2] (widN p - 4).toNat (fun kq x w' => ∃ v : Int, 4 ≤ v ∧ v ≤ widN p ∧ kq = (widN p - v).toNat ∧ x = .int .i64 v ∧ w = w')
  case atStart => exact ⟨4, by omega, by omega, rfl, rfl, rfl⟩
  case round =>
    obtain ⟨v, h4, hv, hk, rfl, rfl⟩ := hrel
    have h12 : v ≤ 12 := by omega
    obtain ⟨hb1, hb2⟩ := pow_bd v h4 h12
    by_cases hlt : v < widN p
    · have h2 := wid_lt p v h4 hlt
      go_wp2
      go_roundg (widN p - (v + 1)).toNat
      case measure => omega
      case rel => exact ⟨v + 1, by omega, by omega, rfl, rfl, rfl⟩
    · obtain rfl : v = widN p := by omega
      have h2 := le_pow_wid p hp
      have hg := gap_bd p
      have hq : ¬ (2 : Int) ^ (widN p).toNat < p := by omega
      go_wp2
      have hgp := gap_pow p
      go_quiet (fail)
      go_wp2
      go_ret2
      exact ⟨rfl, ⟨_, rfl⟩⟩

def Tok.val (t : Tok) : Value := .agg #[.bool t.copy, .int .u8 t.byte, .int .i64 t.back, .int .i64 t.many]

/-- How 'valid' ends. -/
def validE (x : Tok) (p bad : Int) : Ending := match validM x p bad with
  | .ok r => .returned (.int .i64 r)
  | .error c => fault c

set_option maxRecDepth 100000 in
set_option maxHeartbeats 1000000 in
theorem valid_lit (b back many p bad : Int) (w : World) (h0 : 0 ≤ p) (hp : p ≤ 3744) :
    Calls Try.prog 41 #[.agg #[.bool false, .int .u8 b, .int .i64 back, .int .i64 many], .int .i64 p, .int .i64 bad] w fun e w' => e = validE ⟨false, b, back, many⟩ p bad ∧ Below w.heap.size w w' := by
  by_cases h1 : back = 0
  · subst h1
    by_cases h2 : many = 0
    · subst h2
      by_cases h3 : 3744 ≤ p
      · have hE := Lib.hid (show validE ⟨false, b, 0, 0⟩ p bad = fault 2 by simp [validE, validM, h3])
        go_enter Try.func41, Try.ntmps41
        go_wp2
        exact ⟨rfl, hE.out.symm, one_alloc _ _⟩
      · have hE := Lib.hid (show validE ⟨false, b, 0, 0⟩ p bad = .returned (.int .i64 (p + 1)) by simp [validE, validM, h3])
        go_enter Try.func41, Try.ntmps41
        go_wp2
        go_ret
        exact ⟨hE.out.symm, one_alloc _ _⟩
    · have hE := Lib.hid (show validE ⟨false, b, 0, many⟩ p bad = fault bad by simp [validE, validM, h2])
      go_enter Try.func41, Try.ntmps41
      go_wp2
      exact ⟨rfl, hE.out.symm, one_alloc _ _⟩
  · have hE := Lib.hid (show validE ⟨false, b, back, many⟩ p bad = fault bad by simp [validE, validM, h1])
    go_enter Try.func41, Try.ntmps41
    go_wp2
    exact ⟨rfl, hE.out.symm, one_alloc _ _⟩

theorem validE_bad {b back many p bad : Int} (h : b ≠ 0 ∨ back < 1 ∨ p < back ∨ many < 3 ∨ reach p < many) : validE ⟨true, b, back, many⟩ p bad = fault bad := by
  simp [validE, validM, if_pos h]

set_option maxRecDepth 100000 in
set_option maxHeartbeats 1000000 in
theorem valid_cpy (b back many p bad : Int) (w : World) (h0 : 0 ≤ p) (hp : p ≤ 3744) :
    Calls Try.prog 41 #[.agg #[.bool true, .int .u8 b, .int .i64 back, .int .i64 many], .int .i64 p, .int .i64 bad] w fun e w' => e = validE ⟨true, b, back, many⟩ p bad ∧ Below w.heap.size w w' := by
  have hg := gap_bd p
  by_cases h1 : b = 0
  · subst h1
    by_cases h2 : back < 1
    · have hE := Lib.hid (validE_bad (b := 0) (back := back) (many := many) (p := p) (bad := bad) (by omega))
      go_enter Try.func41, Try.ntmps41
      go_wp2_with (go_at_call 31; refine (shape_any _ _ (by omega)).mono ?_; rintro e w' ⟨rfl, ⟨n, rfl⟩⟩)
      exact ⟨rfl, hE.out.symm, below_drewN (one_alloc _ _) _⟩
    · by_cases h3 : p < back
      · have hE := Lib.hid (validE_bad (b := 0) (back := back) (many := many) (p := p) (bad := bad) (by omega))
        go_enter Try.func41, Try.ntmps41
        go_wp2_with (go_at_call 31; refine (shape_any _ _ (by omega)).mono ?_; rintro e w' ⟨rfl, ⟨n, rfl⟩⟩)
        exact ⟨rfl, hE.out.symm, below_drewN (one_alloc _ _) _⟩
      · by_cases h4 : many < 3
        · have hE := Lib.hid (validE_bad (b := 0) (back := back) (many := many) (p := p) (bad := bad) (by omega))
          go_enter Try.func41, Try.ntmps41
          go_wp2_with (go_at_call 31; refine (shape_any _ _ (by omega)).mono ?_; rintro e w' ⟨rfl, ⟨n, rfl⟩⟩)
          exact ⟨rfl, hE.out.symm, below_drewN (one_alloc _ _) _⟩
        · by_cases h5 : reach p < many
          · have hE := Lib.hid (validE_bad (b := 0) (back := back) (many := many) (p := p) (bad := bad) (by omega))
            go_enter Try.func41, Try.ntmps41
            go_wp2_with (go_at_call 31; refine (shape_any _ _ (by omega)).mono ?_; rintro e w' ⟨rfl, ⟨n, rfl⟩⟩)
            exact ⟨rfl, hE.out.symm, below_drewN (one_alloc _ _) _⟩
          · have hr : many ≤ 4098 := by unfold reach at h5; omega
            by_cases h6 : 3744 < p + many
            · have hE := Lib.hid (show validE ⟨true, 0, back, many⟩ p bad = fault 2 by simp [validE, validM, h2, h3, h4, h5, h6])
              go_enter Try.func41, Try.ntmps41
              go_wp2_with (go_at_call 31; refine (shape_any _ _ (by omega)).mono ?_; rintro e w' ⟨rfl, ⟨n, rfl⟩⟩)
              exact ⟨rfl, hE.out.symm, below_drewN (one_alloc _ _) _⟩
            · have hE := Lib.hid (show validE ⟨true, 0, back, many⟩ p bad = .returned (.int .i64 (p + many)) by simp [validE, validM, h2, h3, h4, h5, h6])
              go_enter Try.func41, Try.ntmps41
              go_wp2_with (go_at_call 31; refine (shape_any _ _ (by omega)).mono ?_; rintro e w' ⟨rfl, ⟨n, rfl⟩⟩)
              go_ret
              exact ⟨hE.out.symm, below_drewN (one_alloc _ _) _⟩
  · have hE := Lib.hid (validE_bad (b := b) (back := back) (many := many) (p := p) (bad := bad) (.inl h1))
    go_enter Try.func41, Try.ntmps41
    go_wp2_with (go_at_call 31; refine (shape_any _ _ (by omega)).mono ?_; rintro e w' ⟨rfl, ⟨n, rfl⟩⟩)
    exact ⟨rfl, hE.out.symm, below_drewN (one_alloc _ _) _⟩

/-- 'valid', whatever the token. -/
theorem valid_any (x : Tok) (p bad : Int) (w : World) (h0 : 0 ≤ p) (hp : p ≤ 3744) :
    Calls Try.prog 41 #[x.val, .int .i64 p, .int .i64 bad] w fun e w' => e = validE x p bad ∧ Below w.heap.size w w' := by
  obtain ⟨c, b, back, many⟩ := x
  cases c
  · exact valid_lit b back many p bad w h0 hp
  · exact valid_cpy b back many p bad w h0 hp

theorem valid_err (t : Tok) (p bad e : Int) (w : World) (h0 : 0 ≤ p) (hp : p ≤ 3744) (h : validM t p bad = .error e) :
    Calls Try.prog 41 #[.agg #[.bool t.copy, .int .u8 t.byte, .int .i64 t.back, .int .i64 t.many], .int .i64 p, .int .i64 bad] w fun e' w' => e' = (.panicked [{ v := .iface 71 (.agg #[.int .i64 e]), recovered := false }]) ∧ Below w.heap.size w w' :=
  (valid_any t p bad w h0 hp).mono fun e' w' ⟨h1, h2⟩ => ⟨by rw [h1, validE, h]; rfl, h2⟩
theorem valid_ok (t : Tok) (p bad r : Int) (w : World) (h0 : 0 ≤ p) (hp : p ≤ 3744) (h : validM t p bad = .ok r) :
    Calls Try.prog 41 #[.agg #[.bool t.copy, .int .u8 t.byte, .int .i64 t.back, .int .i64 t.many], .int .i64 p, .int .i64 bad] w fun e' w' => e' = .returned (.int .i64 r) ∧ Below w.heap.size w w' :=
  (valid_any t p bad w h0 hp).mono fun e' w' ⟨h1, h2⟩ => ⟨by rw [h1, validE, h], h2⟩
end Go.Proofs.Ytmlgjilflpdffaa
