/- Walk: PressMatches. -/
import Derived.Test.YtmlgjilflpdffaaWalkJ
namespace Go.Proofs.Ytmlgjilflpdffaa
open Go.RowKit Go.Deep
set_option linter.unusedVariables false
set_option linter.unusedSimpArgs false

/-- What Width says, whatever the position. -/
def widthM (p : Int) : Int × Int × Int := if p < 0 ∨ 3744 < p then (0, 0, 24) else (widN p, reach p, 0)
def longM (b : List Int) (p : Int) : Int × Int × Int := if 3744 < b.length then (0, 0, 2) else if p < 0 ∨ (b.length : Int) < p then (0, 0, 24) else ((longestM b p.toNat).1, (longestM b p.toNat).2, 0)

theorem Width_all (p : Int) (w : World) : Calls Try.prog 14 #[.int .i64 p] w fun e W' => e = .returned (.tuple #[.int .i64 (widthM p).1, .int .i64 (widthM p).2.1, .int .i64 (widthM p).2.2]) ∧ Drawn w W' := by
  by_cases h : p < 0 ∨ 3744 < p
  · rw [widthM, if_pos h]
    exact (Width_range p w h).mono fun e W' ⟨h1, h2⟩ => ⟨h1, by subst h2; exact Drawn.refl _⟩
  · rw [widthM, if_neg h]
    exact Width_ok p w (by omega) (by omega)
theorem RWidth_all (p : Int) (w : World) : Calls Try.prog 15 #[.int .i64 p] w fun e W' => e = .returned (.tuple #[.int .i64 (widthM p).1, .int .i64 (widthM p).2.1, .int .i64 (widthM p).2.2]) ∧ Drawn w W' := by
  by_cases h : p < 0 ∨ 3744 < p
  · rw [widthM, if_pos h]
    exact (RWidth_range p w h).mono fun e W' ⟨h1, h2⟩ => ⟨h1, by subst h2; exact Drawn.refl _⟩
  · rw [widthM, if_neg h]
    exact RWidth_ok p w (by omega) (by omega)
theorem Longest_all (A : Option Addr) (c : Nat) (b : List Int) (p : Int) (w : World) (hR : Rd w .u8 A b.length b) (hA : ∀ ad, A = some ad → ad.block < w.heap.size) :
    Calls Try.prog 16 #[.slice A b.length c, .int .i64 p] w fun e W' => e = .returned (.tuple #[.int .i64 (longM b p).1, .int .i64 (longM b p).2.1, .int .i64 (longM b p).2.2]) ∧ Below w.heap.size w W' := by
  unfold longM
  by_cases h0 : 3744 < b.length
  · rw [if_pos h0]
    exact (Longest_limit A b.length c p w h0).mono fun e W' ⟨h1, h2⟩ => ⟨h1, by subst h2; exact Below.refl _ _⟩
  · rw [if_neg h0]
    by_cases h : p < 0 ∨ (b.length : Int) < p
    · rw [if_pos h]
      exact (Longest_range A b.length c p w (by omega) h).mono fun e W' ⟨h1, h2⟩ => ⟨h1, by subst h2; exact Below.refl _ _⟩
    · rw [if_neg h]
      obtain ⟨q, rfl⟩ := Int.eq_ofNat_of_zero_le (show 0 ≤ p by omega)
      exact Longest_ok A c b q (by omega) (by omega) w hR hA
theorem RLongest_all (A : Option Addr) (c : Nat) (b : List Int) (p : Int) (w : World) (hR : Rd w .u8 A b.length b) :
    Calls Try.prog 17 #[.slice A b.length c, .int .i64 p] w fun e W' => e = .returned (.tuple #[.int .i64 (longM b p).1, .int .i64 (longM b p).2.1, .int .i64 (longM b p).2.2]) ∧ Drawn w W' := by
  unfold longM
  by_cases h0 : 3744 < b.length
  · rw [if_pos h0]
    exact (RLongest_limit A b.length c p w h0).mono fun e W' ⟨h1, h2⟩ => ⟨h1, by subst h2; exact Drawn.refl _⟩
  · rw [if_neg h0]
    by_cases h : p < 0 ∨ (b.length : Int) < p
    · rw [if_pos h]
      exact (RLongest_range A b.length c p w (by omega) h).mono fun e W' ⟨h1, h2⟩ => ⟨h1, by subst h2; exact Drawn.refl _⟩
    · rw [if_neg h]
      obtain ⟨q, rfl⟩ := Int.eq_ofNat_of_zero_le (show 0 ≤ p by omega)
      exact RLongest_ok A c b q (by omega) (by omega) w hR

theorem below_drawn {n : Nat} {w w1 w2 : World} (h : Below n w w1) (h2 : Drawn w1 w2) : Below n w w2 := by
  obtain ⟨k, rfl⟩ := h2.out
  exact below_drewN h k

set_option maxRecDepth 100000 in
set_option maxHeartbeats 2000000 in
theorem law_PressMatches (A : Option Addr) (c : Nat) (b : List Int) (p : Int) (w : World) (hR : Rd w .u8 A b.length b) (hA : ∀ ad, A = some ad → ad.block < w.heap.size) :
    Calls Try.prog 3 #[.slice A b.length c, .int .i64 p] w fun e W' => e = .returned (.bool true) ∧ Below w.heap.size w W' := by
  have HR := Lib.hid hR
  have HA := Lib.hid hA
  clear hR hA
  obtain ⟨n, hn⟩ : ∃ n, w.heap.size = n := ⟨_, rfl⟩
  rw [hn]
  have HN := Lib.hid (Nat.le_of_eq hn.symm)
  have HN2 := Lib.hid hn
  clear hn
  obtain ⟨x1, x2, x3, hx⟩ : ∃ x1 x2 x3, widthM p = (x1, x2, x3) := ⟨_, _, _, rfl⟩
  obtain ⟨y1, y2, y3, hy⟩ : ∃ y1 y2 y3, longM b p = (y1, y2, y3) := ⟨_, _, _, rfl⟩
  have HX := Lib.hid hx
  have HY := Lib.hid hy
  clear hx hy
  by_cases h1 : 600 < b.length
  · by_cases h2 : b.length ≤ 3744
    · go_enter Try.func3, Try.ntmps3
      go_wp2_with (go_at_call 13; refine (sane_any _).mono ?_; rintro e w1 ⟨rfl, hB⟩)
      go_ret
      exact ⟨rfl, by rw [← HN2.out]; exact hB⟩
    · go_enter Try.func3, Try.ntmps3
      go_wp2_with (first
        | (go_at_call 14; refine (Width_all p _).mono ?_; rintro e w1 ⟨rfl, hD⟩; (have HB1 := Lib.hid (below_drawn (Below.refl n w) hD)); clear hD; rw [HX.out])
        | (go_at_call 15; refine (RWidth_all p _).mono ?_; rintro e w2 ⟨rfl, hD⟩; (have HB2 := Lib.hid (below_drawn HB1.out hD)); clear hD; rw [HX.out])
        | (go_at_call 16; refine (Longest_all A c b p _ (HR.out.below (by rw [HN2.out]; exact HB2.out)) (lt_block HA.out (by rw [HN2.out]; exact Nat.le_trans HN.out HB2.out.size))).mono ?_; rintro e w3 ⟨rfl, hB⟩; (have HB3 := Lib.hid (below_then HB2.out (Nat.le_trans HN.out HB2.out.size) hB)); clear hB; rw [HY.out])
        | (go_at_call 17; refine (RLongest_all A c b p _ (HR.out.below (by rw [HN2.out]; exact HB3.out))).mono ?_; rintro e w4 ⟨rfl, hD⟩; (have HB4 := Lib.hid (below_drawn HB3.out hD)); clear hD; rw [HY.out])
        | (go_at_call 13; refine (sane_any _).mono ?_; rintro e w5 ⟨rfl, hB⟩; (have HB5 := Lib.hid (below_then HB4.out (Nat.le_trans HN.out HB4.out.size) hB)); clear hB))
      go_ret
      exact ⟨rfl, HB5.out⟩
  · go_enter Try.func3, Try.ntmps3
    go_wp2_with (first
      | (go_at_call 14; refine (Width_all p _).mono ?_; rintro e w1 ⟨rfl, hD⟩; (have HB1 := Lib.hid (below_drawn (Below.refl n w) hD)); clear hD; rw [HX.out])
      | (go_at_call 15; refine (RWidth_all p _).mono ?_; rintro e w2 ⟨rfl, hD⟩; (have HB2 := Lib.hid (below_drawn HB1.out hD)); clear hD; rw [HX.out])
      | (go_at_call 16; refine (Longest_all A c b p _ (HR.out.below (by rw [HN2.out]; exact HB2.out)) (lt_block HA.out (by rw [HN2.out]; exact Nat.le_trans HN.out HB2.out.size))).mono ?_; rintro e w3 ⟨rfl, hB⟩; (have HB3 := Lib.hid (below_then HB2.out (Nat.le_trans HN.out HB2.out.size) hB)); clear hB; rw [HY.out])
      | (go_at_call 17; refine (RLongest_all A c b p _ (HR.out.below (by rw [HN2.out]; exact HB3.out))).mono ?_; rintro e w4 ⟨rfl, hD⟩; (have HB4 := Lib.hid (below_drawn HB3.out hD)); clear hD; rw [HY.out])
      | (go_at_call 13; refine (sane_any _).mono ?_; rintro e w5 ⟨rfl, hB⟩; (have HB5 := Lib.hid (below_then HB4.out (Nat.le_trans HN.out HB4.out.size) hB)); clear hB))
    go_ret
    exact ⟨rfl, HB5.out⟩
end Go.Proofs.Ytmlgjilflpdffaa
