/- Walks: PressBounds, PressShortest. -/
import Derived.Test.YtmlgjilflpdffaaWalkR
import Derived.Test.YtmlgjilflpdffaaCodeG
namespace Go.Proofs.Ytmlgjilflpdffaa
open Go.RowKit Go.Deep
set_option linter.unusedVariables false
set_option linter.unusedSimpArgs false

set_option maxRecDepth 100000 in
set_option maxHeartbeats 4000000 in
theorem law_PressBounds (A : Option Addr) (c : Nat) (b : List Int) (w : World) (hR : Rd w .u8 A b.length b) (hA : ∀ ad, A = some ad → ad.block < w.heap.size) (hBy : Bytes b) (hbc : b.length ≤ c) :
    Calls Try.prog 11 #[.slice A b.length c] w fun e W' => e = .returned (.bool true) ∧ Below w.heap.size w W' := by
  have HR := Lib.hid hR
  have HA := Lib.hid hA
  clear hR hA hBy
  obtain ⟨n, hn⟩ : ∃ n, w.heap.size = n := ⟨_, rfl⟩
  rw [hn]
  have HN := Lib.hid (Nat.le_of_eq hn.symm)
  have HN2 := Lib.hid hn
  clear hn
  by_cases h1 : 500 < b.length
  · go_enter Try.func11, Try.ntmps11
    go_wp2_with (go_at_call 13; refine (sane_any _).mono ?_; rintro e w1 ⟨rfl, hB⟩)
    go_ret
    exact ⟨rfl, by rw [← HN2.out]; exact hB⟩
  · have hb : b.length ≤ 3744 := by omega
    have g1 := press_bound hb
    have g2 := best_le_press hb
    have g3 := best_zero hb
    have HLc := Lib.hid (press_len hb)
    have HLd := Lib.hid (bestB_len hb)
    obtain ⟨xs, hxs⟩ : ∃ xs, pressM b = xs := ⟨_, rfl⟩
    obtain ⟨ys, hys⟩ : ∃ ys, bestB b = ys := ⟨_, rfl⟩
    rw [hxs] at g1 g2 HLc
    rw [hys] at g2 g3 HLd
    have HXS := Lib.hid hxs
    have HYS := Lib.hid hys
    have k1 : (xs.length : Int) ≤ (b.length : Int) + ((b.length : Int) + 7).tdiv 8 := by
      rw [Int.tdiv_eq_ediv_of_nonneg (by omega)]; exact g1
    have k2 : (ys.length : Int) ≤ xs.length := by omega
    have k3 : decide ((b.length : Int) = 0) = decide ((ys.length : Int) = 0) := by
      rw [decide_eq_decide]; omega
    have k4 : ((b.length : Int) == 0) = ((ys.length : Int) == 0) := k3
    have K := Lib.hid (And.intro k1 (And.intro k2 (And.intro k3 k4)))
    clear hxs hys g1 g2 g3 k1 k2 k3 k4
    go_enter Try.func11, Try.ntmps11
    go_wp2_with (first
      | (go_at_call 18; refine (Press_ok A c b hb _ HR.out HA.out).mono ?_; rintro e w1 ⟨v, rfl, hO, hB⟩; rw [HXS.out, HN2.out] at hO; rw [HN2.out] at hB; obtain ⟨A1, c1, rfl, hc1, hR1, -⟩ := own_bytes hO (by have := HLc.out; omega); (have HB1 := Lib.hid hB); clear hO hB hR1 hc1)
      | (go_at_call 29; refine (Best_ok A c b hb _ (HR.out.below (by rw [HN2.out]; exact HB1.out)) (lt_block HA.out (by rw [HN2.out]; exact Nat.le_trans HN.out HB1.out.size))).mono ?_; rintro e w2 ⟨v, rfl, hO, hB⟩; rw [HYS.out] at hO; obtain ⟨A2, c2, rfl, hc2, hR2, -⟩ := own_bytes hO (by have := HLd.out; omega); (have HB2 := Lib.hid (below_then HB1.out (Nat.le_trans HN.out HB1.out.size) hB)); clear hO hB hR2 hc2)
      | (go_at_call 13; refine (sane_any _).mono ?_; rintro e w6 ⟨rfl, hB⟩; (have HB6 := Lib.hid (below_then HB2.out (Nat.le_trans HN.out HB2.out.size) hB)); obtain ⟨k1, k2, k3, k4⟩ := K.out; clear hB))
    go_ret
    exact ⟨rfl, HB6.out⟩
end Go.Proofs.Ytmlgjilflpdffaa
