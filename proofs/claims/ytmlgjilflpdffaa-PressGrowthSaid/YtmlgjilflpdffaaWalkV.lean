/- Walk: PressGrowth. -/
import Derived.Test.YtmlgjilflpdffaaWalkU
import Derived.Test.YtmlgjilflpdffaaCodeH
namespace Go.Proofs.Ytmlgjilflpdffaa
open Go.RowKit Go.Deep
set_option linter.unusedVariables false
set_option linter.unusedSimpArgs false

set_option maxRecDepth 100000 in
set_option maxHeartbeats 4000000 in
theorem law_PressGrowth (A : Option Addr) (c : Nat) (b : List Int) (p : Int) (w : World) (hR : Rd w .u8 A b.length b) (hA : ∀ ad, A = some ad → ad.block < w.heap.size) (hBy : Bytes b) (hbc : b.length ≤ c) (wp : (Lit.int .i64 p).wf = true) :
    Calls Try.prog 12 #[.slice A b.length c, .int .i64 p] w fun e W' => e = .returned (.bool true) ∧ Below w.heap.size w W' := by
  have HR := Lib.hid hR
  have HA := Lib.hid hA
  clear hR hA hBy wp
  obtain ⟨n, hn⟩ : ∃ n, w.heap.size = n := ⟨_, rfl⟩
  rw [hn]
  have HN := Lib.hid (Nat.le_of_eq hn.symm)
  have HN2 := Lib.hid hn
  clear hn
  by_cases h1 : 500 < b.length
  · go_enter Try.func12, Try.ntmps12
    go_wp2_with (go_at_call 13; refine (sane_any _).mono ?_; rintro e w1 ⟨rfl, hB⟩)
    go_ret
    exact ⟨rfl, by rw [← HN2.out]; exact hB⟩
  · by_cases h2 : p < 0
    · go_enter Try.func12, Try.ntmps12
      go_wp2_with (go_at_call 13; refine (sane_any _).mono ?_; rintro e w1 ⟨rfl, hB⟩)
      go_ret
      exact ⟨rfl, by rw [← HN2.out]; exact hB⟩
    · by_cases h3 : (b.length : Int) < p
      · go_enter Try.func12, Try.ntmps12
        go_wp2_with (go_at_call 13; refine (sane_any _).mono ?_; rintro e w1 ⟨rfl, hB⟩)
        go_ret
        exact ⟨rfl, by rw [← HN2.out]; exact hB⟩
      · obtain ⟨k, rfl⟩ := Int.eq_ofNat_of_zero_le (show 0 ≤ p by omega)
        have hk : k ≤ b.length := by omega
        have hb : b.length ≤ 3744 := by omega
        have hg := growth hb k hk
        obtain ⟨d, hd⟩ : ∃ d, b.take k = d := ⟨_, rfl⟩
        have hdl : d.length = k := by rw [← hd]; simp; omega
        rw [hd] at hg
        have hdb : d.length ≤ 3744 := by omega
        have HLb := Lib.hid (bestB_len hb)
        have HLd := Lib.hid (bestB_len hdb)
        have HRd : Hid (Rd w .u8 A d.length d) := Lib.hid (by rw [hdl, ← hd]; exact HR.out.take k hk)
        obtain ⟨xs, hxs⟩ : ∃ xs, bestB b = xs := ⟨_, rfl⟩
        obtain ⟨ys, hys⟩ : ∃ ys, bestB d = ys := ⟨_, rfl⟩
        rw [hxs] at hg HLb
        rw [hys] at hg HLd
        have HXS := Lib.hid hxs
        have HYS := Lib.hid hys
        have HDL := Lib.hid hdl
        have K : Hid ((ys.length : Int) ≤ (xs.length : Int) + 1) := Lib.hid (by omega)
        have hki : (k : Int) ≤ b.length := by omega
        have ks : ∀ w, (Instr.slice 22 (.slice A b.length c) none (some (.int .i64 k)) none).run Try.prog w = .ok (.slice A d.length c) w := fun w => by rw [hdl]; exact run_to22 A _ c k (Nat.le_trans hk hbc) w
        have hkc : k ≤ c := Nat.le_trans hk hbc
        clear hxs hys hd hg hdl
        go_enter Try.func12, Try.ntmps12
        go_wp2_with (first
          | ((have hgd := HB1); clear hgd; go_at_call 29; refine (Best_ok A c d hdb _ (HRd.out.below (by rw [HN2.out]; exact HB1.out)) (lt_block HA.out (by rw [HN2.out]; exact Nat.le_trans HN.out HB1.out.size))).mono ?_; rintro e w2 ⟨v, rfl, hO, hB⟩; rw [HYS.out] at hO; obtain ⟨A2, c2, rfl, hc2, hR2, -⟩ := own_bytes hO (by have := HLd.out; omega); (have HB2 := Lib.hid (below_then HB1.out (Nat.le_trans HN.out HB1.out.size) hB)); clear hO hB hR2 hc2)
          | (go_at_call 29; refine (Best_ok A c b hb _ HR.out HA.out).mono ?_; rintro e w1 ⟨v, rfl, hO, hB⟩; rw [HXS.out, HN2.out] at hO; rw [HN2.out] at hB; obtain ⟨A1, c1, rfl, hc1, hR1, -⟩ := own_bytes hO (by have := HLb.out; omega); (have HB1 := Lib.hid hB); clear hO hB hR1 hc1)
          | (go_at_call 13; refine (sane_any _).mono ?_; rintro e w5 ⟨rfl, hB⟩; (have HB5 := Lib.hid (below_then HB2.out (Nat.le_trans HN.out HB2.out.size) hB)); (have k1 := K.out); (have k2 := HLb.out); clear hB))
        go_ret
        exact ⟨rfl, HB5.out⟩
end Go.Proofs.Ytmlgjilflpdffaa
