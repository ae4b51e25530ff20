/- Walk: PressBack. -/
import Derived.Test.YtmlgjilflpdffaaWalkR
import Derived.Test.YtmlgjilflpdffaaCodeE
namespace Go.Proofs.Ytmlgjilflpdffaa
open Go.RowKit Go.Deep
set_option linter.unusedVariables false
set_option linter.unusedSimpArgs false

set_option maxRecDepth 100000 in
set_option maxHeartbeats 4000000 in
theorem law_PressBack (A : Option Addr) (c : Nat) (b : List Int) (w : World) (hR : Rd w .u8 A b.length b) (hA : ∀ ad, A = some ad → ad.block < w.heap.size) (hBy : Bytes b) (hbc : b.length ≤ c) :
    Calls Try.prog 9 #[.slice A b.length c] w fun e W' => e = .returned (.bool true) ∧ Below w.heap.size w W' := by
  have HR := Lib.hid hR
  have HA := Lib.hid hA
  have HBy := Lib.hid hBy
  clear hR hA hBy
  obtain ⟨n, hn⟩ : ∃ n, w.heap.size = n := ⟨_, rfl⟩
  rw [hn]
  have HN := Lib.hid (Nat.le_of_eq hn.symm)
  have HN2 := Lib.hid hn
  clear hn
  by_cases h1 : 500 < b.length
  · go_enter Try.func9, Try.ntmps9
    go_wp2_with (go_at_call 13; refine (sane_any _).mono ?_; rintro e w1 ⟨rfl, hB⟩)
    go_ret
    exact ⟨rfl, by rw [← HN2.out]; exact hB⟩
  · have hb : b.length ≤ 3744 := by omega
    have HTc := Lib.hid (press_tokens hb)
    have HXc := Lib.hid (press_bytes hb HBy.out)
    have HLc := Lib.hid (press_len hb)
    have HGc := Lib.hid (greedy_len hb)
    have HPc := Lib.hid (greedy_pos b hb 4 (b.length + 1) 0 (by omega) (by omega))
    have HDc := Lib.hid (press_data b)
    have HTd := Lib.hid (best_tokens hb)
    have HXd := Lib.hid (bestB_bytes hb HBy.out)
    have HLd := Lib.hid (bestB_len hb)
    have HGd := Lib.hid (bestT_len hb)
    have HPd := Lib.hid (bestT_pos b (costM b) hb 4 (b.length + 1) 0 (by omega) (by omega))
    have HDd := Lib.hid (bestB_data b hb)
    obtain ⟨xs, hxs⟩ : ∃ xs, pressM b = xs := ⟨_, rfl⟩
    obtain ⟨ts, hts⟩ : ∃ ts, greedyM b (b.length + 1) 0 = ts := ⟨_, rfl⟩
    obtain ⟨ys, hys⟩ : ∃ ys, bestB b = ys := ⟨_, rfl⟩
    obtain ⟨us, hus⟩ : ∃ us, bestT b (costM b) (b.length + 1) 0 = us := ⟨_, rfl⟩
    rw [hxs, hts] at HTc
    rw [hxs] at HXc HLc
    rw [hts] at HGc HPc HDc
    rw [hys, hus] at HTd
    rw [hys] at HXd HLd
    rw [hus] at HGd HPd HDd
    have HXS := Lib.hid hxs
    have HYS := Lib.hid hys
    clear hxs hts hys hus
    go_enter Try.func9, Try.ntmps9
    go_wp2_with (first
      | (go_at_call 18; refine (Press_ok A c b hb _ HR.out HA.out).mono ?_; rintro e w1 ⟨v, rfl, hO, hB⟩; rw [HXS.out, HN2.out] at hO; rw [HN2.out] at hB; obtain ⟨A1, c1, rfl, hc1, hR1, -⟩ := own_bytes hO (by have := HLc.out; omega); (have HR1 := Lib.hid hR1); (have HC1 := Lib.hid hc1); (have HB1 := Lib.hid hB); clear hO hB hR1 hc1)
      | (go_at_call 29; refine (Best_ok A c b hb _ (HR.out.below (by rw [HN2.out]; exact HB1.out)) (lt_block HA.out (by rw [HN2.out]; exact Nat.le_trans HN.out HB1.out.size))).mono ?_; rintro e w2 ⟨v, rfl, hO, hB⟩; rw [HYS.out] at hO; obtain ⟨A2, c2, rfl, hc2, hR2, -⟩ := own_bytes hO (by have := HLd.out; omega); (have HR1b := Lib.hid (HR1.out.below hB)); (have HR2 := Lib.hid hR2); (have HC2 := Lib.hid hc2); (have HB2 := Lib.hid (below_then HB1.out (Nat.le_trans HN.out HB1.out.size) hB)); clear hO hB hR2 hc2)
      | ((have hgd := HR3); clear hgd; go_at_call 24; refine (Expand_ok A2 c2 ys us b.length _ HC2.out HR2b.out HXd.out (by have := HLd.out; omega) HTd.out (by have := HGd.out; omega) (by omega) (by omega) HPd.out).mono ?_; rintro e w4 ⟨v, rfl, hO, hB⟩; rw [HDd.out] at hO; obtain ⟨A4, c4, rfl, hc4, hR4, -⟩ := own_bytes hO (by omega); (have HR3b := Lib.hid (HR3.out.below hB)); (have HR2c := Lib.hid (HR2b.out.below hB)); (have HR4 := Lib.hid hR4); (have HC4 := Lib.hid hc4); (have HB4 := Lib.hid (below_then HB3.out (Nat.le_trans HN.out HB3.out.size) hB)); clear hO hB hR4 hc4)
      | ((have hgd := HR2); clear hgd; go_at_call 24; refine (Expand_ok A1 c1 xs ts b.length _ HC1.out HR1b.out HXc.out (by have := HLc.out; omega) HTc.out (by have := HGc.out; omega) (by omega) (by omega) HPc.out).mono ?_; rintro e w3 ⟨v, rfl, hO, hB⟩; rw [HDc.out] at hO; obtain ⟨A3, c3, rfl, hc3, hR3, -⟩ := own_bytes hO (by omega); (have HR2b := Lib.hid (HR2.out.below hB)); (have HR3 := Lib.hid hR3); (have HC3 := Lib.hid hc3); (have HB3 := Lib.hid (below_then HB2.out (Nat.le_trans HN.out HB2.out.size) hB)); clear hO hB hR3 hc3)
      | (go_at_call 26; refine (Size_ok A2 c2 ys us b.length _ HC2.out HR2c.out HXd.out (by have := HLd.out; omega) HTd.out).mono ?_; rintro e w5 ⟨rfl, hB⟩; (have HR3c := Lib.hid (HR3b.out.below hB)); (have HR4b := Lib.hid (HR4.out.below hB)); (have HB5 := Lib.hid (below_then HB4.out (Nat.le_trans HN.out HB4.out.size) hB)); clear hB)
      | (go_at_call 13; refine (sane_any _).mono ?_; rintro e w6 ⟨rfl, hB⟩; (have HB6 := Lib.hid (below_then HB5.out (Nat.le_trans HN.out HB5.out.size) hB)); (have k3 := (HR3c.out.below hB).str2 (c := c3)); (have k4 := (HR4b.out.below hB).str2 (c := c4)); (have k0 := (HR.out.below (by rw [HN2.out]; exact HB6.out)).str2 (c := c)); generalize strOfNums b = sx at k3 k4 k0; clear hB))
    go_ret
    exact ⟨rfl, HB6.out⟩
end Go.Proofs.Ytmlgjilflpdffaa
