/- Walk: PressShortest. -/
import Derived.Test.YtmlgjilflpdffaaWalkT
import Derived.Test.YtmlgjilflpdffaaWalkO
namespace Go.Proofs.Ytmlgjilflpdffaa
open Go.RowKit Go.Deep
set_option linter.unusedVariables false
set_option linter.unusedSimpArgs false

theorem own_lt {w : World} {base n c : Nat} {A : Option Addr} {xs : List Value} (h : w.ownsRow base 5 1 (.slice A n c) n xs) : ∀ ad, A = some ad → ad.block < w.heap.size := by
  rintro ad rfl
  obtain ⟨h1, ⟨h2, -⟩ | ⟨g, cap, cur, h2, hg, hh, r⟩⟩ := h
  · cases h2
  · cases h2
    exact (Array.getElem?_eq_some_iff.1 hh).1

set_option maxRecDepth 100000 in
set_option maxHeartbeats 4000000 in
theorem law_PressShortest (A : Option Addr) (c : Nat) (xs : List Int) (w : World) (hR : Rd w .u8 A xs.length xs) (hA : ∀ ad, A = some ad → ad.block < w.heap.size) (hBy : Bytes xs) (hbc : xs.length ≤ c) :
    Calls Try.prog 10 #[.slice A xs.length c] w fun e W' => e = .returned (.bool true) ∧ Below w.heap.size w W' := by
  have HR := Lib.hid hR
  have HBC := Lib.hid hbc
  have HBy := Lib.hid hBy
  clear hR hA hBy hbc
  obtain ⟨n, hn⟩ : ∃ n, w.heap.size = n := ⟨_, rfl⟩
  rw [hn]
  have HN := Lib.hid (Nat.le_of_eq hn.symm)
  have HN2 := Lib.hid hn
  clear hn
  by_cases h1 : 1000 < xs.length
  · go_enter Try.func10, Try.ntmps10
    go_wp2_with (go_at_call 13; refine (sane_any _).mono ?_; rintro e w1 ⟨rfl, hB⟩)
    go_ret
    exact ⟨rfl, by rw [← HN2.out]; exact hB⟩
  · cases hT : tokensM (xs.length + 1) xs 0 [] with
    | error k =>
      have hk := tokens_err_of _ _ _ _ _ (Nat.lt_succ_self _) hT
      have hk0 : (k == 0) = false := by simp; omega
      have hk1 : ¬ k = 0 := by omega
      have HTo := Lib.hid hT
      clear hT hk
      go_enter Try.func10, Try.ntmps10
      go_wp2_with (first
        | (go_at_call 24; refine (Expand_err A c xs k _ HBC.out HR.out HBy.out (by omega) HTo.out).mono ?_; rintro e w1 ⟨rfl, hB⟩; rw [HN2.out] at hB; (have HB1 := Lib.hid hB); clear hB)
        | (go_at_call 13; refine (sane_any _).mono ?_; rintro e w5 ⟨rfl, hB⟩; (have HB5 := Lib.hid (below_then HB1.out (Nat.le_trans HN.out HB1.out.size) hB)); clear hB))
      go_ret
      exact ⟨rfl, HB5.out⟩
    | ok tp =>
      obtain ⟨ts, q⟩ := tp
      obtain ⟨hb1, hb2, hb3⟩ := build_tokens hT HBy.out 1
      have hTL : ts.length ≤ 3744 := by
        have h1 := pos_len 1 _ _ _ hb1 (by omega)
        by_cases hn : ts = []
        · subst hn; simp
        · have := h1.2 hn; omega
      have hq := pos_at 1 ts 0 q hb1 (by omega) (by omega)
      have hdl := data_len 1 ts [] q (by simpa using hb1)
      obtain ⟨b, hbd⟩ : ∃ b, dataM [] ts = b := ⟨_, rfl⟩
      rw [hbd] at hdl
      have hb : b.length ≤ 3744 := by omega
      have hle : (bestB b).length ≤ xs.length := by
        have := best_le (b := b) hb (ts := ts) (bad := 1) (by rw [hdl]; exact hb1) hbd
        rw [hb2] at this
        exact this
      have hle2 := best_le_press hb
      have HLc := Lib.hid (press_len hb)
      have HLd := Lib.hid (bestB_len hb)
      obtain ⟨zs, hzs⟩ : ∃ zs, pressM b = zs := ⟨_, rfl⟩
      obtain ⟨ys, hys⟩ : ∃ ys, bestB b = ys := ⟨_, rfl⟩
      rw [hys] at hle hle2 HLd
      rw [hzs] at hle2 HLc
      have HZS := Lib.hid hzs
      have HYS := Lib.hid hys
      have k1 : (ys.length : Int) ≤ xs.length := by omega
      have k2 : (ys.length : Int) ≤ zs.length := by omega
      have K := Lib.hid (And.intro k1 k2)
      have HBD := Lib.hid hbd
      have HTo := Lib.hid hT
      have HPQ := Lib.hid (posM_bad 1 4 _ _ _ hb1)
      have HQ := Lib.hid hq
      clear hT hb1 hb2 hb3 hq hdl hbd hle hle2 hzs hys k1 k2
      by_cases hbig : 500 < b.length
      · go_enter Try.func10, Try.ntmps10
        go_wp2_with (first
          | (go_at_call 24; refine (Expand_ok A c xs ts q _ HBC.out HR.out HBy.out (by omega) HTo.out (by omega) HQ.out.1 HQ.out.2 HPQ.out).mono ?_; rintro e w1 ⟨v, rfl, hO, hB⟩; rw [HBD.out, HN2.out] at hO; rw [HN2.out] at hB; obtain ⟨A1, c1, rfl, hc1, hR1, -⟩ := own_bytes hO (by omega); (have HB1 := Lib.hid hB); clear hO hB hR1 hc1)
          | (go_at_call 13; refine (sane_any _).mono ?_; rintro e w5 ⟨rfl, hB⟩; (have HB5 := Lib.hid (below_then HB1.out (Nat.le_trans HN.out HB1.out.size) hB)); clear hB))
        go_ret
        exact ⟨rfl, HB5.out⟩
      · go_enter Try.func10, Try.ntmps10
        go_wp2_with (first
          | (go_at_call 24; refine (Expand_ok A c xs ts q _ HBC.out HR.out HBy.out (by omega) HTo.out (by omega) HQ.out.1 HQ.out.2 HPQ.out).mono ?_; rintro e w1 ⟨v, rfl, hO, hB⟩; rw [HBD.out, HN2.out] at hO; rw [HN2.out] at hB; obtain ⟨A1, c1, rfl, hc1, hR1, -⟩ := own_bytes hO (by omega); (have HL1 := Lib.hid (own_lt hO)); (have HR1 := Lib.hid hR1); (have HB1 := Lib.hid hB); clear hO hB hR1 hc1)
          | (go_at_call 29; refine (Best_ok A1 c1 b hb _ HR1.out HL1.out).mono ?_; rintro e w2 ⟨v, rfl, hO, hB⟩; rw [HYS.out] at hO; obtain ⟨A2, c2, rfl, hc2, hR2, -⟩ := own_bytes hO (by have := HLd.out; omega); (have HR1b := Lib.hid (HR1.out.below hB)); (have HL1b := Lib.hid (lt_block HL1.out hB.size)); (have HB2 := Lib.hid (below_then HB1.out (Nat.le_trans HN.out HB1.out.size) hB)); clear hO hB hR2 hc2)
          | (go_at_call 18; refine (Press_ok A1 c1 b hb _ HR1b.out HL1b.out).mono ?_; rintro e w3 ⟨v, rfl, hO, hB⟩; rw [HZS.out] at hO; obtain ⟨A3, c3, rfl, hc3, hR3, -⟩ := own_bytes hO (by have := HLc.out; omega); (have HB3 := Lib.hid (below_then HB2.out (Nat.le_trans HN.out HB2.out.size) hB)); clear hO hB hR3 hc3)
          | (go_at_call 13; refine (sane_any _).mono ?_; rintro e w5 ⟨rfl, hB⟩; (have HB5 := Lib.hid (below_then HB3.out (Nat.le_trans HN.out HB3.out.size) hB)); obtain ⟨k1, k2⟩ := K.out; clear hB))
        go_ret
        exact ⟨rfl, HB5.out⟩
end Go.Proofs.Ytmlgjilflpdffaa
