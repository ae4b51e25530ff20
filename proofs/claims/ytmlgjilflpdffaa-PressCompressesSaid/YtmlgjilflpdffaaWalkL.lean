/- Walk: PressGreedy. -/
import Derived.Test.YtmlgjilflpdffaaWalkK
import Derived.Test.YtmlgjilflpdffaaCodeB
namespace Go.Proofs.Ytmlgjilflpdffaa
open Go.RowKit Go.Deep
set_option linter.unusedVariables false
set_option linter.unusedSimpArgs false

theorem RdT.tok {w : World} {ad : Addr} {n : Nat} {ts : List Tok} (h : RdT w (some ad) n ts) (j : Nat) (hj : j < ts.length) (t : Tok) (ht : ts[j] = t) :
    w.cell? (ad.add (j * 4)) = some (.bool t.copy) ∧ w.cell? ⟨(ad.add (j * 4)).block, (ad.add (j * 4)).off + 1, none⟩ = some (.int .u8 t.byte) ∧
    w.cell? ⟨(ad.add (j * 4)).block, (ad.add (j * 4)).off + 2, none⟩ = some (.int .i64 t.back) ∧ w.cell? ⟨(ad.add (j * 4)).block, (ad.add (j * 4)).off + 3, none⟩ = some (.int .i64 t.many) := by
  obtain ⟨ad', e, h0⟩ := h.at_ j hj
  cases e
  rw [ht] at h0
  exact h0

set_option maxRecDepth 100000 in
set_option maxHeartbeats 4000000 in
theorem law_PressGreedy (A : Option Addr) (c : Nat) (b : List Int) (w : World) (hR : Rd w .u8 A b.length b) (hA : ∀ ad, A = some ad → ad.block < w.heap.size) (hBy : Bytes b) (hbc : b.length ≤ c) :
    Calls Try.prog 4 #[.slice A b.length c] w fun e W' => e = .returned (.bool true) ∧ Below w.heap.size w W' := by
  have HR := Lib.hid hR
  have HA := Lib.hid hA
  have HBy := Lib.hid hBy
  clear hR hA hBy
  obtain ⟨n, hn⟩ : ∃ n, w.heap.size = n := ⟨_, rfl⟩
  rw [hn]
  have HN := Lib.hid (Nat.le_of_eq hn.symm)
  have HN2 := Lib.hid hn
  clear hn
  by_cases h1 : 500 < b.length
  · go_enter Try.func4, Try.ntmps4
    go_wp2_with (go_at_call 13; refine (sane_any _).mono ?_; rintro e w1 ⟨rfl, hB⟩)
    go_ret
    exact ⟨rfl, by rw [← HN2.out]; exact hB⟩
  · have hb : b.length ≤ 3744 := by omega
    obtain ⟨ts, hts⟩ : ∃ ts, greedyM b (b.length + 1) 0 = ts := ⟨_, rfl⟩
    obtain ⟨xs, hxs⟩ : ∃ xs, pressM b = xs := ⟨_, rfl⟩
    have HTok := Lib.hid (press_tokens hb)
    have HXB := Lib.hid (press_bytes hb HBy.out)
    have HXL := Lib.hid (press_len hb)
    have HTL := Lib.hid (greedy_len hb)
    rw [hts, hxs] at HTok
    rw [hxs] at HXB HXL
    rw [hts] at HTL
    have HTS := Lib.hid hts
    have HXS := Lib.hid hxs
    clear hts hxs
    go_enter Try.func4, Try.ntmps4
    go_wp2_with (first
      | (go_at_call 18; refine (Press_ok A c b hb _ HR.out HA.out).mono ?_; rintro e w1 ⟨v, rfl, hO, hB⟩; rw [HXS.out, HN2.out] at hO; rw [HN2.out] at hB; obtain ⟨A1, c1, rfl, hc1, hR1, -⟩ := own_bytes hO (by have := HXL.out; omega); (have HR1 := Lib.hid hR1); (have HC1 := Lib.hid hc1); (have HB1 := Lib.hid hB); clear hO hB hR1 hc1)
      | (go_at_call 19; refine (Tokens_ok A1 c1 xs ts b.length w1 HC1.out HR1.out HXB.out (by have := HXL.out; omega) HTok.out).mono ?_; rintro e w2 ⟨v, rfl, hO, hB⟩; obtain ⟨A2, c2, rfl, hc2, hT⟩ := own_toks hO rfl (by have := HTL.out; omega); (have HT := Lib.hid hT); (have HC2 := Lib.hid hc2); (have HB2 := Lib.hid (below_then HB1.out (Nat.le_trans HN.out HB1.out.size) hB)); clear hO hB hT hc2))
    go_loopg [7, 8] ts.length (fun kq v7 v8 W => ∃ (i p f : Nat), v7 = .int .i64 p ∧ v8 = .int .i64 i ∧ kq = ts.length - i ∧ i ≤ ts.length ∧ p ≤ b.length ∧ Hid (ts.drop i = greedyM b f p) ∧ Hid (b.length < f + p) ∧ Hid (Below w2.heap.size w2 W))
    case atStart => exact ⟨0, 0, b.length + 1, rfl, rfl, rfl, by omega, by omega, Lib.hid (by rw [HTS.out]; rfl), Lib.hid (by omega), Lib.hid (Below.refl _ _)⟩
    case round =>
      obtain ⟨i, p, f, rfl, rfl, hkq, hi, hp, HD, HF, HW⟩ := hrel
      by_cases hlt : i < ts.length
      · have hli : (i : Int) < ts.length := by omega
        have htl := HTL.out
        have hdrop : ts.drop i = ts[i] :: ts.drop (i + 1) := List.drop_eq_getElem_cons hlt
        have hD := HD.out
        rw [hdrop] at hD
        cases f with
        | zero => exact absurd HF.out (by omega)
        | succ f =>
        unfold greedyM at hD
        by_cases hpl : p < b.length
        · rw [if_pos hpl] at hD
          have hpr := longest_props b p hp
          obtain ⟨ad, e, -⟩ := HT.out.at_ i hlt
          subst e
          by_cases h3 : 3 ≤ (longestM b p).2
          · rw [if_pos h3] at hD
            injection hD with hti hD2
            obtain ⟨l1, hl1⟩ : ∃ l1, (longestM b p).1 = l1 := ⟨_, rfl⟩
            obtain ⟨l2, hl2⟩ : ∃ l2, (longestM b p).2 = l2 := ⟨_, rfl⟩
            rw [hl1, hl2] at hti
            rw [hl2] at hD2 h3 hpr
            have hpl2 := hpr.2.1
            have HL1 := Lib.hid hl1
            have HL2 := Lib.hid hl2
            have HTI := Lib.hid hti
            have HD2 := Lib.hid hD2
            have h3i : (3 : Int) ≤ l2 := by omega
            clear hl1 hl2 hti hD2 hdrop HD hpr
            go_wp2_with (go_at_call 16; refine (Longest_ok A c b p hp hb _ (HR.out.below (by rw [HN2.out]; exact below_then HB2.out (Nat.le_trans HN.out HB2.out.size) HW.out)) (lt_block HA.out (by have := HW.out.size; have := HB2.out.size; have := HN2.out; omega))).mono ?_; rintro e w3 ⟨rfl, hB⟩; rw [HL1.out, HL2.out]; (have HW3 := Lib.hid (below_then HW.out HW.out.size hB)); obtain ⟨h0, -, h2, h4⟩ := (HT.out.below HW3.out).tok i hlt _ HTI.out; simp only [cpy] at h0 h2 h4; clear hB)
            go_roundg (ts.length - (i + 1))
            case measure => omega
            case rel => exact ⟨i + 1, p + l2, f, by go_num, by go_num, rfl, by omega, by omega, HD2, Lib.hid (by have := HF.out; omega), HW3⟩
          · rw [if_neg h3] at hD
            injection hD with hti hD2
            obtain ⟨l1, hl1⟩ : ∃ l1, (longestM b p).1 = l1 := ⟨_, rfl⟩
            obtain ⟨l2, hl2⟩ : ∃ l2, (longestM b p).2 = l2 := ⟨_, rfl⟩
            rw [hl2] at h3
            have HL1 := Lib.hid hl1
            have HL2 := Lib.hid hl2
            have HTI := Lib.hid hti
            have HD2 := Lib.hid hD2
            have h3i : ¬ (3 : Int) ≤ l2 := by omega
            clear hl1 hl2 hti hD2 hdrop HD hpr
            go_wp2_with (go_at_call 16; refine (Longest_ok A c b p hp hb _ (HR.out.below (by rw [HN2.out]; exact below_then HB2.out (Nat.le_trans HN.out HB2.out.size) HW.out)) (lt_block HA.out (by have := HW.out.size; have := HB2.out.size; have := HN2.out; omega))).mono ?_; rintro e w3 ⟨rfl, hB⟩; rw [HL1.out, HL2.out]; (have HW3 := Lib.hid (below_then HW.out HW.out.size hB)); obtain ⟨h0, -, h2, h4⟩ := (HT.out.below HW3.out).tok i hlt _ HTI.out; simp only [lit] at h0 h2 h4; clear hB)
            go_roundg (ts.length - (i + 1))
            case measure => omega
            case rel => exact ⟨i + 1, p + 1, f, by go_num, by go_num, rfl, by omega, by omega, HD2, Lib.hid (by have := HF.out; omega), HW3⟩
        · rw [if_neg hpl] at hD
          cases hD
      · obtain rfl : i = ts.length := by omega
        have hpb : p = b.length := by
          have hD := HD.out
          rw [List.drop_length] at hD
          cases f with
          | zero => exact absurd HF.out (by omega)
          | succ f =>
            unfold greedyM at hD
            by_cases hpl : p < b.length
            · rw [if_pos hpl] at hD
              split at hD <;> cases hD
            · omega
        subst hpb
        go_wp2_with (go_at_call 13; refine (sane_any _).mono ?_; rintro e w5 ⟨rfl, hB⟩; (have HB5 := Lib.hid (below_then (below_then HB2.out (Nat.le_trans HN.out HB2.out.size) HW.out) (by have := HW.out.size; have := HB2.out.size; have := HN.out; omega) hB)); clear hB)
        go_ret
        exact ⟨rfl, HB5.out⟩
end Go.Proofs.Ytmlgjilflpdffaa
