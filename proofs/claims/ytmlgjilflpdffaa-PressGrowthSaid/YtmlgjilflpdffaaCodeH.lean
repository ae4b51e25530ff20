/- Plain: a prefix costs at most one bit more. -/
import Derived.Test.YtmlgjilflpdffaaCodeG
namespace Go.Proofs.Ytmlgjilflpdffaa
open Go.RowKit
set_option linter.unusedVariables false
set_option linter.unusedSimpArgs false

theorem copyM_add (k : Int) : ∀ (r s : Nat) (out : List Int), copyM k (r + s) out = copyM k s (copyM k r out)
  | 0, s, out => by simp [copyM]
  | r + 1, s, out => by
    rw [show r + 1 + s = (r + s) + 1 from by omega]
    simp only [copyM]
    exact copyM_add k r s _
theorem lit_data (b : List Int) (p : Nat) (hp : p < b.length) (ts : List Tok) : dataM (b.take p) (lit (b.getD p 0) :: ts) = dataM (b.take (p + 1)) ts := by
  simp only [dataM, lit, Bool.false_eq_true, if_false]
  rw [← take_snoc b p hp]
  rfl

theorem cut_tokens (b : List Int) (hb : b.length ≤ 3744) (bad : Int) (n : Nat) (hn : n ≤ b.length) : ∀ (ts : List Tok) (p : Nat), p ≤ n → posM bad p ts = .ok (b.length : Int) → dataM (b.take p) ts = b →
    ∃ us, posM bad p us = .ok (n : Int) ∧ dataM (b.take p) us = b.take n ∧ bitsT us ≤ bitsT ts + 1
  | ts, p, hp, h, hd => by
    by_cases hpn : p = n
    · subst hpn
      exact ⟨[], rfl, rfl, by have := bitsT_nn ts; simp [bitsT]; omega⟩
    · cases ts with
      | nil =>
        have hpe : (p : Int) = b.length := by simpa [posM] using h
        omega
      | cons t ts =>
        simp only [posM] at h
        have hl : (b.take p).length = p := by simp; omega
        cases hv : validM t p bad with
        | error e => rw [hv] at h; cases h
        | ok q =>
          rw [hv] at h
          have hv2 : validM t ((b.take p).length : Int) bad = .ok q := by rw [hl]; exact hv
          have hone := data_one hv2
          simp only [dataM] at hd
          have hpre := data_pre ts (copyM t.back t.many.toNat (if t.copy = true then b.take p else b.take p ++ [t.byte]))
          rw [hd] at hpre
          have htake := pre_take hpre
          obtain ⟨hq, hcase⟩ := valid_inv hv
          have hpos := valid_pos hv (by omega)
          obtain ⟨q', rfl⟩ := Int.eq_ofNat_of_zero_le (show 0 ≤ q by omega)
          have hlen : (copyM t.back t.many.toNat (if t.copy = true then b.take p else b.take p ++ [t.byte])).length = q' := by omega
          rw [hlen] at htake
          have hq'b : q' ≤ b.length := by rw [← hlen]; exact hpre.length_le
          have hbt := bitsT_nn ts
          by_cases hqn : q' ≤ n
          · rw [htake] at hd
            obtain ⟨us, u1, u2, u3⟩ := cut_tokens b hb bad n hn ts q' hqn h hd
            refine ⟨t :: us, ?_, ?_, ?_⟩
            · simp only [posM, hv, u1]
            · simp only [dataM]; rw [htake, u2]
            · simp only [bitsT]; omega
          · rcases hcase with ⟨h2, h4, h3⟩ | ⟨h2, h4, h5, h6, h7, h8, h9⟩
            · exfalso
              unfold sizT at hq
              rw [h2, if_neg (by simp)] at hq
              omega
            · obtain ⟨k, hk⟩ := Int.eq_ofNat_of_zero_le (show 0 ≤ t.back by omega)
              obtain ⟨m, hm⟩ := Int.eq_ofNat_of_zero_le (show 0 ≤ t.many by omega)
              have hs : q' = p + m := by
                unfold sizT at hq
                rw [if_pos h2] at hq
                omega
              rw [h2, if_pos rfl, hk, hm, Int.toNat_natCast] at htake
              have hb17 : bitT t = 17 := by unfold bitT; rw [if_pos h2]
              simp only [bitsT]
              rw [hb17]
              obtain ⟨r, hr⟩ : ∃ r, n = p + r := ⟨n - p, by omega⟩
              by_cases hr3 : 3 ≤ r
              · refine ⟨[cpy (k : Int) (r : Int)], ?_, ?_, ?_⟩
                · have hvr : validM (cpy (k : Int) (r : Int)) p bad = .ok (n : Int) := by
                    unfold validM cpy
                    simp only [Bool.true_eq_false, if_false]
                    rw [if_neg (by omega), if_neg (by omega)]
                    rw [hr]; simp
                  simp only [posM, hvr]
                · simp only [dataM, cpy, if_true, Int.toNat_natCast]
                  have hadd := copyM_add (k : Int) r (m - r) (b.take p)
                  rw [show r + (m - r) = m from by omega, htake] at hadd
                  have hp2 := copyM_pre (k : Int) (m - r) (copyM (k : Int) r (b.take p))
                  rw [← hadd] at hp2
                  have := pre_take hp2
                  rw [copyM_len, hl] at this
                  rw [this, List.take_take, hr]
                  congr 1
                  omega
                · simp only [bitsT, bitT, cpy, if_true]; omega
              · have hr12 : r = 1 ∨ r = 2 := by omega
                rcases hr12 with rfl | rfl
                · refine ⟨[lit (b.getD p 0)], ?_, ?_, ?_⟩
                  · simp only [posM, lit_valid (b.getD p 0) p bad (by omega)]
                    rw [hr]; simp
                  · rw [lit_data b p (by omega), hr]; rfl
                  · simp only [bitsT, bitT, lit, Bool.false_eq_true, if_false]; omega
                · refine ⟨[lit (b.getD p 0), lit (b.getD (p + 1) 0)], ?_, ?_, ?_⟩
                  · have e2 := lit_valid (b.getD (p + 1) 0) ((p : Int) + 1) bad (by omega)
                    simp only [posM, lit_valid (b.getD p 0) p bad (by omega), e2]
                    rw [hr]; simp; omega
                  · rw [lit_data b p (by omega), lit_data b (p + 1) (by omega), hr]; rfl
                  · simp only [bitsT, bitT, lit, Bool.false_eq_true, if_false]; omega
/-- A prefix needs at most one byte more. -/
theorem growth {b : List Int} (hb : b.length ≤ 3744) (n : Nat) (hn : n ≤ b.length) : (bestB (b.take n)).length ≤ (bestB b).length + 1 := by
  have hl : (b.take n).length = n := by simp; omega
  obtain ⟨us, h1, h2, h3⟩ := cut_tokens b hb 1 n hn (bestT b (costM b) (b.length + 1) 0) 0 (by omega) (by simpa using bestT_pos b (costM b) hb 1 (b.length + 1) 0 (by omega) (by omega)) (by simpa using bestB_data b hb)
  have h4 := best_bits b hb (b.length + 1) 0 (by omega) (by omega)
  have h5 := cost0_le (b := b.take n) (ts := us) (bad := 1) (by rw [hl]; exact h1) (by simpa using h2)
  have h6 := bestB_lenC b hb
  have h7 := bestB_lenC (b.take n) (by omega)
  omega
end Go.Proofs.Ytmlgjilflpdffaa
