/- Walks: the document's Width, match, Longest. -/
import Derived.Test.YtmlgjilflpdffaaWalkI
namespace Go.Proofs.Ytmlgjilflpdffaa
open Go.RowKit Go.Deep
set_option linter.unusedVariables false
set_option linter.unusedSimpArgs false

set_option maxRecDepth 100000 in
set_option maxHeartbeats 1000000 in
theorem RWidth_range (p : Int) (w : World) (hp : p < 0 ∨ 3744 < p) :
    Calls Try.prog 15 #[.int .i64 p] w fun e W' => e = .returned (.tuple #[.int .i64 0, .int .i64 0, .int .i64 24]) ∧ w = W' := by
  rcases hp with hp | hp
  · go_enter Try.func15, Try.ntmps15
    go_wp2
    go_ret3
    exact ⟨rfl, rfl⟩
  · have h0 : ¬ p < 0 := by omega
    go_enter Try.func15, Try.ntmps15
    go_wp2
    go_ret3
    exact ⟨rfl, rfl⟩

set_option maxRecDepth 100000 in
set_option maxHeartbeats 1000000 in
theorem RWidth_ok (p : Int) (w : World) (h0 : 0 ≤ p) (hp : p ≤ 3744) :
    Calls Try.prog 15 #[.int .i64 p] w fun e w' => e = .returned (.tuple #[.int .i64 (widN p), .int .i64 (reach p), .int .i64 0]) ∧ Drawn w w' := by
  have hw := widN_bd p
  go_enter Try.func15, Try.ntmps15
  go_wp2
  go_loopg [5] (widN p - 4).toNat (fun kq x w' => ∃ v : Int, 4 ≤ v ∧ v ≤ widN p ∧ kq = (widN p - v).toNat ∧ x = .int .i64 v ∧ w = w')
  case atStart => exact ⟨4, by omega, by omega, rfl, rfl, rfl⟩
  case round =>
    obtain ⟨v, h4, hv, hk, rfl, rfl⟩ := hrel
    have h12 : v ≤ 12 := by omega
    obtain ⟨hb1, hb2⟩ := pow_bd v h4 h12
    by_cases hlt : v < widN p
    · have h2 := wid_lt p v h4 hlt
      go_wp2
      go_roundg (widN p - (v + 1)).toNat
      case measure => omega
      case rel => exact ⟨v + 1, by omega, by omega, rfl, rfl, rfl⟩
    · obtain rfl : v = widN p := by omega
      have h2 := le_pow_wid p (by omega)
      have hg := gap_bd p
      have hq : ¬ (2 : Int) ^ (widN p).toNat < p := by omega
      go_wp2
      have hgp := gap_pow p
      go_quiet (fail)
      go_wp2
      go_ret3
      exact ⟨rfl, ⟨_, rfl⟩⟩

set_option maxRecDepth 100000 in
set_option maxHeartbeats 2000000 in
theorem Rmatch_any (A : Option Addr) (c : Nat) (b : List Int) (p i : Nat) (hp : p ≤ b.length) (hi : i < p) (hb : b.length ≤ 3744) (w : World) (hR : Rd w .u8 A b.length b) :
    Calls Try.prog 33 #[.slice A b.length c, .int .i64 p, .int .i64 (i + 1)] w fun e W' => e = .returned (.int .i64 (mlen b p (i + 1))) ∧ Drawn w W' := by
  have HR := Lib.hid hR
  clear hR
  have hgb := gap_bd p
  go_enter Try.func33, Try.ntmps33
  go_wp2_with (go_at_call 15; refine (RWidth_ok _ _ (by omega) (by omega)).mono ?_; rintro e w' ⟨rfl, ⟨nd, rfl⟩⟩)
  obtain ⟨R, hRr⟩ : ∃ R : Nat, reach (p : Int) = R := ⟨(reach p).toNat, by unfold reach; omega⟩
  have HRr := Lib.hid hRr
  have hRb : R ≤ 4098 := by unfold reach at hRr; omega
  rw [hRr]
  clear hRr hgb
  go_loopg [10] R (fun kq v7 W' => ∃ (n : Nat), v7 = .int .i64 n ∧ n ≤ R ∧ p + n ≤ b.length ∧ kq = R - n ∧ Hid (n + mrun b (R - n) (p + n) (p - (i + 1) + n) = mlen b p (i + 1)) ∧ Hid (∃ k, W' = w.drewN k))
  case atStart => exact ⟨0, rfl, by omega, by omega, rfl, Lib.hid (by unfold mlen; rw [HRr.out]; simp), Lib.hid ⟨nd, rfl⟩⟩
  case round =>
    obtain ⟨n, rfl, hn, hpn, hkq, HM, HD⟩ := hrel
    obtain ⟨k, hk⟩ := HD.out
    subst hk
    by_cases h1 : n < R
    · have hd1 : decide ((n : Int) < R) = true := by simpa using h1
      by_cases h2 : p + n < b.length
      · have hd2 : decide ((p : Int) + n < b.length) = true := by simp; omega
        obtain ⟨ad, hA, hc1⟩ := HR.out.at_ (p + n) h2
        obtain ⟨ad', hA', hc2⟩ := HR.out.at_ (p - (i + 1) + n) (by omega)
        obtain rfl : ad = ad' := by rw [hA] at hA'; cases hA'; rfl
        subst hA
        have hj : (p : Int) - ((i : Int) + 1) + n = ((p - (i + 1) + n : Nat) : Int) := by omega
        obtain ⟨j, hjj⟩ : ∃ j, p - (i + 1) + n = j := ⟨_, rfl⟩
        rw [hjj] at hj hc2
        have hjl : j < b.length := by omega
        have hj2 : (j : Int) < b.length := by omega
        have hp2 : (p : Int) + n < b.length := by omega
        obtain ⟨x, hx⟩ : ∃ x, b.getD (p + n) 0 = x := ⟨_, rfl⟩
        obtain ⟨y, hy⟩ : ∃ y, b.getD j 0 = y := ⟨_, rfl⟩
        rw [hx] at hc1
        rw [hy] at hc2
        have HX := Lib.hid hx
        have HY := Lib.hid hy
        have HJJ := Lib.hid hjj
        clear hx hy hjj hA'
        by_cases h3 : x = y
        · have hd3 : (x == y) = true := by simpa using h3
          have HM2 : Hid (n + 1 + mrun b (R - (n + 1)) (p + (n + 1)) (p - (i + 1) + (n + 1)) = mlen b p (i + 1)) := Lib.hid (by
            have hmm := HM.out
            rw [show R - n = (R - (n + 1)) + 1 from by omega] at hmm
            unfold mrun at hmm
            rw [HJJ.out, if_pos ⟨h2, by rw [HX.out, HY.out, h3]⟩] at hmm
            rw [show p - (i + 1) + (n + 1) = j + 1 from by rw [← HJJ.out]; omega, show p + (n + 1) = p + n + 1 from by omega]
            omega)
          clear HM
          go_wp2
          go_quiet (fail)
          go_wp2
          go_roundg (R - (n + 1))
          case measure => omega
          case rel => exact ⟨n + 1, by go_num, by omega, by omega, rfl, HM2, Lib.hid ⟨_, rfl⟩⟩
        · have hd3 : (x == y) = false := by simpa using h3
          have HN : Hid (n = mlen b p (i + 1)) := Lib.hid (by
            have hmm := HM.out
            rw [show R - n = (R - (n + 1)) + 1 from by omega] at hmm
            unfold mrun at hmm
            rw [HJJ.out, if_neg (by rintro ⟨-, hh⟩; rw [HX.out, HY.out] at hh; exact h3 hh)] at hmm
            omega)
          clear HM
          go_wp2
          go_quiet (fail)
          go_wp2
          go_ret
          exact ⟨by rw [← HN.out]; rfl, ⟨_, World.drewN_drewN _ _ _⟩⟩
      · have hd2 : decide ((p : Int) + n < b.length) = false := by simp; omega
        have HN : Hid (n = mlen b p (i + 1)) := Lib.hid (by
          have hmm := HM.out
          rw [show R - n = (R - (n + 1)) + 1 from by omega] at hmm
          unfold mrun at hmm
          rw [if_neg (by rintro ⟨hh, -⟩; exact h2 hh)] at hmm
          omega)
        clear HM
        go_wp2
        go_quiet (fail)
        go_wp2
        go_ret
        exact ⟨by rw [← HN.out]; rfl, ⟨_, World.drewN_drewN _ _ _⟩⟩
    · obtain rfl : n = R := by omega
      have hd1 : decide ((n : Int) < n) = false := by simp
      have HN : Hid (n = mlen b p (i + 1)) := Lib.hid (by
        have hmm := HM.out
        rw [Nat.sub_self] at hmm
        unfold mrun at hmm
        omega)
      clear HM
      go_wp2
      go_quiet (fail)
      go_wp2
      go_ret
      exact ⟨by rw [← HN.out]; rfl, ⟨_, World.drewN_drewN _ _ _⟩⟩

set_option maxRecDepth 100000 in
set_option maxHeartbeats 1000000 in
theorem RLongest_limit (A : Option Addr) (n c : Nat) (p : Int) (w : World) (hn : 3744 < n) :
    Calls Try.prog 17 #[.slice A n c, .int .i64 p] w fun e W' => e = .returned (.tuple #[.int .i64 0, .int .i64 0, .int .i64 2]) ∧ w = W' := by
  go_enter Try.func17, Try.ntmps17
  go_wp2
  go_ret3
  exact ⟨rfl, rfl⟩

set_option maxRecDepth 100000 in
set_option maxHeartbeats 1000000 in
theorem RLongest_range (A : Option Addr) (n c : Nat) (p : Int) (w : World) (hn : n ≤ 3744) (hp : p < 0 ∨ (n : Int) < p) :
    Calls Try.prog 17 #[.slice A n c, .int .i64 p] w fun e W' => e = .returned (.tuple #[.int .i64 0, .int .i64 0, .int .i64 24]) ∧ w = W' := by
  rcases hp with hp | hp
  · go_enter Try.func17, Try.ntmps17
    go_wp2
    go_ret3
    exact ⟨rfl, rfl⟩
  · have h0 : ¬ p < 0 := by omega
    go_enter Try.func17, Try.ntmps17
    go_wp2
    go_ret3
    exact ⟨rfl, rfl⟩

set_option maxRecDepth 100000 in
set_option maxHeartbeats 2000000 in
theorem RLongest_ok (A : Option Addr) (c : Nat) (b : List Int) (p : Nat) (hp : p ≤ b.length) (hb : b.length ≤ 3744) (w : World) (hR : Rd w .u8 A b.length b) :
    Calls Try.prog 17 #[.slice A b.length c, .int .i64 p] w fun e W' => e = .returned (.tuple #[.int .i64 (longestM b p).1, .int .i64 (longestM b p).2, .int .i64 0]) ∧ Drawn w W' := by
  have HR := Lib.hid hR
  clear hR
  have ha1 : decide (b.length < p) = false := by simpa using hp
  have ha2 : decide ((p : Int) < 0) = false := by simp
  have ha3 : decide ((3744 : Int) < b.length) = false := by simp; omega
  go_enter Try.func17, Try.ntmps17
  go_wp2
  go_loopg [7, 8, 9] p (fun kq v7 v8 v9 W' => ∃ (i : Nat), i ≤ p ∧ kq = p - i ∧ v7 = .int .i64 (bestM (uptoM b p i)).1 ∧ v8 = .int .i64 (bestM (uptoM b p i)).2 ∧ v9 = .int .i64 (i + 1) ∧ Hid (∃ k, W' = w.drewN k))
  case atStart => exact ⟨0, by omega, rfl, rfl, rfl, rfl, Lib.hid ⟨0, rfl⟩⟩
  case round =>
    obtain ⟨i, hi, hkq, rfl, rfl, rfl, HD⟩ := hrel
    obtain ⟨k, hk⟩ := HD.out
    subst hk
    obtain ⟨r, hr⟩ : ∃ r, bestM (uptoM b p i) = r := ⟨_, rfl⟩
    by_cases hlt : i < p
    · have hlt1 : (i : Int) + 1 ≤ p := by omega
      have hS : Hid (bestM (uptoM b p (i + 1)) = stepM r (i + 1, mlen b p (i + 1))) := Lib.hid (by rw [uptoM_succ, bestM_snoc, hr])
      have hl := mrun_le b (reach p).toNat p (p - (i + 1)) hp
      obtain ⟨m, hm⟩ : ∃ m, mlen b p (i + 1) = m := ⟨_, rfl⟩
      have hml : m ≤ 3744 := by rw [← hm]; unfold mlen; omega
      have HMm := Lib.hid hm
      rw [hr]
      clear hr hl hm
      obtain ⟨r1, r2⟩ := r
      by_cases hc : r2 < m
      · have hci : (r2 : Int) < m := by omega
        go_wp2_with (go_at_call 33; refine (Rmatch_any A c b p i hp hlt hb _ (HR.out.drewN k)).mono ?_; rintro e w' ⟨rfl, ⟨nd, rfl⟩⟩; rw [HMm.out])
        go_roundg (p - (i + 1))
        case measure => omega
        case rel => exact ⟨i + 1, by omega, rfl, by rw [hS.out, HMm.out, stepM, if_pos hc]; rfl, by rw [hS.out, HMm.out, stepM, if_pos hc], by go_num, Lib.hid ⟨_, rfl⟩⟩
      · have hci : ¬ (r2 : Int) < m := by omega
        go_wp2_with (go_at_call 33; refine (Rmatch_any A c b p i hp hlt hb _ (HR.out.drewN k)).mono ?_; rintro e w' ⟨rfl, ⟨nd, rfl⟩⟩; rw [HMm.out])
        go_roundg (p - (i + 1))
        case measure => omega
        case rel => exact ⟨i + 1, by omega, rfl, by rw [hS.out, HMm.out, stepM, if_neg hc], by rw [hS.out, HMm.out, stepM, if_neg hc], by go_num, Lib.hid ⟨_, rfl⟩⟩
    · obtain rfl : i = p := by omega
      have hlt1 : ¬ (i : Int) + 1 ≤ i := by omega
      rw [hr]
      have HR2 : Hid (longestM b i = r) := Lib.hid hr
      clear hr
      go_wp2
      go_ret3
      exact ⟨by rw [HR2.out]; rfl, ⟨_, rfl⟩⟩
end Go.Proofs.Ytmlgjilflpdffaa
