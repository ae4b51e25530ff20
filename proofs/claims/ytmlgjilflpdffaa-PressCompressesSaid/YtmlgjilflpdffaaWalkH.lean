/- Walks: Press. -/
import Derived.Test.YtmlgjilflpdffaaWalkF
import Derived.Test.YtmlgjilflpdffaaWalkG
import Derived.Test.YtmlgjilflpdffaaGreedy
namespace Go.Proofs.Ytmlgjilflpdffaa
open Go.RowKit Go.Deep
set_option linter.unusedVariables false
set_option linter.unusedSimpArgs false

theorem below_then0 {n : Nat} {w w1 w2 w3 : World} (h : Below n w w1) (h1 : Below w1.heap.size w1 w2) (h2 : Below n w2 w3) (hn : n ≤ w1.heap.size := by omega) : Below n w w3 := (below_then h hn h1).trans h2
theorem lt_block {w w' : World} {A : Option Addr} (hA : ∀ ad, A = some ad → ad.block < w.heap.size) (h : w.heap.size ≤ w'.heap.size) : ∀ ad, A = some ad → ad.block < w'.heap.size := fun ad e => Nat.lt_of_lt_of_le (hA ad e) h

set_option maxRecDepth 100000 in
set_option maxHeartbeats 1000000 in
theorem Press_limit (A : Option Addr) (n c : Nat) (w : World) (hn : 3744 < n) :
    Calls Try.prog 18 #[.slice A n c] w fun e W' => e = .returned (.tuple #[.slice none 0 0, .int .i64 2]) ∧ w = W' := by
  go_enter Try.func18, Try.ntmps18
  go_wp2
  go_ret2
  exact ⟨rfl, rfl⟩

set_option maxRecDepth 100000 in
set_option maxHeartbeats 4000000 in
theorem Press_ok (A : Option Addr) (c : Nat) (b : List Int) (hb : b.length ≤ 3744) (w : World) (hR : Rd w .u8 A b.length b) (hA : ∀ ad, A = some ad → ad.block < w.heap.size) :
    Calls Try.prog 18 #[.slice A b.length c] w fun e W' => ∃ v, e = .returned (.tuple #[v, .int .i64 0]) ∧ W'.ownsRow w.heap.size 5 1 v (pressM b).length (nums8 (pressM b)) ∧ Below w.heap.size w W' := by
  have HR := Lib.hid hR
  have HA := Lib.hid hA
  clear hR hA
  obtain ⟨n, hn⟩ : ∃ n, w.heap.size = n := ⟨_, rfl⟩
  rw [hn]
  have HN := Lib.hid hn
  go_enter Try.func18, Try.ntmps18
  go_wp2_with (go_at_call 34; refine (writer_any _).mono ?_; rintro e w1 ⟨rfl, hWS, hB⟩; rw [hn] at hWS hB ⊢)
  have HS := Lib.hid hWS
  have HW := Lib.hid hB
  clear hWS hB hn
  go_loopg [6] (b.length + 1) (fun kq v6 W => ∃ (p : Nat) (s : Wst), v6 = .int .i64 p ∧ p ≤ b.length ∧ s.pos = p ∧ Hid (b.length < kq + p) ∧ Hid (WS W n s) ∧ Hid (Wok s) ∧ Hid (s.out.length ≤ 3 * p) ∧ Hid ((greedyM b kq p).foldl putM s = (greedyM b (b.length + 1) 0).foldl putM w0M) ∧ Hid (Below n w W))
  case atStart => exact ⟨0, w0M, rfl, by omega, rfl, Lib.hid (by omega), HS, Lib.hid w0_ok, Lib.hid (by simp [w0M]), Lib.hid rfl, HW⟩
  case round =>
    clear HS HW
    obtain ⟨p, s, rfl, hp, hpos, HK, HS, HOK, HL, HG, HW⟩ := hrel
    have HPOS := Lib.hid hpos
    clear hpos
    cases gk with
    | zero => exact absurd HK.out (by omega)
    | succ k =>
      have hk := HK.out
      by_cases hlt : p < b.length
      · have hG := HG.out
        unfold greedyM at hG
        rw [if_pos hlt] at hG
        have hnW : n ≤ wr.heap.size := by have := HW.out.size; have := HN.out; omega
        have hp0 : p ≤ 3744 := by omega
        obtain ⟨hpr1, hpr2, hpr3⟩ := longest_props b p hp
        by_cases h3 : 3 ≤ (longestM b p).2
        · rw [if_pos h3] at hG
          have hv := cpy_valid b p 1 hp hb h3
          obtain ⟨l1, hl1⟩ : ∃ l1, (longestM b p).1 = l1 := ⟨_, rfl⟩
          obtain ⟨l2, hl2⟩ : ∃ l2, (longestM b p).2 = l2 := ⟨_, rfl⟩
          rw [hl1, hl2] at hG hv
          rw [hl2] at h3 hpr2
          have HL1 := Lib.hid hl1
          have HL2 := Lib.hid hl2
          have HV := Lib.hid hv
          have HG2 := Lib.hid hG
          have h3i : (3 : Int) ≤ l2 := by omega
          clear hG HG hv hl1 hl2 hpr1 hpr3 hk
          go_wp2_with (first | (go_at_call 32; refine (longest_any _ _ b p hp hb _ (HR.out.below (by rw [HN.out]; exact HW.out)) (lt_block HA.out (by rw [HN.out]; exact hnW))).mono ?_; rintro e w1 ⟨rfl, hB1⟩; rw [HL1.out, HL2.out]) | (go_at_call 48; refine (put_any _ n s (cpy l1 l2) _ 1 (HS.out.below hB1) (by have := hB1.size; omega) HOK.out (by have := HL.out; omega) (by rw [HPOS.out]; exact HV.out)).mono ?_; rintro e w2 ⟨rfl, hS2, hB2⟩))
          have hpo := put_ok HOK.out (x := cpy l1 l2) (bad := 1) (by rw [HPOS.out]; exact HV.out)
          have hpl := put_len s (cpy l1 l2)
          have hL := HL.out
          have hk := HK.out
          go_roundg k
          case measure => omega
          case rel => exact ⟨p + l2, putM s (cpy l1 l2), by go_num, by omega, hpo.2, Lib.hid (by omega), Lib.hid hS2, Lib.hid hpo.1, Lib.hid (by omega), HG2, Lib.hid (below_then0 HW.out hB1 hB2)⟩
        · rw [if_neg h3] at hG
          have hv := lit_valid (b.getD p 0) p 1 (by omega)
          obtain ⟨x, hx⟩ : ∃ x, b.getD p 0 = x := ⟨_, rfl⟩
          obtain ⟨ad, hA2, hcell⟩ := (HR.out.below (by rw [HN.out]; exact HW.out)).at_ p hlt
          subst hA2
          rw [hx] at hG hv hcell
          have HV : Hid (validM (lit x) p 1 = .ok ((p + 1 : Nat) : Int)) := Lib.hid hv
          have HG2 := Lib.hid hG
          have h3i : ¬ (3 : Int) ≤ (longestM b p).2 := by omega
          have hp1 : (p : Int) < b.length := by omega
          clear hG HG hv hk hpr1 hpr2 hpr3 hx
          go_wp2_with (first | (go_at_call 32; refine (longest_any _ _ b p hp hb _ (HR.out.below (by rw [HN.out]; exact HW.out)) (lt_block HA.out (by rw [HN.out]; exact hnW))).mono ?_; rintro e w1 ⟨rfl, hB1⟩; have hcell1 := cell_keep hB1 hcell) | (go_at_call 48; refine (put_any _ n s (lit x) _ 1 (HS.out.below hB1) (by have := hB1.size; omega) HOK.out (by have := HL.out; omega) (by rw [HPOS.out]; exact HV.out)).mono ?_; rintro e w2 ⟨rfl, hS2, hB2⟩))
          have hpo := put_ok HOK.out (x := lit x) (bad := 1) (by rw [HPOS.out]; exact HV.out)
          have hpl := put_len s (lit x)
          have hL := HL.out
          have hk := HK.out
          go_roundg k
          case measure => omega
          case rel => exact ⟨p + 1, putM s (lit x), by go_num, by omega, hpo.2, Lib.hid (by omega), Lib.hid hS2, Lib.hid hpo.1, Lib.hid (by omega), HG2, Lib.hid (below_then0 HW.out hB1 hB2)⟩
      · obtain rfl : p = b.length := by omega
        have hG := HG.out
        unfold greedyM at hG
        rw [if_neg hlt] at hG
        simp only [List.foldl_nil] at hG
        have HG2 := Lib.hid hG
        have hp1 : ¬ (b.length : Int) < b.length := by omega
        clear hG HG hk
        go_wp2_with (go_at_call 49; refine (end_any _ n s HS.out).mono ?_; rintro e w2 ⟨v, rfl, rfl, hrow⟩)
        go_ret2
        refine ⟨v, rfl, ?_, HW.out⟩
        have : pressM b = s.out := by rw [HG2.out]; rfl
        rw [this]
        exact own_weak hrow (by omega)
end Go.Proofs.Ytmlgjilflpdffaa
