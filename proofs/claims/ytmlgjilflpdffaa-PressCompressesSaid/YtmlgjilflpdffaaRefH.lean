/- Walk: the document's Best; PressCompresses. -/
import Derived.Test.YtmlgjilflpdffaaRefG
import Derived.Test.YtmlgjilflpdffaaWalkR
namespace Go.Proofs.Ytmlgjilflpdffaa
open Go.RowKit Go.Deep
set_option linter.unusedVariables false
set_option linter.unusedSimpArgs false

theorem bestT_nil (b cs : List Int) (f p : Nat) (h : b.length ≤ p) : bestT b cs f p = [] := by
  cases f with
  | zero => rfl
  | succ f => unfold bestT; rw [if_neg (by omega)]
theorem choose_stop (b : List Int) (p : Nat) (cs : List Int) (m : Nat) (h3 : 3 ≤ m) (he : cs.getD p 0 = cs.getD (p + m) 0 + 17) : chooseF b p cs m = cpy (nearM b p m) (m : Int) := by
  obtain ⟨n, rfl⟩ : ∃ n, m = n + 1 := ⟨m - 1, by omega⟩
  unfold chooseF
  rw [if_pos ⟨h3, he⟩]
theorem choose_go (b : List Int) (p : Nat) (cs : List Int) (m : Nat) (he : ¬ (3 ≤ m + 1 ∧ cs.getD p 0 = cs.getD (p + (m + 1)) 0 + 17)) : chooseF b p cs (m + 1) = chooseF b p cs m := by
  conv => lhs; unfold chooseF
  rw [if_neg he]

set_option maxRecDepth 100000 in
set_option maxHeartbeats 1000000 in
theorem RBest_limit (A : Option Addr) (n c : Nat) (w : World) (hn : 3744 < n) :
    Calls Try.prog 30 #[.slice A n c] w fun e W' => e = .returned (.tuple #[.slice none 0 0, .int .i64 2]) ∧ w = W' := by
  go_enter Try.func30, Try.ntmps30
  go_wp2
  go_ret2
  exact ⟨rfl, rfl⟩

set_option maxRecDepth 100000 in
set_option maxHeartbeats 8000000 in
theorem RBest_ok (A : Option Addr) (c : Nat) (b : List Int) (hb : b.length ≤ 3744) (w : World) (hR : Rd w .u8 A b.length b) :
    Calls Try.prog 30 #[.slice A b.length c] w fun e W' => ∃ v, e = .returned (.tuple #[v, .int .i64 0]) ∧ W'.ownsRow w.heap.size 5 1 v (bestB b).length (nums8 (bestB b)) ∧ Below w.heap.size w W' := by
  obtain ⟨i0, hi, hz0, hz1, hz2⟩ := info_parts info35
  have HR := Lib.hid hR
  clear hR
  have hcl := costS_len b b.length
  have hml := mostS_len b b.length
  obtain ⟨cs, hcs⟩ : ∃ cs, costM b = cs := ⟨_, rfl⟩
  obtain ⟨ms, hms⟩ : ∃ ms, mostM b = ms := ⟨_, rfl⟩
  rw [show costS b b.length = cs from hcs] at hcl
  rw [show mostS b b.length = ms from hms] at hml
  have HCB : Hid (∀ j, 0 ≤ cs.getD j 0 ∧ cs.getD j 0 ≤ 1000000) := Lib.hid (fun j => by
    have := costS_bd b b.length j
    rw [show costS b b.length = cs from hcs] at this
    omega)
  have HMG : Hid (∀ p, p < b.length → ms.getD p 0 = ((longestM b p).2 : Int)) := Lib.hid (fun p hp => by rw [← hms]; exact mostM_get b p hp)
  have HCS := Lib.hid hcs
  have HMS := Lib.hid hms
  have HCL := Lib.hid hcl
  have HML := Lib.hid hml
  clear hcs hms hcl hml
  obtain ⟨N, hN⟩ : ∃ N, b.length + 1 = N := ⟨_, rfl⟩
  have HN := Lib.hid hN
  have hNb : b.length < N := by omega
  have hNb2 : N ≤ 3745 := by omega
  go_enter Try.func30, Try.ntmps30
  go_wp2_with (go_at_call 45; refine (RCosts_any A c b hb _ HR.out).mono ?_; rintro e w1 ⟨g1, g2, rfl, hO1, hO2, hB1⟩; rw [HCS.out] at hO1; rw [HMS.out] at hO2; rw [hN] at hO1 hO2 ⊢; (have HO1 := Lib.hid hO1); (have HO2 := Lib.hid hO2); (have HB1 := Lib.hid hB1); clear hO1 hO2 hB1)
  clear hN
  go_loopg [6, 7] (b.length + 1) (fun kq v6 v7 W => ∃ (p : Nat) (ts : List Tok), v7 = .int .i64 p ∧ p ≤ b.length ∧ Hid (b.length < kq + p) ∧ Hid (ts ++ bestT b cs kq p = bestT b cs (b.length + 1) 0) ∧ Hid (ts.length ≤ p) ∧
    Hid (W.ownsRow w1.heap.size 35 4 v6 ts.length (toksCells ts)) ∧ Hid (Below w1.heap.size w1 W))
  case atStart => exact ⟨0, [], rfl, by omega, Lib.hid (by omega), Lib.hid (by simp), Lib.hid (by simp), Lib.hid (World.ownsRow_nil _ _ _ _), Lib.hid (Below.refl _ _)⟩
  case round =>
    obtain ⟨p, ts, rfl, hp, HK, HG, HL, HO, HW⟩ := hrel
    cases gk with
    | zero => exact absurd HK.out (by omega)
    | succ k =>
      have hk := HK.out
      have hL := HL.out
      by_cases hlt : p < b.length
      · have hpi : (p : Int) < b.length := by omega
        have hpN : (p : Int) < N := by omega
        have hlp := longest_props b p (by omega)
        obtain ⟨l1, l2, hl⟩ : ∃ l1 l2, longestM b p = (l1, l2) := ⟨_, _, rfl⟩
        have hL2 : p + l2 ≤ b.length := by have := hlp.2.1; rw [hl] at this; exact this
        have HLL := Lib.hid hl
        have hrow1 := own_keep HO1.out HW.out
        have hrow2 := own_keep HO2.out HW.out
        have hm0 := ints_at hrow2 p (by omega)
        rw [HMG.out p hlt, hl] at hm0
        have hcp := ints_at hrow1 p (by omega)
        obtain ⟨a0, ha0⟩ : ∃ a0, cs.getD p 0 = a0 := ⟨_, rfl⟩
        rw [ha0] at hcp
        have hab := HCB.out p
        rw [ha0] at hab
        have HA0 := Lib.hid ha0
        have HR1 := Lib.hid hrow1
        obtain ⟨ad, e0, hcell⟩ := (HR.out.below (below_then HB1.out HB1.out.size HW.out)).at_ p hlt
        subst e0
        obtain ⟨x, hx⟩ : ∃ x, b.getD p 0 = x := ⟨_, rfl⟩
        rw [hx] at hcell
        have HX := Lib.hid hx
        clear hl hlp hrow1 hrow2 ha0 hx
        go_wp2
        clear hm0
        go_loopg [8] l2 (fun kq v8 W => ∃ (m : Nat), v8 = .int .i64 m ∧ m ≤ l2 ∧ kq = m ∧ Hid (chooseF b p cs m = chooseM b p cs) ∧ Hid (∃ d, W = wr.drewN d))
        case atStart => exact ⟨l2, rfl, by omega, rfl, Lib.hid (by unfold chooseM; rw [HLL.out]), Lib.hid ⟨0, rfl⟩⟩
        case round =>
          obtain ⟨m, rfl, hm, hkq, HC, HD⟩ := hrel
          obtain ⟨d, hd⟩ := HD.out
          subst hd
          have hLIT : chooseM b p cs = lit x → bestT b cs (k + 1) p = lit x :: bestT b cs k (p + 1) := fun h => by
            have := bestT_step b cs k p 1 hlt (by rw [h]; rfl)
            rw [h] at this
            exact this
          have hCPY : ∀ (nk : Nat), 3 ≤ m → chooseM b p cs = cpy nk m → bestT b cs (k + 1) p = cpy nk m :: bestT b cs k (p + m) := fun nk h3 h => by
            have := bestT_step b cs k p m hlt (by rw [h]; simp only [cpy]; omega)
            rw [h] at this
            exact this
          have HLIT := Lib.hid hLIT
          have HCPY := Lib.hid hCPY
          clear hLIT hCPY
          by_cases h3 : 3 ≤ m
          · have h3i : (3 : Int) ≤ m := by omega
            have hcm := ints_at HR1.out (p + m) (by omega)
            have hpmN : (p : Int) + m < N := by omega
            obtain ⟨a1, ha1⟩ : ∃ a1, cs.getD (p + m) 0 = a1 := ⟨_, rfl⟩
            rw [ha1] at hcm
            have hab1 := HCB.out (p + m)
            rw [ha1] at hab1
            have HA1 := Lib.hid ha1
            clear ha1
            by_cases heq : 17 + a1 = a0
            · have hne : (17 + a1 != a0) = false := by simpa using heq
              obtain ⟨nk, hnk⟩ : ∃ nk, nearM b p m = nk := ⟨_, rfl⟩
              have hch : chooseM b p cs = cpy nk m := by
                rw [← HC.out, choose_stop b p cs m h3 (by rw [HA0.out, HA1.out]; omega), hnk]
              have hG := HG.out
              rw [HCPY.out nk h3 hch] at hG
              have HG2 : Hid (ts ++ [cpy nk m] ++ bestT b cs k (p + m) = bestT b cs (b.length + 1) 0) := Lib.hid (by rw [← hG]; simp)
              have HNK := Lib.hid hnk
              have HMM : Hid (m ≤ (longestM b p).2) := Lib.hid (by rw [HLL.out]; exact hm)
              clear hG hch hnk
              go_wp2
              go_quiet (fail)
              go_wp2_with (first
                | (go_at_call 46; refine (Rnearest_any (some ad) c b p m hp hb (by omega) HMM.out _ (HR.out.below (below_drewN (below_then HB1.out HB1.out.size HW.out) _))).mono ?_; rintro e w3 ⟨rfl, hD3⟩; rw [HNK.out]; (have HD3 : Hid (Drawn wr w3) := Lib.hid (let ⟨q, hq⟩ := hD3.out; ⟨⟨_, hq.trans (World.drewN_drewN _ _ _)⟩⟩)); clear hD3)
                | (go_at_call 38; refine (Rcopied_any (nk : Int) (m : Int) _).mono ?_; rintro e w4 ⟨rfl, hB⟩; (have HO4 := Lib.hid (own_keepD HO.out HD3.out hB)); (have HW4 := Lib.hid (below_thenD HW.out HW.out.size HD3.out hB)); clear hB)
                | (at_builtin; refine wpList_append_own _ rfl _ _ 31 rfl w1.heap.size 35 i0 _ 4 24 Try.underlying31 hi hz0 hz1 hz2 rfl (by decide) _ ts.length (toksCells ts) rfl (World.ownsRow.alloc HO4.out _) ⟨w4.heap.size, 0, none⟩ 1 1 (tokCells (cpy nk m)) rfl rfl (news_cells _ (tokCells (cpy nk m)) _) (tok_one (cpy nk m)) (by simp only [maxLen]; omega) (by omega) (by have := HW4.out.size; simp; omega) ?_; intro v5 w5 hown5 hgrow5 _; (have HO5 := Lib.hid hown5); (have HW5 := Lib.hid ((below_al HW4.out _).grown hgrow5 (by have := HW4.out.size; simp; omega) (fun kk hk => (HO4.out.lt kk hk).1))); clear hown5 hgrow5))
              go_roundg k
              case measure => omega
              case rel => exact ⟨p + m, ts ++ [cpy nk m], by go_num, by omega, Lib.hid (by omega), HG2, Lib.hid (by simp; omega), Lib.hid (by rw [List.length_append, toksCells_snoc]; exact HO5.out), HW5⟩
            · have hne : (17 + a1 != a0) = true := by simpa using heq
              have HC2 : Hid (chooseF b p cs (m - 1) = chooseM b p cs) := Lib.hid (by
                obtain ⟨m', rfl⟩ : ∃ m', m = m' + 1 := ⟨m - 1, by omega⟩
                rw [← HC.out, choose_go b p cs m' (by rintro ⟨-, h⟩; rw [HA0.out, HA1.out] at h; omega), Nat.add_sub_cancel])
              clear heq
              go_wp2
              go_quiet (fail)
              go_wp2
              go_roundg (m - 1)
              case measure => omega
              case rel => exact ⟨m - 1, by rw [show ((m - 1 : Nat) : Int) = (m : Int) - 1 from by omega], by omega, rfl, HC2, Lib.hid ⟨_, rfl⟩⟩
          · have h3i : ¬ (3 : Int) ≤ m := by omega
            have hd3 : decide ((3 : Int) ≤ m) = false := by simpa using h3i
            have hch : chooseM b p cs = lit x := by rw [← HC.out, choose_small b p cs m (by omega), HX.out]
            have hG := HG.out
            rw [HLIT.out hch] at hG
            have HG2 : Hid (ts ++ [lit x] ++ bestT b cs k (p + 1) = bestT b cs (b.length + 1) 0) := Lib.hid (by rw [← hG]; simp)
            clear hG hch
            go_wp2
            go_quiet (fail)
            go_wp2_with (first
              | (go_at_call 37; refine (Rliteral_any x _).mono ?_; rintro e w4 ⟨rfl, hB⟩; (have HO4 := Lib.hid (own_keepD HO.out ⟨⟨_, rfl⟩⟩ hB)); (have HW4 := Lib.hid (below_thenD HW.out HW.out.size ⟨⟨_, rfl⟩⟩ hB)); clear hB)
              | (at_builtin; refine wpList_append_own _ rfl _ _ 31 rfl w1.heap.size 35 i0 _ 4 24 Try.underlying31 hi hz0 hz1 hz2 rfl (by decide) _ ts.length (toksCells ts) rfl (World.ownsRow.alloc HO4.out _) ⟨w4.heap.size, 0, none⟩ 1 1 (tokCells (lit x)) rfl rfl (news_cells _ (tokCells (lit x)) _) (tok_one (lit x)) (by simp only [maxLen]; omega) (by omega) (by have := HW4.out.size; simp; omega) ?_; intro v5 w5 hown5 hgrow5 _; (have HO5 := Lib.hid hown5); (have HW5 := Lib.hid ((below_al HW4.out _).grown hgrow5 (by have := HW4.out.size; simp; omega) (fun kk hk => (HO4.out.lt kk hk).1))); clear hown5 hgrow5))
            go_roundg k
            case measure => omega
            case rel => exact ⟨p + 1, ts ++ [lit x], by go_num, by omega, Lib.hid (by omega), HG2, Lib.hid (by simp; omega), Lib.hid (by rw [List.length_append, toksCells_snoc]; exact HO5.out), HW5⟩
      · obtain rfl : p = b.length := by omega
        have hG := HG.out
        rw [bestT_nil b cs _ _ (Nat.le_refl _), List.append_nil] at hG
        have HTS := Lib.hid hG
        have HP : Hid (posM 1 0 ts = .ok (b.length : Int)) := Lib.hid (by rw [hG]; exact bestT_pos b cs hb 1 (b.length + 1) 0 (by omega) (by omega))
        have HBB : Hid (bestB b = buildM ts) := Lib.hid (by unfold bestB; rw [HCS.out, hG])
        have hpi : ¬ (b.length : Int) < b.length := by omega
        have hts := HL.out
        obtain ⟨At, ct, rfl, hct, hRT⟩ := own_toks HO.out rfl (by omega)
        have HRT := Lib.hid hRT
        clear hG HG hRT hct
        go_wp2_with (go_at_call 22; refine (RBuild_any At ct ts _ _ HRT.out (by omega) HP.out).mono ?_; rintro e w2 ⟨⟨v2, rfl, hO2⟩, hB2⟩; (have HO3 := Lib.hid hO2); (have HB2 := Lib.hid hB2); clear hO2 hB2)
        go_ret2
        refine ⟨_, rfl, ?_, below_then HB1.out HB1.out.size (HW.out.trans (HB2.out.mono HW.out.size))⟩
        rw [HBB.out]
        exact own_weak HO3.out (Nat.le_trans HB1.out.size HW.out.size)

def prsR (b : List Int) : List Int × Int := if 3744 < b.length then ([], 2) else (pressM b, 0)
def bstR (b : List Int) : List Int × Int := if 3744 < b.length then ([], 2) else (bestB b, 0)
theorem rd_nil2 (w : World) : Rd w .u8 none 0 [] := ⟨rfl, by omega, fun j h => absurd h (by omega)⟩

theorem Press_all (A : Option Addr) (c : Nat) (b ys : List Int) (k : Int) (w : World) (hr : Rd w .u8 A b.length b) (hA : ∀ ad, A = some ad → ad.block < w.heap.size) (h : prsR b = (ys, k)) :
    Calls Try.prog 18 #[.slice A b.length c] w fun e w' => ∃ A' c', e = .returned (.tuple #[.slice A' ys.length c', .int .i64 k]) ∧ Rd w' .u8 A' ys.length ys ∧ Below w.heap.size w w' := by
  unfold prsR at h
  by_cases hl : 3744 < b.length
  · rw [if_pos hl] at h
    cases h
    exact (Press_limit A b.length c w hl).mono fun e w' ⟨h1, h2⟩ => ⟨none, 0, h1, rd_nil2 w', by subst h2; exact Below.refl _ _⟩
  · rw [if_neg hl] at h
    cases h
    have hb : b.length ≤ 3744 := by omega
    have hpl := press_len hb
    exact (Press_ok A c b hb w hr hA).mono fun e w' ⟨v, h1, h2, h3⟩ => by
      obtain ⟨A', c', rfl, hc', hR, -⟩ := own_bytes h2 (by omega)
      exact ⟨A', c', h1, hR, h3⟩
theorem RPress_all (A : Option Addr) (c : Nat) (b ys : List Int) (k : Int) (w : World) (hr : Rd w .u8 A b.length b) (h : prsR b = (ys, k)) :
    Calls Try.prog 28 #[.slice A b.length c] w fun e w' => ∃ A' c', e = .returned (.tuple #[.slice A' ys.length c', .int .i64 k]) ∧ Rd w' .u8 A' ys.length ys ∧ Below w.heap.size w w' := by
  unfold prsR at h
  by_cases hl : 3744 < b.length
  · rw [if_pos hl] at h
    cases h
    exact (RPress_limit A b.length c w hl).mono fun e w' ⟨h1, h2⟩ => ⟨none, 0, h1, rd_nil2 w', by subst h2; exact Below.refl _ _⟩
  · rw [if_neg hl] at h
    cases h
    have hb : b.length ≤ 3744 := by omega
    have hpl := press_len hb
    exact (RPress_ok A c b hb w hr).mono fun e w' ⟨v, h1, h2, h3⟩ => by
      obtain ⟨A', c', rfl, hc', hR, -⟩ := own_bytes h2 (by omega)
      exact ⟨A', c', h1, hR, h3⟩
theorem Best_all (A : Option Addr) (c : Nat) (b ys : List Int) (k : Int) (w : World) (hr : Rd w .u8 A b.length b) (hA : ∀ ad, A = some ad → ad.block < w.heap.size) (h : bstR b = (ys, k)) :
    Calls Try.prog 29 #[.slice A b.length c] w fun e w' => ∃ A' c', e = .returned (.tuple #[.slice A' ys.length c', .int .i64 k]) ∧ Rd w' .u8 A' ys.length ys ∧ Below w.heap.size w w' := by
  unfold bstR at h
  by_cases hl : 3744 < b.length
  · rw [if_pos hl] at h
    cases h
    exact (Best_limit A b.length c w hl).mono fun e w' ⟨h1, h2⟩ => ⟨none, 0, h1, rd_nil2 w', by subst h2; exact Below.refl _ _⟩
  · rw [if_neg hl] at h
    cases h
    have hb : b.length ≤ 3744 := by omega
    have hpl : (bestB b).length ≤ 3 * (bestT b (costM b) (b.length + 1) 0).length := build_len3 _
    have hbt : (bestT b (costM b) (b.length + 1) 0).length ≤ 3744 := by
      have h1 := pos_len 1 _ _ _ (bestT_pos b (costM b) hb 1 (b.length + 1) 0 (by omega) (by omega)) (by omega)
      omega
    exact (Best_ok A c b hb w hr hA).mono fun e w' ⟨v, h1, h2, h3⟩ => by
      obtain ⟨A', c', rfl, hc', hR, -⟩ := own_bytes h2 (by omega)
      exact ⟨A', c', h1, hR, h3⟩
theorem RBest_all (A : Option Addr) (c : Nat) (b ys : List Int) (k : Int) (w : World) (hr : Rd w .u8 A b.length b) (h : bstR b = (ys, k)) :
    Calls Try.prog 30 #[.slice A b.length c] w fun e w' => ∃ A' c', e = .returned (.tuple #[.slice A' ys.length c', .int .i64 k]) ∧ Rd w' .u8 A' ys.length ys ∧ Below w.heap.size w w' := by
  unfold bstR at h
  by_cases hl : 3744 < b.length
  · rw [if_pos hl] at h
    cases h
    exact (RBest_limit A b.length c w hl).mono fun e w' ⟨h1, h2⟩ => ⟨none, 0, h1, rd_nil2 w', by subst h2; exact Below.refl _ _⟩
  · rw [if_neg hl] at h
    cases h
    have hb : b.length ≤ 3744 := by omega
    have hpl : (bestB b).length ≤ 3 * (bestT b (costM b) (b.length + 1) 0).length := build_len3 _
    have hbt : (bestT b (costM b) (b.length + 1) 0).length ≤ 3744 := by
      have h1 := pos_len 1 _ _ _ (bestT_pos b (costM b) hb 1 (b.length + 1) 0 (by omega) (by omega)) (by omega)
      omega
    exact (RBest_ok A c b hb w hr).mono fun e w' ⟨v, h1, h2, h3⟩ => by
      obtain ⟨A', c', rfl, hc', hR, -⟩ := own_bytes h2 (by omega)
      exact ⟨A', c', h1, hR, h3⟩

set_option maxRecDepth 100000 in
set_option maxHeartbeats 4000000 in
theorem law_PressCompresses (A : Option Addr) (c : Nat) (b : List Int) (w : World) (hR : Rd w .u8 A b.length b) (hA : ∀ ad, A = some ad → ad.block < w.heap.size) (hBy : Bytes b) (hbc : b.length ≤ c) :
    Calls Try.prog 8 #[.slice A b.length c] w fun e W' => e = .returned (.bool true) ∧ Below w.heap.size w W' := by
  have HR := Lib.hid hR
  have HA := Lib.hid hA
  clear hR hA hBy hbc
  obtain ⟨n, hn⟩ : ∃ n, w.heap.size = n := ⟨_, rfl⟩
  rw [hn]
  have HN := Lib.hid (Nat.le_of_eq hn.symm)
  have HN2 := Lib.hid hn
  clear hn
  obtain ⟨ys, k2, hP⟩ : ∃ ys k2, prsR b = (ys, k2) := ⟨_, _, rfl⟩
  obtain ⟨zs, k3, hE⟩ : ∃ zs k3, bstR b = (zs, k3) := ⟨_, _, rfl⟩
  have HPo := Lib.hid hP
  have HEo := Lib.hid hE
  clear hP hE
  by_cases h1 : 250 < b.length ∧ b.length ≤ 3744
  · obtain ⟨h2, h3⟩ := h1
    go_enter Try.func8, Try.ntmps8
    go_wp2_with (go_at_call 13; refine (sane_any _).mono ?_; rintro e w1 ⟨rfl, hB⟩)
    go_ret
    exact ⟨rfl, by rw [← HN2.out]; exact hB⟩
  · have key : (¬ 250 < b.length) ∨ (250 < b.length ∧ ¬ b.length ≤ 3744) := by omega
    clear h1
    rcases key with h2 | ⟨h2, h3⟩
    all_goals
      go_enter Try.func8, Try.ntmps8
      go_wp2_with (first
        | (go_at_call 13; refine (sane_any _).mono ?_; rintro e w10 ⟨rfl, hB⟩; (have HB10 := Lib.hid (below_then HB9.out (Nat.le_trans HN.out HB9.out.size) hB)); (have j1 := (HR6.out.below hB).str2 (c := c6)); (have j2 := (HR7.out.below hB).str2 (c := c7)); generalize strOfNums ys = sy at j1 j2; (have j3 := (HR8.out.below hB).str2 (c := c8)); (have j4 := (HR9.out.below hB).str2 (c := c9)); generalize strOfNums zs = sz at j3 j4; clear hB)
        | (go_at_call 30; refine (RBest_all A c b zs k3 _ (HR.out.below (by rw [HN2.out]; exact HB8.out)) HEo.out).mono ?_; rintro e w9 ⟨A9, c9, rfl, hR9, hB⟩; (have HR9 := Lib.hid hR9); (have HR6 := Lib.hid (HR6.out.below hB)); (have HR7 := Lib.hid (HR7.out.below hB)); (have HR8 := Lib.hid (HR8.out.below hB)); (have HB9 := Lib.hid (below_then HB8.out (Nat.le_trans HN.out HB8.out.size) hB)); clear hB hR9)
        | (go_at_call 29; refine (Best_all A c b zs k3 _ (HR.out.below (by rw [HN2.out]; exact HB7.out)) (lt_block HA.out (by rw [HN2.out]; exact Nat.le_trans HN.out HB7.out.size)) HEo.out).mono ?_; rintro e w8 ⟨A8, c8, rfl, hR8, hB⟩; (have HR8 := Lib.hid hR8); (have HR6 := Lib.hid (HR6.out.below hB)); (have HR7 := Lib.hid (HR7.out.below hB)); (have HB8 := Lib.hid (below_then HB7.out (Nat.le_trans HN.out HB7.out.size) hB)); clear hB hR8)
        | (go_at_call 28; refine (RPress_all A c b ys k2 _ (HR.out.below (by rw [HN2.out]; exact HB6.out)) HPo.out).mono ?_; rintro e w7 ⟨A7, c7, rfl, hR7, hB⟩; (have HR7 := Lib.hid hR7); (have HR6 := Lib.hid (HR6.out.below hB)); (have HB7 := Lib.hid (below_then HB6.out (Nat.le_trans HN.out HB6.out.size) hB)); clear hB hR7)
        | (go_at_call 18; refine (Press_all A c b ys k2 _ HR.out HA.out HPo.out).mono ?_; rintro e w6 ⟨A6, c6, rfl, hR6, hB⟩; (have HR6 := Lib.hid hR6); rw [HN2.out] at hB; (have HB6 := Lib.hid hB); clear hB hR6))
      go_ret
      exact ⟨rfl, HB10.out⟩
end Go.Proofs.Ytmlgjilflpdffaa
