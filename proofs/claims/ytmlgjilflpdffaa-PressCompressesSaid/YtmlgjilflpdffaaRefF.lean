/- Walks: the document's Greedy, Press, nearest. -/
import Derived.Test.YtmlgjilflpdffaaRefD
import Derived.Test.YtmlgjilflpdffaaBestP
namespace Go.Proofs.Ytmlgjilflpdffaa
open Go.RowKit Go.Deep
set_option linter.unusedVariables false
set_option linter.unusedSimpArgs false

theorem greedy_nil (b : List Int) (f p : Nat) (h : b.length ≤ p) : greedyM b f p = [] := by
  cases f with
  | zero => rfl
  | succ f => unfold greedyM; rw [if_neg (by omega)]
theorem greedy_cpy (b : List Int) (f p : Nat) (h : p < b.length) (h3 : 3 ≤ (longestM b p).2) : greedyM b (f + 1) p = cpy (longestM b p).1 (longestM b p).2 :: greedyM b f (p + (longestM b p).2) := by
  conv => lhs; unfold greedyM
  rw [if_pos h, if_pos h3]
theorem greedy_lit (b : List Int) (f p : Nat) (h : p < b.length) (h3 : ¬ 3 ≤ (longestM b p).2) : greedyM b (f + 1) p = lit (b.getD p 0) :: greedyM b f (p + 1) := by
  conv => lhs; unfold greedyM
  rw [if_pos h, if_neg h3]

set_option maxRecDepth 100000 in
set_option maxHeartbeats 4000000 in
theorem RGreedy_any (A : Option Addr) (c : Nat) (b : List Int) (hb : b.length ≤ 3744) (w : World) (hR : Rd w .u8 A b.length b) :
    Calls Try.prog 43 #[.slice A b.length c] w fun e w' => ∃ v, e = .returned v ∧ w'.ownsRow w.heap.size 35 4 v (greedyM b (b.length + 1) 0).length (toksCells (greedyM b (b.length + 1) 0)) ∧ Below w.heap.size w w' := by
  obtain ⟨i0, hi, hz0, hz1, hz2⟩ := info_parts info35
  have HR := Lib.hid hR
  clear hR
  go_enter Try.func43, Try.ntmps43
  go_wp2
  go_loopg [3, 4] (b.length + 1) (fun kq v3 v4 W => ∃ (p : Nat) (ts : List Tok), v4 = .int .i64 p ∧ p ≤ b.length ∧ Hid (b.length < kq + p) ∧ Hid (ts ++ greedyM b kq p = greedyM b (b.length + 1) 0) ∧ Hid (ts.length ≤ p) ∧
    Hid (W.ownsRow w.heap.size 35 4 v3 ts.length (toksCells ts)) ∧ Hid (Below w.heap.size w W))
  case atStart => exact ⟨0, [], rfl, by omega, Lib.hid (by omega), Lib.hid (by simp), Lib.hid (by simp), Lib.hid (World.ownsRow_nil _ _ _ _), Lib.hid (Below.refl _ _)⟩
  case round =>
    obtain ⟨p, ts, rfl, hp, HK, HG, HL, HO, HW⟩ := hrel
    cases gk with
    | zero => exact absurd HK.out (by omega)
    | succ k =>
      have hk := HK.out
      have hL := HL.out
      by_cases hlt : p < b.length
      · have hpi : (p : Int) < b.length := by omega
        have hlp := longest_props b p (by omega)
        have hG := HG.out
        obtain ⟨l1, l2, hl⟩ : ∃ l1 l2, longestM b p = (l1, l2) := ⟨_, _, rfl⟩
        have hL2 : p + l2 ≤ b.length := by have := hlp.2.1; rw [hl] at this; exact this
        have HLL := Lib.hid hl
        by_cases h3 : 3 ≤ l2
        · have h3i : (3 : Int) ≤ l2 := by omega
          rw [greedy_cpy b k p hlt (by rw [hl]; exact h3), hl] at hG
          have HG2 : Hid (ts ++ [cpy l1 l2] ++ greedyM b k (p + l2) = greedyM b (b.length + 1) 0) := Lib.hid (by rw [← hG]; simp)
          clear hG HG hl hlp
          go_wp2_with (first
            | (go_at_call 17; refine (RLongest_ok A c b p (by omega) hb _ (HR.out.below HW.out)).mono ?_; rintro e w1 ⟨rfl, ⟨nd, rfl⟩⟩; rw [HLL.out])
            | (go_at_call 38; refine (Rcopied_any (l1 : Int) (l2 : Int) _).mono ?_; rintro e w2 ⟨rfl, hB⟩; (have HO2 := Lib.hid (own_keep (w := wr.drewN nd) HO.out hB)); (have HW2 := Lib.hid (below_then (below_drewN HW.out nd) HW.out.size hB)); clear hB)
            | (at_builtin; refine wpList_append_own _ rfl _ _ 31 rfl w.heap.size 35 i0 _ 4 24 Try.underlying31 hi hz0 hz1 hz2 rfl (by decide) _ ts.length (toksCells ts) rfl (World.ownsRow.alloc HO2.out _) ⟨w2.heap.size, 0, none⟩ 1 1 (tokCells (cpy l1 l2)) rfl rfl (news_cells _ (tokCells (cpy l1 l2)) _) (tok_one (cpy l1 l2)) (by simp only [maxLen]; omega) (by omega) (by have := HW2.out.size; simp; omega) ?_; intro v4 w4 hown4 hgrow4 _; (have HO4 := Lib.hid hown4); (have HW4 := Lib.hid ((below_al HW2.out _).grown hgrow4 (by have := HW2.out.size; simp; omega) (fun kk hk => (HO2.out.lt kk hk).1))); clear hown4 hgrow4))
          go_roundg k
          case measure => omega
          case rel => exact ⟨p + l2, ts ++ [cpy l1 l2], by go_num, by omega, Lib.hid (by omega), HG2, Lib.hid (by simp; omega), Lib.hid (by rw [List.length_append, toksCells_snoc]; exact HO4.out), HW4⟩
        · have h3i : ¬ (3 : Int) ≤ l2 := by omega
          rw [greedy_lit b k p hlt (by rw [hl]; exact h3)] at hG
          obtain ⟨ad, e0, hcell⟩ := (HR.out.below HW.out).at_ p hlt
          subst e0
          have hcd : ∀ nd, (wr.drewN nd).cell? (ad.add p) = some (.int .u8 (b.getD p 0)) := fun nd => hcell
          obtain ⟨x, hx⟩ : ∃ x, b.getD p 0 = x := ⟨_, rfl⟩
          rw [hx] at hG hcell hcd
          have HG2 : Hid (ts ++ [lit x] ++ greedyM b k (p + 1) = greedyM b (b.length + 1) 0) := Lib.hid (by rw [← hG]; simp)
          clear hG HG hl hlp hcell hx
          go_wp2_with (first
            | (go_at_call 17; refine (RLongest_ok (some ad) c b p (by omega) hb _ (HR.out.below HW.out)).mono ?_; rintro e w1 ⟨rfl, ⟨nd, rfl⟩⟩; rw [HLL.out])
            | (go_at_call 37; refine (Rliteral_any x _).mono ?_; rintro e w2 ⟨rfl, hB⟩; (have HO2 := Lib.hid (own_keep (w := wr.drewN nd) HO.out hB)); (have HW2 := Lib.hid (below_then (below_drewN HW.out nd) HW.out.size hB)); clear hB)
            | (at_builtin; refine wpList_append_own _ rfl _ _ 31 rfl w.heap.size 35 i0 _ 4 24 Try.underlying31 hi hz0 hz1 hz2 rfl (by decide) _ ts.length (toksCells ts) rfl (World.ownsRow.alloc HO2.out _) ⟨w2.heap.size, 0, none⟩ 1 1 (tokCells (lit x)) rfl rfl (news_cells _ (tokCells (lit x)) _) (tok_one (lit x)) (by simp only [maxLen]; omega) (by omega) (by have := HW2.out.size; simp; omega) ?_; intro v4 w4 hown4 hgrow4 _; (have HO4 := Lib.hid hown4); (have HW4 := Lib.hid ((below_al HW2.out _).grown hgrow4 (by have := HW2.out.size; simp; omega) (fun kk hk => (HO2.out.lt kk hk).1))); clear hown4 hgrow4))
          go_roundg k
          case measure => omega
          case rel => exact ⟨p + 1, ts ++ [lit x], by go_num, by omega, Lib.hid (by omega), HG2, Lib.hid (by simp; omega), Lib.hid (by rw [List.length_append, toksCells_snoc]; exact HO4.out), HW4⟩
      · obtain rfl : p = b.length := by omega
        have hG := HG.out
        rw [greedy_nil b _ _ (Nat.le_refl _), List.append_nil] at hG
        have HG2 := Lib.hid hG
        have hpi : ¬ (b.length : Int) < b.length := by omega
        clear hG HG
        go_wp2
        go_ret
        exact ⟨_, rfl, by rw [← HG2.out]; exact HO.out, HW.out⟩

set_option maxRecDepth 100000 in
set_option maxHeartbeats 1000000 in
theorem RPress_limit (A : Option Addr) (n c : Nat) (w : World) (hn : 3744 < n) :
    Calls Try.prog 28 #[.slice A n c] w fun e W' => e = .returned (.tuple #[.slice none 0 0, .int .i64 2]) ∧ w = W' := by
  go_enter Try.func28, Try.ntmps28
  go_wp2
  go_ret2
  exact ⟨rfl, rfl⟩

set_option maxRecDepth 100000 in
set_option maxHeartbeats 1000000 in
theorem RPress_ok (A : Option Addr) (c : Nat) (b : List Int) (hb : b.length ≤ 3744) (w : World) (hR : Rd w .u8 A b.length b) :
    Calls Try.prog 28 #[.slice A b.length c] w fun e w' => ∃ v, e = .returned (.tuple #[v, .int .i64 0]) ∧ w'.ownsRow w.heap.size 5 1 v (pressM b).length (nums8 (pressM b)) ∧ Below w.heap.size w w' := by
  have HR := Lib.hid hR
  have hgl := greedy_len hb
  have HP := Lib.hid (greedy_pos b hb 1 (b.length + 1) 0 (by omega) (by omega))
  obtain ⟨ts, hts⟩ : ∃ ts, greedyM b (b.length + 1) 0 = ts := ⟨_, rfl⟩
  rw [hts] at hgl HP
  have HB : Hid (pressM b = buildM ts) := Lib.hid (by unfold pressM; rw [hts])
  have HTS := Lib.hid hts
  clear hR hts
  go_enter Try.func28, Try.ntmps28
  go_wp2_with (first
    | (go_at_call 43; refine (RGreedy_any A c b hb _ HR.out).mono ?_; rintro e w1 ⟨v, rfl, hO, hB1⟩; rw [HTS.out] at hO; obtain ⟨At, ct, rfl, hct, hRT⟩ := own_toks hO rfl (by omega); (have HRT := Lib.hid hRT); (have HB1 := Lib.hid hB1); clear hRT hB1 hO hct)
    | (go_at_call 22; refine (RBuild_any At ct ts _ _ HRT.out (by omega) HP.out).mono ?_; rintro e w2 ⟨⟨v2, rfl, hO2⟩, hB2⟩; (have HO2 := Lib.hid hO2); (have HB2 := Lib.hid hB2); clear hO2 hB2))
  go_ret2
  exact ⟨_, rfl, by rw [HB.out]; exact own_weak HO2.out HB1.out.size, below_then HB1.out HB1.out.size HB2.out⟩

theorem near_at {b : List Int} {p n k : Nat} (hn : 1 ≤ n) (hm : n ≤ (longestM b p).2) (h1 : 1 ≤ k) (hlt : ∀ j, 1 ≤ j → j < k → mlen b p j < n) : k ≤ nearM b p n ∧ (k < nearM b p n → mlen b p k < n) ∧ (k = nearM b p n → n ≤ mlen b p k) := by
  obtain ⟨a1, a2, a3⟩ := near_props hn hm
  have hfirst : ∀ j, 1 ≤ j → j < nearM b p n → mlen b p j < n := by
    intro j hj1 hj2
    rcases Nat.lt_or_ge (mlen b p j) n with h | h
    · exact h
    · exfalso
      -- the first that is great enough is j or comes ahead of it
      have hpre : uptoM b p j <+: uptoM b p p := uptoM_prefix b p (by omega)
      obtain ⟨zs, hz⟩ := hpre
      have hin : (j, mlen b p j) ∈ uptoM b p j := by
        unfold uptoM
        exact List.mem_map.2 ⟨j - 1, List.mem_range.2 (by omega), by rw [Nat.sub_add_cancel hj1]⟩
      unfold nearM at hj2
      rw [← hz, List.find?_append] at hj2
      cases hf : (uptoM b p j).find? (fun x => decide (n ≤ x.2)) with
      | none =>
        have := List.find?_eq_none.1 hf _ hin
        simp at this
        omega
      | some x =>
        rw [hf] at hj2
        have hx := List.mem_of_find?_eq_some hf
        have := (mem_uptoM hx).2.1
        simp at hj2
        omega
  refine ⟨?_, fun h => hfirst k h1 h, fun h => by rw [h]; exact a3⟩
  rcases Nat.lt_or_ge (nearM b p n) k with h | h
  · have := hlt _ a1 h; omega
  · exact h

set_option maxRecDepth 100000 in
set_option maxHeartbeats 2000000 in
theorem Rnearest_any (A : Option Addr) (c : Nat) (b : List Int) (p n : Nat) (hp : p ≤ b.length) (hb : b.length ≤ 3744) (hn : 1 ≤ n) (hm : n ≤ (longestM b p).2) (w : World) (hR : Rd w .u8 A b.length b) :
    Calls Try.prog 46 #[.slice A b.length c, .int .i64 p, .int .i64 n] w fun e W' => e = .returned (.int .i64 (nearM b p n)) ∧ Drawn w W' := by
  have HR := Lib.hid hR
  obtain ⟨a1, a2, a3⟩ := near_props hn hm
  have hnat := fun k => near_at (b := b) (p := p) (n := n) (k := k) hn hm
  obtain ⟨N, hN⟩ : ∃ N, nearM b p n = N := ⟨_, rfl⟩
  rw [hN] at a1 a2 a3
  have HNA : Hid (∀ k, 1 ≤ k → (∀ j, 1 ≤ j → j < k → mlen b p j < n) → k ≤ N ∧ (k < N → mlen b p k < n) ∧ (k = N → n ≤ mlen b p k)) := Lib.hid (fun k h1 h2 => by rw [← hN]; exact hnat k h1 h2)
  have HN := Lib.hid hN
  have HA3 := Lib.hid a3
  have hlb : (longestM b p).2 ≤ 3744 := by have := longest_props b p hp; omega
  have hnb : n ≤ 3744 := by omega
  clear hR hnat hN a3 hm hlb
  go_enter Try.func46, Try.ntmps46
  go_wp2
  go_loopg [7] N (fun kq v7 W' => ∃ (k : Nat), v7 = .int .i64 ((k : Int) + 1) ∧ k + 1 ≤ N ∧ kq = N - k ∧ Hid (∀ j, 1 ≤ j → j < k + 1 → mlen b p j < n) ∧ Hid (∃ m, W' = w.drewN m))
  case atStart => exact ⟨0, rfl, by omega, rfl, Lib.hid (fun j h1 h2 => by omega), Lib.hid ⟨0, rfl⟩⟩
  case round =>
    obtain ⟨k, rfl, hk, hkq, HF, HD⟩ := hrel
    obtain ⟨m, hm⟩ := HD.out
    subst hm
    obtain ⟨q1, q2, q3⟩ := HNA.out (k + 1) (by omega) HF.out
    have hml := mrun_le b (reach p).toNat p (p - (k + 1)) hp
    obtain ⟨M, hM⟩ : ∃ M, mlen b p (k + 1) = M := ⟨_, rfl⟩
    have hMb : M ≤ 3744 := by rw [← hM]; unfold mlen; omega
    rw [hM] at q2 q3
    have HM := Lib.hid hM
    clear hml hM
    by_cases hlt : k + 1 < N
    · have h1 := q2 hlt
      have h2 : (M : Int) < n := by omega
      have hF2 : Hid (∀ j, 1 ≤ j → j < k + 1 + 1 → mlen b p j < n) := Lib.hid (fun j hj1 hj2 => by
        rcases Nat.lt_or_ge j (k + 1) with h | h
        · exact HF.out j hj1 h
        · obtain rfl : j = k + 1 := by omega
          rw [HM.out]; exact h1)
      clear q1 q2 q3 HF
      go_wp2_with (go_at_call 33; refine (Rmatch_any A c b p k hp (by omega) hb _ (HR.out.drewN m)).mono ?_; rintro e w' ⟨rfl, ⟨nd, rfl⟩⟩; rw [HM.out])
      go_roundg (N - (k + 1))
      case measure => omega
      case rel => exact ⟨k + 1, by go_num, by omega, rfl, hF2, Lib.hid ⟨_, rfl⟩⟩
    · have hkN : k + 1 = N := by omega
      have h1 := q3 hkN
      have h2 : ¬ (M : Int) < n := by omega
      have HKN : Hid ((k : Int) + 1 = N) := Lib.hid (by omega)
      clear q1 q2 q3 HF hkN
      go_wp2_with (go_at_call 33; refine (Rmatch_any A c b p k hp (by omega) hb _ (HR.out.drewN m)).mono ?_; rintro e w' ⟨rfl, ⟨nd, rfl⟩⟩; rw [HM.out])
      go_ret
      exact ⟨by rw [HN.out, ← HKN.out]; rfl, ⟨_, rfl⟩⟩
end Go.Proofs.Ytmlgjilflpdffaa
