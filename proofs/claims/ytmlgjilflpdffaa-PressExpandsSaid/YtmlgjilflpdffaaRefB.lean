/- Walk: the document's Tokens. -/
import Derived.Test.YtmlgjilflpdffaaRefA
import Derived.Test.YtmlgjilflpdffaaPutKeep
import Derived.StillTailTactics
import Derived.IntWalk
import Derived.Deep.RegionWith
import Derived.Deep.DrawnRows
namespace Go.Proofs.Ytmlgjilflpdffaa
open Go.RowKit Go.Deep
set_option linter.unusedVariables false
set_option linter.unusedSimpArgs false
attribute [local go_sem ↓] Go.wp_at_zero Go.wp_at_succ

/-- How the document's Tokens ends. -/
def RTokEnd (w : World) (r : Except Int (List Tok × Int)) (e : Ending) (w' : World) : Prop :=
  (match r with
    | .error k => e = .returned (.tuple #[.slice none 0 0, .int .i64 k])
    | .ok (ts, _) => ∃ v, e = .returned (.tuple #[v, .int .i64 0]) ∧ w'.ownsRow w.heap.size 35 4 v ts.length (toksCells ts)) ∧ Below w.heap.size w w'

theorem own_far {w : World} {base : Nat} {e : TypeId} {size n : Nat} {v u : Value} {xs : List Value} {p : Addr} (h : w.ownsRow base e size v n xs) (hp : ∀ k, v.ownBlock = some k → k ≠ p.block) : (w.setCell p u).ownsRow base e size v n xs := by
  obtain ⟨h1, h2 | ⟨g, cap, cur, rfl, hg, hh, r⟩⟩ := h
  · exact ⟨h1, .inl h2⟩
  · exact ⟨h1, .inr ⟨g, cap, cur, rfl, hg, (Below.heap_setCell w p u g (hp g rfl)).trans hh, r⟩⟩

set_option maxRecDepth 100000 in
set_option maxHeartbeats 8000000 in
theorem RTokens_any (A : Option Addr) (c : Nat) (xs : List Int) (r : Except Int (List Tok × Int)) (w : World) (hr : Rd w .u8 A xs.length xs) (hb : Bytes xs) (hsz : xs.length ≤ 100000) (h : tokensM (xs.length + 1) xs 0 [] = r) :
    Calls Try.prog 20 #[.slice A xs.length c] w (RTokEnd w r) := by
  obtain ⟨i0, hi, hz0, hz1, hz2⟩ := info_parts info35
  have H := Lib.hid h
  have HR := Lib.hid hr
  have HBy := Lib.hid hb
  clear h hr hb
  go_enter Try.func20, Try.ntmps20
  go_wp2
  go_loopg [4, 5, 6] (xs.length + 1) (fun kq v4 v5 v6 W => ∃ (ts : List Tok) (p : Int) (a : Nat), v5 = .int .i64 p ∧ v6 = .int .i64 a ∧ 0 ≤ p ∧ p ≤ 3744 ∧ a ≤ xs.length ∧
    Hid (tokensM kq (xs.drop a) p ts = r) ∧ Hid (W.ownsRow w.heap.size 35 4 v4 ts.length (toksCells ts)) ∧ Hid (Below w.heap.size w W) ∧ Hid (ts.length ≤ a) ∧ Hid (xs.length < kq + a))
  case atStart => exact ⟨[], 0, 0, rfl, rfl, by omega, by omega, by omega, by simpa using H, Lib.hid (World.ownsRow_nil _ _ _ _), Lib.hid (Below.refl _ _), Lib.hid (by simp), Lib.hid (by omega)⟩
  case round =>
    clear H
    obtain ⟨ts, p, a, rfl, rfl, h0, hp, ha, H, HO, HW, HL, HK⟩ := hrel
    cases gk with
    | zero => exact absurd HK.out (by omega)
    | succ k =>
      by_cases hlt : a < xs.length
      · have hlti : (a : Int) < xs.length := by omega
        obtain ⟨ad, e0, hcell⟩ := (HR.out.below HW.out).at_ a hlt
        subst e0
        have hxb := getD_bytes HBy.out a
        have h1 := H.out
        rw [drop_get xs a hlt] at h1
        simp only [tokensM] at h1
        obtain ⟨hd, hhd⟩ : ∃ hd, xs.getD a 0 = hd := ⟨_, rfl⟩
        rw [hhd] at h1 hcell hxb
        obtain ⟨g, hg⟩ : ∃ g, groupM 9 hd 0 (xs.drop (a + 1)) p ts = g := ⟨_, rfl⟩
        rw [hg] at h1
        have HG := Lib.hid hg
        have HH := Lib.hid h1
        clear hg h1 H hhd
        go_wp2
        go_loopg [4, 5, 6, 8] 9 (fun kq v4 v5 v6 v8 W => ∃ (us : List Tok) (q : Int) (a2 : Nat) (i : Int), v5 = .int .i64 q ∧ v6 = .int .i64 a2 ∧ v8 = .int .i64 i ∧ 0 ≤ q ∧ q ≤ 3744 ∧ 0 ≤ i ∧ i ≤ 8 ∧ a < a2 ∧ a2 ≤ xs.length ∧
          Hid (groupM kq hd i (xs.drop a2) q us = g) ∧ Hid (W.ownsRow w.heap.size 35 4 v4 us.length (toksCells us)) ∧ Hid (Below w.heap.size w W) ∧ Hid (us.length ≤ a2) ∧ Hid (8 < kq + i))
        case atStart => exact ⟨ts, p, a + 1, 0, rfl, by go_num, rfl, h0, hp, by omega, by omega, by omega, by omega, HG, HO, HW, Lib.hid (by have := HL.out; omega), Lib.hid (by omega)⟩
        case round =>
          clear HG HO HW HL hcell
          obtain ⟨us, q, a2, i, rfl, rfl, rfl, hq0, hq, hi0, hi8, haa, ha2, HG, HO, HW, HL, HK2⟩ := hrel
          cases gk with
          | zero => exact absurd HK2.out (by omega)
          | succ k2 =>
            have hs8 := shr_u8 hd i hxb.1 hxb.2
            by_cases hin : i < 8 ∧ a2 < xs.length
            · obtain ⟨h8, hlt2⟩ := hin
              have hlti2 : (a2 : Int) < xs.length := by omega
              obtain ⟨ad', e1, hc1⟩ := (HR.out.below HW.out).at_ a2 hlt2
              obtain rfl : ad = ad' := by injection e1
              have hyb := getD_bytes HBy.out a2
              have hg := HG.out
              unfold groupM at hg
              rw [if_pos ⟨h8, by rw [drop_get xs a2 hlt2]; simp⟩] at hg
              obtain ⟨x, hx⟩ : ∃ x, xs.getD a2 0 = x := ⟨_, rfl⟩
              rw [hx] at hc1 hyb
              have HX := Lib.hid hx
              cases hbv : bit hd i with
              | false =>
                have hbit : (hd / 2 ^ i.toNat % 2 == 1) = false := by
                  have h := hbv
                  unfold bit at h
                  simpa using h
                have htk : tokM (xs.drop a2) false q = .ok (lit x, xs.drop (a2 + 1)) := by rw [drop_get xs a2 hlt2, hx]; rfl
                rw [hbv, htk] at hg
                simp only at hg
                clear HG hx htk hbv e1
                go_wp2_with (first | (go_at_call 37; refine (Rliteral_any x _).mono ?_; rintro e w1 ⟨rfl, hB1⟩; (have HB1 := Lib.hid hB1); clear hB1))
                obtain ⟨bx, hbx⟩ : ∃ bx, w1.heap.size = bx := ⟨_, rfl⟩
                have HBX : Hid ((w1.alloc (.cells #[.bool (lit x).copy, .int .u8 (lit x).byte, .int .i64 (lit x).back, .int .i64 (lit x).many] 35)).heap[bx]? = some (.cells #[.bool (lit x).copy, .int .u8 (lit x).byte, .int .i64 (lit x).back, .int .i64 (lit x).many] 35 (0, 0))) := Lib.hid (by rw [← hbx]; exact heap_alloc_new w1 _)
                have HO4 : Hid ((w1.alloc (.cells #[.bool (lit x).copy, .int .u8 (lit x).byte, .int .i64 (lit x).back, .int .i64 (lit x).many] 35)).ownsRow w.heap.size 35 4 u4 us.length (toksCells us)) := Lib.hid (World.ownsRow.alloc (own_keep HO.out HB1.out) _)
                have HW4 : Hid (Below w.heap.size w (w1.alloc (.cells #[.bool (lit x).copy, .int .u8 (lit x).byte, .int .i64 (lit x).back, .int .i64 (lit x).many] 35))) := Lib.hid (below_al (below_then HW.out HW.out.size HB1.out) _)
                have hbxl : bx < (w1.alloc (.cells #[.bool (lit x).copy, .int .u8 (lit x).byte, .int .i64 (lit x).back, .int .i64 (lit x).many] 35)).heap.size := by rw [← hbx]; simp
                have HNE : Hid (∀ k, u4.ownBlock = some k → k ≠ bx) := Lib.hid (fun k hk => by have h1 := (HO.out.lt k hk).2; have h2 := HB1.out.size; omega)
                simp only [lit] at HBX HO4 HW4 hbxl
                obtain ⟨W4, hW4⟩ : ∃ W4, w1.alloc (.cells #[.bool false, .int .u8 x, .int .i64 0, .int .i64 0] 35) = W4 := ⟨_, rfl⟩
                rw [hW4] at HBX HO4 HW4 hbxl
                rw [hW4, hbx]
                clear hW4 hbx HB1 hc1
                have hvr := validM_r (lit x) q 4
                cases hrv : rvalid (lit x) q with
                | false =>
                  rw [hrv] at hvr
                  simp only [Bool.false_eq_true, if_false] at hvr
                  rw [hvr] at hg
                  have HG3 := Lib.hid hg
                  clear hg hvr
                  go_at_call 39
                  refine (Rvalid_any (lit x) q _ hq0 hq).mono ?_
                  rintro e w2 ⟨rfl, hB2⟩
                  rw [hrv]
                  have HB2 := Lib.hid (below_then HW4.out HW4.out.size hB2)
                  clear hB2 hrv
                  go_wp2
                  go_ret2
                  have h1 := HH.out
                  rw [← HG3.out] at h1
                  rw [← h1]
                  exact ⟨rfl, HB2.out⟩
                | true =>
                  rw [hrv] at hvr
                  simp only [if_true] at hvr
                  have hsz2 := rvalid_size hrv
                  obtain ⟨z, hz⟩ : ∃ z, sizT (lit x) = z := ⟨_, rfl⟩
                  rw [hz] at hvr hsz2
                  have HZ := Lib.hid hz
                  clear hz
                  by_cases hbig : 3744 < q + z
                  · rw [if_pos hbig] at hvr
                    rw [hvr] at hg
                    have HG3 := Lib.hid hg
                    clear hg hvr
                    go_at_call 39
                    refine (Rvalid_any (lit x) q _ hq0 hq).mono ?_
                    rintro e w2 ⟨rfl, hB2⟩
                    rw [hrv]
                    have HBX2 := Lib.hid ((hB2.block bx hbxl).trans HBX.out)
                    have HB2 := Lib.hid (below_then HW4.out HW4.out.size hB2)
                    obtain ⟨⟨m0, m1, m2, m3⟩, -, -⟩ := cells4 HBX2.out
                    clear hB2 hrv
                    go_wp2_with (go_at_call 40; refine (Rsize_any (lit x) _).mono ?_; rintro e w3 ⟨rfl, hB3⟩; rw [HZ.out]; (have HB3 := Lib.hid (below_then HB2.out HB2.out.size hB3)); clear hB3)
                    go_ret2
                    have h1 := HH.out
                    rw [← HG3.out] at h1
                    rw [← h1]
                    exact ⟨rfl, HB3.out⟩
                  · rw [if_neg hbig] at hvr
                    rw [hvr] at hg
                    simp only at hg
                    have HG3 := Lib.hid hg
                    clear hg hvr
                    have hul := HL.out
                    go_at_call 39
                    refine (Rvalid_any (lit x) q _ hq0 hq).mono ?_
                    rintro e w2 ⟨rfl, hB2⟩
                    rw [hrv]
                    have HBX2 := Lib.hid ((hB2.block bx hbxl).trans HBX.out)
                    have HO2 := Lib.hid (own_keep HO4.out hB2)
                    have HB2 := Lib.hid (below_then HW4.out HW4.out.size hB2)
                    obtain ⟨⟨m0, m1, m2, m3⟩, -, hl2⟩ := cells4 HBX2.out
                    clear hB2 hrv
                    go_wp2_with (first
                      | ((have hgd := HBX4); clear hgd; go_at_call 40; refine (Rsize_any (lit x) _).mono ?_; rintro e w5 ⟨rfl, hB5⟩; rw [HZ.out]; (have HO5 := Lib.hid (own_keep HOa.out hB5)); (have HB5 := Lib.hid (below_then HBa.out HBa.out.size hB5)); clear hB5)
                      | (go_at_call 40; refine (Rsize_any (lit x) _).mono ?_; rintro e w3 ⟨rfl, hB3⟩; rw [HZ.out]; (have HBX3 := Lib.hid ((hB3.block bx hl2).trans HBX2.out)); obtain ⟨⟨n0, n1, n2, n3⟩, -, hl3⟩ := cells4 HBX3.out; (have HO3 := Lib.hid (own_keep HO2.out hB3)); (have HB3 := Lib.hid (below_then HB2.out HB2.out.size hB3)); clear hB3)
                      | (at_builtin; refine wpList_append_own _ rfl _ _ 31 rfl w.heap.size 35 i0 _ 4 24 Try.underlying31 hi hz0 hz1 hz2 rfl (by decide) _ us.length (toksCells us) rfl (World.ownsRow.alloc HO3.out _) ⟨w3.heap.size, 0, none⟩ 1 1 (tokCells (lit x)) rfl rfl (news_cells _ (tokCells (lit x)) _) (tok_one (lit x)) (by simp only [maxLen]; omega) (by omega) (by have := HB3.out.size; simp; omega) ?_; intro v4 w4 hown4 hgrow4 _; (have HBX4 := Lib.hid (grown_keep hgrow4 (heap_al HBX3.out) (fun k hk => HNE.out k hk))); obtain ⟨⟨o0, o1, o2, o3⟩, -, hl4⟩ := cells4 HBX4.out; (have HOa := Lib.hid hown4); (have HBa := Lib.hid ((below_al HB3.out _).grown hgrow4 (by simp; have := HB3.out.size; omega) (fun kk hk => (HO3.out.lt kk hk).1))); clear hown4 hgrow4))
                    have hk2 := HK2.out
                    go_roundg k2
                    case measure => omega
                    case rel => exact ⟨us ++ [lit x], q + z, a2 + 1, i + 1, rfl, by go_num, by go_num, by omega, by omega, by omega, by omega, by omega, by omega, HG3, Lib.hid (by rw [List.length_append, toksCells_snoc]; exact HO5.out), HB5, Lib.hid (by simp; omega), Lib.hid (by omega)⟩
              | true =>
                have hbit : (hd / 2 ^ i.toNat % 2 == 1) = true := by
                  have h := hbv
                  unfold bit at h
                  simpa using h
                by_cases hl2 : a2 + 1 < xs.length
                · obtain ⟨y, hy⟩ : ∃ y, xs.getD (a2 + 1) 0 = y := ⟨_, rfl⟩
                  have hzb := getD_bytes HBy.out (a2 + 1)
                  obtain ⟨ad2, e2, hc2⟩ := (HR.out.below HW.out).at_ (a2 + 1) hl2
                  obtain rfl : ad = ad2 := by injection e2
                  rw [hy] at hzb hc2
                  have htk : tokM (xs.drop a2) true q = .ok (cpy ((x + y * 256) / gap q + 1) ((x + y * 256) % gap q + 3), xs.drop (a2 + 2)) := by
                    rw [drop_get xs a2 hlt2, hx, drop_get xs (a2 + 1) hl2, hy]; rfl
                  rw [hbv, htk] at hg
                  simp only at hg
                  have hl2i : (a2 : Int) + 1 < xs.length := by omega
                  have HC2 := Lib.hid hc2
                  have HC1 := Lib.hid hc1
                  clear HG hx htk hbv e1 e2 hy hc2
                  go_wp2_with (first | (go_at_call 37; refine (Rliteral_any x _).mono ?_; rintro e w1 ⟨rfl, hB1⟩; (have HB1 := Lib.hid hB1); clear hB1))
                  obtain ⟨bx, hbx⟩ : ∃ bx, w1.heap.size = bx := ⟨_, rfl⟩
                  obtain ⟨W4, hW4⟩ : ∃ W4, w1.alloc (.cells #[.bool false, .int .u8 x, .int .i64 0, .int .i64 0] 35) = W4 := ⟨_, rfl⟩
                  have HBX : Hid (W4.heap[bx]? = some (.cells #[.bool false, .int .u8 x, .int .i64 0, .int .i64 0] 35 (0, 0))) := Lib.hid (by rw [← hbx, ← hW4]; exact heap_alloc_new w1 _)
                  have HO4 : Hid (W4.ownsRow w.heap.size 35 4 u4 us.length (toksCells us)) := Lib.hid (by rw [← hW4]; exact World.ownsRow.alloc (own_keep HO.out HB1.out) _)
                  have HW4 : Hid (Below w.heap.size w W4) := Lib.hid (by rw [← hW4]; exact below_al (below_then HW.out HW.out.size HB1.out) _)
                  have hbxl : bx < W4.heap.size := by rw [← hbx, ← hW4]; simp
                  have HNE : Hid (∀ k, u4.ownBlock = some k → k ≠ bx) := Lib.hid (fun k hk => by have h1 := (HO.out.lt k hk).2; have h2 := HB1.out.size; omega)
                  have hd1 : W4.cell? (ad.add a2) = some (.int .u8 x) := by rw [← hW4]; exact cell_keep (one_alloc _ _) (cell_keep HB1.out HC1.out)
                  have hd2 : W4.cell? (ad.add (a2 + 1)) = some (.int .u8 y) := by rw [← hW4]; exact cell_keep (one_alloc _ _) (cell_keep HB1.out HC2.out)
                  have HBL : Hid (w.heap.size ≤ bx) := Lib.hid (by have h1 := HW.out.size; have h2 := HB1.out.size; omega)
                  rw [hW4, hbx]
                  clear hW4 hbx HB1 hc1 HC1 HC2
                  have hgb := gap_bd q
                  have hwb := widN_bd q
                  have hgp := gap_pow q
                  go_at_call 15
                  refine (RWidth_ok _ _ hq0 hq).mono ?_
                  rintro e w2 ⟨rfl, ⟨nd, rfl⟩⟩
                  go_wp2
                  have q1 : IntKind.i64.wrap ((a2 : Int) + 1) = (a2 : Int) + 1 := IntWalk.i64_in _ (by omega)
                  have q2 : (0 : Int) ≤ (a2 : Int) + 1 := by omega
                  have q3 : ((a2 : Int) + 1).toNat = a2 + 1 := by omega
                  rw [Addr.add_succ'] at hd2
                  go_quiet (fail)
                  clear q1 q2 q3 hd1 hd2
                  obtain ⟨N, hN⟩ : ∃ N, x + 256 * y = N := ⟨_, rfl⟩
                  rw [show x + y * 256 = N from by omega] at hg
                  rw [hN]
                  have hNb : 0 ≤ N ∧ N ≤ 65535 := by omega
                  obtain ⟨G, hG⟩ : ∃ G, gap q = G := ⟨_, rfl⟩
                  rw [hG] at hgp hgb hg
                  have hdv : 0 ≤ N / G ∧ N / G ≤ 65535 := ⟨Int.ediv_nonneg (by omega) (by omega), by have := Int.ediv_le_self (b := G) (show 0 ≤ N by omega); omega⟩
                  have hmd : 0 ≤ N % G ∧ N % G ≤ 4096 := ⟨Int.emod_nonneg _ (by omega), by have := Int.emod_lt_of_pos N (show 0 < G by omega); omega⟩
                  obtain ⟨bk, hbk⟩ : ∃ bk, N / G + 1 = bk := ⟨_, rfl⟩
                  obtain ⟨mn, hmn⟩ : ∃ mn, N % G + 3 = mn := ⟨_, rfl⟩
                  rw [hbk, hmn] at hg
                  have HBK := Lib.hid hbk
                  have HMN := Lib.hid hmn
                  have HG2 := Lib.hid hg
                  clear hG hN hbk hmn hg
                  go_wp2
                  have r1 : IntKind.i64.wrap (16 - widN q) = 16 - widN q := IntWalk.i64_in _ (by omega)
                  have r2 : (0 : Int) ≤ 16 - widN q := by omega
                  have r3 : IntKind.i64.wrap (N / G + 1) = N / G + 1 := IntWalk.i64_in _ (by omega)
                  have r4 : IntKind.i64.wrap (N % G + 3) = N % G + 3 := IntWalk.i64_in _ (by omega)
                  have r5 : IntKind.i64.wrap G = G := IntWalk.i64_in _ (by omega)
                  have r6 : N.tmod G = N % G := Int.tmod_eq_emod_of_nonneg (by omega)
                  go_region_with (go_at_call 38; go_loud (refine (Rcopied_any (N / G + 1) (N % G + 3) _).mono ?_; rintro e w5 ⟨rfl, hB5⟩; (have HBX5 := Lib.hid ((hB5.block bx (by simpa using hbxl)).trans HBX.out)); (have HO5 := Lib.hid (own_keep (w := W4.drewN (nd + nq + 1)) HO4.out hB5)); (have HB5 := Lib.hid (below_then (below_drewN HW4.out (nd + nq + 1)) HW4.out.size hB5)); obtain ⟨⟨m0, m1, m2, m3⟩, hmz, hl5⟩ := cells4 HBX5.out; clear hB5))
                  rw [HBK.out, HMN.out]
                  obtain ⟨W6, hW6⟩ : ∃ W6, ((((w5.setCell ⟨bx, 0, none⟩ (.bool true)).setCell ⟨bx, 1, none⟩ (.int .u8 0)).setCell ⟨bx, 2, none⟩ (.int .i64 bk)).setCell ⟨bx, 3, none⟩ (.int .i64 mn)) = W6 := ⟨_, rfl⟩
                  have HBX6 : Hid (W6.heap[bx]? = some (.cells #[.bool true, .int .u8 0, .int .i64 bk, .int .i64 mn] 35 (0, 0))) := Lib.hid (by rw [← hW6]; exact put4 HBX5.out)
                  have HO6 : Hid (W6.ownsRow w.heap.size 35 4 u4 us.length (toksCells us)) := Lib.hid (by rw [← hW6]; exact own_far (own_far (own_far (own_far HO5.out (fun k hk => HNE.out k hk)) (fun k hk => HNE.out k hk)) (fun k hk => HNE.out k hk)) (fun k hk => HNE.out k hk))
                  have HW6 : Hid (Below w.heap.size w W6) := Lib.hid (by rw [← hW6]; exact below4 _ _ _ _ HB5.out HBL.out)
                  have hbxl : bx < W6.heap.size := by rw [← hW6]; simpa using hl5
                  rw [hW6]
                  have hg := HG2.out
                  have hbk1 : 1 ≤ bk := by rw [← HBK.out]; omega
                  have hmn3 : 3 ≤ mn := by rw [← HMN.out]; omega
                  clear hW6 m0 m1 m2 m3 hmz hl5 r1 r2 r3 r4 r5 r6 hgp hdv hmd HO4 HW4 HBX HBX5 HO5 HB5
                  obtain ⟨⟨m0, m1, m2, m3⟩, -, -⟩ := cells4 HBX6.out
                  go_wp2_with fail
                  clear m0 m1 m2 m3
                  have hvr := validM_r (cpy bk mn) q 4
                  cases hrv : rvalid (cpy bk mn) q with
                  | false =>
                    rw [hrv] at hvr
                    simp only [Bool.false_eq_true, if_false] at hvr
                    rw [hvr] at hg
                    have HG3 := Lib.hid hg
                    clear hg hvr
                    go_at_call 39
                    refine (Rvalid_any (cpy bk mn) q _ hq0 hq).mono ?_
                    rintro e w2 ⟨rfl, hB2⟩
                    rw [hrv]
                    have HB2 := Lib.hid (below_then HW6.out HW6.out.size hB2)
                    clear hB2 hrv
                    go_wp2
                    go_ret2
                    have h1 := HH.out
                    rw [← HG3.out] at h1
                    rw [← h1]
                    exact ⟨rfl, HB2.out⟩
                  | true =>
                    rw [hrv] at hvr
                    simp only [if_true] at hvr
                    have hsz2 := rvalid_size hrv
                    obtain ⟨z, hz⟩ : ∃ z, sizT (cpy bk mn) = z := ⟨_, rfl⟩
                    rw [hz] at hvr hsz2
                    have HZ := Lib.hid hz
                    clear hz
                    by_cases hbig : 3744 < q + z
                    · rw [if_pos hbig] at hvr
                      rw [hvr] at hg
                      have HG3 := Lib.hid hg
                      clear hg hvr
                      go_at_call 39
                      refine (Rvalid_any (cpy bk mn) q _ hq0 hq).mono ?_
                      rintro e w2 ⟨rfl, hB2⟩
                      rw [hrv]
                      have HBX2 := Lib.hid ((hB2.block bx hbxl).trans HBX6.out)
                      have HB2 := Lib.hid (below_then HW6.out HW6.out.size hB2)
                      obtain ⟨⟨m0, m1, m2, m3⟩, -, -⟩ := cells4 HBX2.out
                      clear hB2 hrv
                      go_wp2_with (go_at_call 40; refine (Rsize_any (cpy bk mn) _).mono ?_; rintro e w3 ⟨rfl, hB3⟩; rw [HZ.out]; (have HB3 := Lib.hid (below_then HB2.out HB2.out.size hB3)); clear hB3)
                      go_ret2
                      have h1 := HH.out
                      rw [← HG3.out] at h1
                      rw [← h1]
                      exact ⟨rfl, HB3.out⟩
                    · rw [if_neg hbig] at hvr
                      rw [hvr] at hg
                      simp only at hg
                      have HG3 := Lib.hid hg
                      clear hg hvr
                      have hul := HL.out
                      go_at_call 39
                      refine (Rvalid_any (cpy bk mn) q _ hq0 hq).mono ?_
                      rintro e w2 ⟨rfl, hB2⟩
                      rw [hrv]
                      have HBX2 := Lib.hid ((hB2.block bx hbxl).trans HBX6.out)
                      have HO2 := Lib.hid (own_keep HO6.out hB2)
                      have HB2 := Lib.hid (below_then HW6.out HW6.out.size hB2)
                      obtain ⟨⟨m0, m1, m2, m3⟩, -, hl2⟩ := cells4 HBX2.out
                      clear hB2 hrv
                      go_wp2_with (first
                        | ((have hgd := HBX4); clear hgd; go_at_call 40; refine (Rsize_any (cpy bk mn) _).mono ?_; rintro e w5 ⟨rfl, hB5⟩; rw [HZ.out]; (have HO5 := Lib.hid (own_keep HOa.out hB5)); (have HB5 := Lib.hid (below_then HBa.out HBa.out.size hB5)); clear hB5)
                        | (go_at_call 40; refine (Rsize_any (cpy bk mn) _).mono ?_; rintro e w3 ⟨rfl, hB3⟩; rw [HZ.out]; (have HBX3 := Lib.hid ((hB3.block bx hl2).trans HBX2.out)); obtain ⟨⟨n0, n1, n2, n3⟩, -, hl3⟩ := cells4 HBX3.out; (have HO3 := Lib.hid (own_keep HO2.out hB3)); (have HB3 := Lib.hid (below_then HB2.out HB2.out.size hB3)); clear hB3)
                        | (at_builtin; refine wpList_append_own _ rfl _ _ 31 rfl w.heap.size 35 i0 _ 4 24 Try.underlying31 hi hz0 hz1 hz2 rfl (by decide) _ us.length (toksCells us) rfl (World.ownsRow.alloc HO3.out _) ⟨w3.heap.size, 0, none⟩ 1 1 (tokCells (cpy bk mn)) rfl rfl (news_cells _ (tokCells (cpy bk mn)) _) (tok_one (cpy bk mn)) (by simp only [maxLen]; omega) (by omega) (by have := HB3.out.size; simp; omega) ?_; intro v4 w4 hown4 hgrow4 _; (have HBX4 := Lib.hid (grown_keep hgrow4 (heap_al HBX3.out) (fun k hk => HNE.out k hk))); obtain ⟨⟨o0, o1, o2, o3⟩, -, hl4⟩ := cells4 HBX4.out; (have HOa := Lib.hid hown4); (have HBa := Lib.hid ((below_al HB3.out _).grown hgrow4 (by simp; have := HB3.out.size; omega) (fun kk hk => (HO3.out.lt kk hk).1))); clear hown4 hgrow4))
                      have hk2 := HK2.out
                      go_roundg k2
                      case measure => omega
                      case rel => exact ⟨us ++ [cpy bk mn], q + z, a2 + 2, i + 1, rfl, by go_num, by go_num, by omega, by omega, by omega, by omega, by omega, by omega, HG3, Lib.hid (by rw [List.length_append, toksCells_snoc]; exact HO5.out), HB5, Lib.hid (by simp; omega), Lib.hid (by omega)⟩
                · have htk : tokM (xs.drop a2) true q = .error 4 := by
                    rw [drop_get xs a2 hlt2, List.drop_eq_nil_of_le (by omega)]; rfl
                  rw [hbv, htk] at hg
                  simp only at hg
                  have hl2i : ¬ (a2 : Int) + 1 < xs.length := by omega
                  have HG3 := Lib.hid hg
                  clear hg HG hx htk hbv e1
                  go_wp2_with (first | (go_at_call 37; refine (Rliteral_any x _).mono ?_; rintro e w1 ⟨rfl, hB1⟩; (have HB1 := Lib.hid (below_al (below_then HW.out HW.out.size hB1) (.cells #[.bool false, .int .u8 x, .int .i64 0, .int .i64 0] 35))); clear hB1))
                  go_ret2
                  have h1 := HH.out
                  rw [← HG3.out] at h1
                  rw [← h1]
                  exact ⟨rfl, HB1.out⟩
            · have hg0 : g = .ok (i, xs.drop a2, q, us) := by
                have h1 := HG.out
                rw [groupM_stop k2 hd i (xs.drop a2) q us (by
                  rintro ⟨e1, e2⟩
                  refine hin ⟨e1, ?_⟩
                  rcases Nat.lt_or_ge a2 xs.length with h | h
                  · exact h
                  · exact absurd (List.drop_eq_nil_of_le h) e2)] at h1
                exact h1.symm
              have hrr := HH.out
              rw [hg0] at hrr
              simp only [afterM] at hrr
              have hl2 := HL.out
              have hkk := HK.out
              by_cases hi00 : i = 0
              · rw [if_pos (.inl hi00)] at hrr
                subst hi00
                have hae : a2 = xs.length := by omega
                have hlti2 : ¬ (a2 : Int) < xs.length := by omega
                have HRR := Lib.hid hrr
                clear hrr hg0 hin HG
                go_wp2
                go_ret2
                rw [← HRR.out]
                exact ⟨rfl, HW.out⟩
              · have hi0b : (i == 0) = false := by simpa using hi00
                by_cases hsh : hd / 2 ^ i.toNat = 0
                · rw [if_neg (by rintro (h | h); exact hi00 h; exact h hsh)] at hrr
                  have hshb : (hd / 2 ^ i.toNat != 0) = false := by simpa using hsh
                  have HRR := Lib.hid hrr
                  clear hrr hg0 HG
                  by_cases h8 : i < 8
                  · have hlti2 : ¬ (a2 : Int) < xs.length := by omega
                    clear hin
                    go_wp2
                    go_roundg k
                    case measure => omega
                    case rel => exact ⟨us, q, a2, rfl, rfl, hq0, hq, ha2, HRR, HO, HW, HL, Lib.hid (by omega)⟩
                  · clear hin
                    go_wp2
                    go_roundg k
                    case measure => omega
                    case rel => exact ⟨us, q, a2, rfl, rfl, hq0, hq, ha2, HRR, HO, HW, HL, Lib.hid (by omega)⟩
                · rw [if_pos (.inr hsh)] at hrr
                  have hshb : (hd / 2 ^ i.toNat != 0) = true := by simpa using hsh
                  have HRR := Lib.hid hrr
                  clear hrr hg0 HG
                  by_cases h8 : i < 8
                  · have hlti2 : ¬ (a2 : Int) < xs.length := by omega
                    clear hin
                    go_wp2
                    go_ret2
                    rw [← HRR.out]
                    exact ⟨rfl, HW.out⟩
                  · clear hin
                    go_wp2
                    go_ret2
                    rw [← HRR.out]
                    exact ⟨rfl, HW.out⟩
      · obtain rfl : a = xs.length := by omega
        have h1 := H.out
        rw [List.drop_length] at h1
        simp only [tokensM] at h1
        have HRR := Lib.hid h1
        clear h1 H
        go_wp2
        go_ret2
        rw [← HRR.out]
        exact ⟨⟨_, rfl, HO.out⟩, HW.out⟩
end Go.Proofs.Ytmlgjilflpdffaa
