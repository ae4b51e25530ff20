/- Walk: choose. -/
import Derived.Test.YtmlgjilflpdffaaWalkP
import Derived.Test.YtmlgjilflpdffaaChoose
import Derived.WalkMore
namespace Go.Proofs.Ytmlgjilflpdffaa
open Go.RowKit Go.Deep Go.Shelf
set_option linter.unusedVariables false
set_option linter.unusedSimpArgs false
attribute [local go_sem] Oper.semAt_some

/-- A block of four cells. -/
theorem cells4 {w : World} {n : Nat} {v0 v1 v2 v3 : Value} {t : TypeId} (h : w.heap[n]? = some (.cells #[v0, v1, v2, v3] t (0, 0))) :
    (w.cell? ⟨n, 0, none⟩ = some v0 ∧ w.cell? ⟨n, 1, none⟩ = some v1 ∧ w.cell? ⟨n, 2, none⟩ = some v2 ∧ w.cell? ⟨n, 3, none⟩ = some v3) ∧ (∀ o, w.frozen? ⟨n, o, none⟩ = false) ∧ n < w.heap.size :=
  ⟨⟨by rw [cell_of_row _ _ _ _ _ _ h]; rfl, by rw [cell_of_row _ _ _ _ _ _ h]; rfl, by rw [cell_of_row _ _ _ _ _ _ h]; rfl, by rw [cell_of_row _ _ _ _ _ _ h]; rfl⟩, fun o => by simp [World.frozen?, h], (Array.getElem?_eq_some_iff.1 h).1⟩
theorem put4 {w : World} {n : Nat} {v0 v1 v2 v3 u0 u1 u2 u3 : Value} {t : TypeId} (h : w.heap[n]? = some (.cells #[v0, v1, v2, v3] t (0, 0))) :
    ((((w.setCell ⟨n, 0, none⟩ u0).setCell ⟨n, 1, none⟩ u1).setCell ⟨n, 2, none⟩ u2).setCell ⟨n, 3, none⟩ u3).heap[n]? = some (.cells #[u0, u1, u2, u3] t (0, 0)) := by
  simp [World.setCell, Array.getElem?_modify, h]
theorem below4 {m : Nat} {w W : World} {n : Nat} (u0 u1 u2 u3 : Value) (h : Below m w W) (hn : m ≤ n) : Below m w ((((W.setCell ⟨n, 0, none⟩ u0).setCell ⟨n, 1, none⟩ u1).setCell ⟨n, 2, none⟩ u2).setCell ⟨n, 3, none⟩ u3) :=
  (((h.setCell hn u0).setCell hn u1).setCell hn u2).setCell hn u3

set_option maxRecDepth 100000 in
set_option maxHeartbeats 4000000 in
theorem choose_in (A : Option Addr) (c : Nat) (b : List Int) (p : Nat) (hp : p < b.length) (hb : b.length ≤ 3744) (G : Option Addr) (cg : Nat) (cs : List Int) (hcs : cs.length = b.length + 1) (w : World) (hR : Rd w .u8 A b.length b) (hG : Rd w .i64 G cs.length cs) (hcb : ∀ j, 0 ≤ cs.getD j 0 ∧ cs.getD j 0 ≤ 1000000) :
    CallsIn Fence.wide 4 Try.prog 44 #[.slice A b.length c, .int .i64 p, .slice G cs.length cg] w fun e W' => e = .returned (chooseM b p cs).val ∧ Below w.heap.size w W' := by
  have hA : ∀ ad, A = some ad → ad.block < w.heap.size := fun ad e => by
    obtain ⟨ad', e', hc⟩ := hR.at_ p hp
    rw [e] at e'; cases e'
    have := World.block_lt_of_cell? w _ hc
    rwa [add_block] at this
  have HR := Lib.hid hR
  have HA := Lib.hid hA
  have HG := Lib.hid hG
  have HCB := Lib.hid hcb
  clear hR hA hG hcb
  obtain ⟨n, hn⟩ : ∃ n, w.heap.size = n := ⟨_, rfl⟩
  rw [hn]
  have HN := Lib.hid (Nat.le_of_eq hn.symm)
  have HN2 := Lib.hid hn
  refine callsIn_of_wp_marks Try.func44 rfl trivial ?_ rfl
  simp only [Try.ntmps44, List.size_toArray, List.length_cons, List.length_nil, Nat.reduceAdd, Nat.reduceSub, Array.replicate_succ, Array.replicate_zero, List.push_toArray, List.append_toArray, List.nil_append, List.cons_append]
  obtain ⟨l1, l2, hl⟩ : ∃ l1 l2, longestM b p = (l1, l2) := ⟨_, _, rfl⟩
  have hlp := longest_props b p (by omega)
  rw [hl] at hlp
  have hl2 : p + l2 ≤ b.length := hlp.2.1
  have HL := Lib.hid hl
  clear hlp hl hn
  refine wpIn_wide.2 ?_
  go_wp2
  go_step3
  go_wp2_with (go_at_call 32; refine (longest_any A c b p (by omega) hb _ (HR.out.below (one_alloc _ _)) (lt_block HA.out (by simp))).mono ?_; rintro e w1 ⟨rfl, hB⟩; rw [HL.out])
  go_step3
  go_wp2
  rw [HN2.out]
  have hr0 : w1.heap[n]? = some (.cells #[.bool false, .int .u8 0, .int .i64 0, .int .i64 0] 35 (0, 0)) := by
    have := hB.block n (by simp [HN2.out])
    rw [this, ← HN2.out]
    exact heap_alloc_new w _
  have hB1 : Below n w w1 := by rw [← HN2.out]; exact below_then (one_alloc w _) (by simp) hB
  have hs1 : n < w1.heap.size := by have h1 := hB.size; have h2 := HN2.out; simp at h1; omega
  have hm1 : (w1.alloc (.cells #[.int .i64 (l2 : Int)] 3)).heap[w1.heap.size]? = some (.cells #[.int .i64 (l2 : Int)] 3 (0, 0)) := heap_alloc_new w1 _
  have hr1 : (w1.alloc (.cells #[.int .i64 (l2 : Int)] 3)).heap[n]? = some (.cells #[.bool false, .int .u8 0, .int .i64 0, .int .i64 0] 35 (0, 0)) := by rw [heap_alloc_old _ _ hs1, hr0]
  have HM1 := Lib.hid hm1
  have HR1 := Lib.hid hr1
  have HB1 := Lib.hid (hB1.alloc (by omega) (.cells #[.int .i64 (l2 : Int)] 3))
  have HS1 := Lib.hid hs1
  clear hr0 hB1 hs1 hm1 hr1
  go_loopg [9] (l2 + 1) (fun kq v9 W => ∃ (B m : Nat), v9 = .pointer (some ⟨B, 0, none⟩) ∧ kq = m + 1 ∧ m ≤ l2 ∧ n < B ∧ Hid (W.heap[B]? = some (.cells #[.int .i64 (m : Int)] 3 (0, 0))) ∧ Hid (W.heap[n]? = some (.cells #[.bool false, .int .u8 0, .int .i64 0, .int .i64 0] 35 (0, 0))) ∧ Hid (Below n w W) ∧ Hid (chooseF b p cs m = chooseM b p cs))
  case atStart => exact ⟨w1.heap.size, l2, rfl, rfl, Nat.le_refl _, HS1.out, HM1, HR1, HB1, Lib.hid (by unfold chooseM; rw [HL.out])⟩
  case round =>
    obtain ⟨B, m, rfl, hkq, hm, hnB, HMB, HRB, HB, HC⟩ := hrel
    obtain ⟨hcB, hfB, hszB⟩ := one_cell HMB.out
    by_cases h3 : 3 ≤ m
    · have h3i : (3 : Int) ≤ m := by omega
      obtain ⟨ae, hAe, hc1⟩ := (HG.out.below (by rw [HN2.out]; exact HB.out)).at_ p (by omega)
      subst hAe
      obtain ⟨ae2, hAe2, hc2⟩ := (HG.out.below (by rw [HN2.out]; exact HB.out)).at_ (p + m) (by omega)
      obtain rfl : ae = ae2 := by injection hAe2
      have hb1 := HCB.out p
      have hb2 := HCB.out (p + m)
      obtain ⟨y0, hy0⟩ : ∃ y0, cs.getD p 0 = y0 := ⟨_, rfl⟩
      obtain ⟨y1, hy1⟩ : ∃ y1, cs.getD (p + m) 0 = y1 := ⟨_, rfl⟩
      rw [hy0] at hc1 hb1
      rw [hy1] at hc2 hb2
      have HY0 := Lib.hid hy0
      have HY1 := Lib.hid hy1
      have hpi : (p : Int) < (b.length : Int) + 1 := by omega
      have hpm : (p : Int) + m < (b.length : Int) + 1 := by omega
      clear hy0 hy1 hAe2
      by_cases heq : y0 = y1 + 17
      · have hd : (y0 == y1 + 17) = true := by simpa using heq
        have HC2 : Hid (chooseM b p cs = cpy (nearM b p m) m) := Lib.hid (by
          rw [← HC.out]
          obtain ⟨m', rfl⟩ : ∃ m', m = m' + 1 := ⟨m - 1, by omega⟩
          unfold chooseF
          rw [if_pos ⟨h3, by rw [HY0.out, HY1.out]; exact heq⟩])
        have HNE : ¬ y0 ≠ y1 + 17 := by omega
        go_wp2
        go_quiet (fail)
        obtain ⟨wq, hq⟩ : ∃ wq, wr.drewN nq = wq := ⟨_, rfl⟩
        have HRq : Hid (wq.heap[n]? = some (.cells #[.bool false, .int .u8 0, .int .i64 0, .int .i64 0] 35 (0, 0))) := Lib.hid (by rw [← hq]; exact HRB.out)
        have HMq : Hid (wq.heap[B]? = some (.cells #[.int .i64 (m : Int)] 3 (0, 0))) := Lib.hid (by rw [← hq]; exact HMB.out)
        have HBq : Hid (Below n w wq) := Lib.hid (by rw [← hq]; exact below_drewN HB.out nq)
        have hnq : B < wq.heap.size := by rw [← hq]; exact hszB
        rw [hq]
        clear hq hcB hfB HMB HRB HB hc1 hc2
        go_wp2_with (go_at_call 47; refine (matches_any A b.length c p wq).mono ?_; rintro e w' ⟨rfl, rfl⟩)
        have hsz : ((wq.alloc (.cells #[.slice A b.length c] 22)).alloc (.cells #[.int .i64 (p : Int)] 3)).heap.size = wq.heap.size + 2 := by simp
        have hn2 : n < wq.heap.size + 2 := by omega
        have e0 : ((wq.alloc (.cells #[.slice A b.length c] 22)).alloc (.cells #[.int .i64 (p : Int)] 3)).heap[wq.heap.size]? = some (.cells #[.slice A b.length c] 22 (0, 0)) := by
          rw [heap_alloc_old _ _ (by simp), heap_alloc_new]
        have e1 : ((wq.alloc (.cells #[.slice A b.length c] 22)).alloc (.cells #[.int .i64 (p : Int)] 3)).heap[wq.heap.size + 1]? = some (.cells #[.int .i64 (p : Int)] 3 (0, 0)) := by
          have := heap_alloc_new (wq.alloc (.cells #[.slice A b.length c] 22)) (.cells #[.int .i64 (p : Int)] 3)
          simpa using this
        have e2 : ((wq.alloc (.cells #[.slice A b.length c] 22)).alloc (.cells #[.int .i64 (p : Int)] 3)).heap[n]? = some (.cells #[.bool false, .int .u8 0, .int .i64 0, .int .i64 0] 35 (0, 0)) := by
          rw [heap_alloc_old _ _ (by simp; omega), heap_alloc_old _ _ (by omega), HRq.out]
        have e3 : ((wq.alloc (.cells #[.slice A b.length c] 22)).alloc (.cells #[.int .i64 (p : Int)] 3)).heap[B]? = some (.cells #[.int .i64 (m : Int)] 3 (0, 0)) := by
          rw [heap_alloc_old _ _ (by simp; omega), heap_alloc_old _ _ hnq, HMq.out]
        have hB0 : Below n w ((wq.alloc (.cells #[.slice A b.length c] 22)).alloc (.cells #[.int .i64 (p : Int)] 3)) := (HBq.out.alloc (by omega) _).alloc (by simp; omega) _
        obtain ⟨W0, hW0⟩ : ∃ W0, ((wq.alloc (.cells #[.slice A b.length c] 22)).alloc (.cells #[.int .i64 (p : Int)] 3)) = W0 := ⟨_, rfl⟩
        rw [hW0] at hsz e0 e1 e2 e3 hB0 ⊢
        obtain ⟨q, hqs⟩ : ∃ q, wq.heap.size = q := ⟨_, rfl⟩
        rw [hqs] at hsz hn2 e0 e1 hnq ⊢
        clear hW0 hqs HRq HMq HBq
        obtain ⟨c0, -, -⟩ := one_cell e0
        obtain ⟨c1, -, -⟩ := one_cell e1
        refine (wpIn_wide (n := 4)).1 ?_
        refine wpIn_rangeFunc_ownF (n := 4) rfl (by omega) (gf := 51) (lb := #[.pointer (some ⟨q + 1, 0, none⟩), .pointer (some ⟨q, 0, none⟩)]) rfl trivial (enters_of Try.func51 (by kernel_rfl) rfl)
          (matches_stops 3 (by omega) (q + 1) q (fun k => k < q + 2 ∧ k ≠ n) A c b p (by omega) hb W0 c1 c0 (fun k hk => by rw [hsz]; exact hk.1) (by omega) (by omega) (HR.out.below (by rw [HN2.out]; exact hB0)) (fun ad e => by have := HA.out ad e; have := HN2.out; omega))
          (fun h k => h.trans k) (fun W l o o' hl _ _ _ k hk => ?hkb) (Below.refl _ _) (fun _ => rfl)
          (fun pre W => ((∀ y ∈ pre, y.2 < m) ∧ W.heap[n]? = some (.cells #[.bool false, .int .u8 0, .int .i64 0, .int .i64 0] 35 (0, 0)) ∧ W.heap[B]? = some (.cells #[.int .i64 (m : Int)] 3 (0, 0))) ∧ Below n w W)
          (fun cd pre W => (cd = .ret ∧ ∃ ys x, pre = ys ++ [x] ∧ (∀ y ∈ ys, y.2 < m) ∧ m ≤ x.2 ∧ W.heap[n]? = some (.cells #[.bool true, .int .u8 0, .int .i64 (x.1 : Int), .int .i64 (m : Int)] 35 (0, 0))) ∧ Below n w W)
          (OwnFrom.and (Own.from (fun s A B row hs hg hr => ⟨hs.1, (grownBy_keeps_cells hg hr hs.2.1 rfl).trans hs.2.1, (grownBy_keeps_cells hg hr hs.2.2 rfl).trans hs.2.2⟩) _) (ownFrom_below (by have := HN.out; omega) (by rw [hsz]; omega)))
          (fun cd => OwnFrom.and (Own.from (fun s A B row hs hg hr => ⟨hs.1, by obtain ⟨ys, x, h1, h2, h3, h4⟩ := hs.2; exact ⟨ys, x, h1, h2, h3, (grownBy_keeps_cells hg hr h4 rfl).trans h4⟩⟩) _) (ownFrom_below (by have := HN.out; omega) (by rw [hsz]; omega)))
          ⟨⟨by simp, e2, e3⟩, hB0⟩
          ?a1 ?assign ?body ?done ?stop
        case hkb => exact World.putObj_heap_other (by have := hk.1; omega)
        case assign =>
          intro l x W K hK
          have HK := Lib.hid hK
          clear hK
          gi_wp2
          exact HK.out
        case body =>
          rintro l pre x W ⟨⟨hpre, hWn, hWB⟩, hBW⟩ hlt
          obtain ⟨cB, fB, hszB2⟩ := one_cell hWB
          have HBW := Lib.hid hBW
          have HWn := Lib.hid hWn
          have HWB := Lib.hid hWB
          have HPre := Lib.hid hpre
          clear hBW hWn hWB hpre c0 c1 e0 e1 e2 e3 hB0 heq hd HNE
          obtain ⟨x1, x2⟩ := x
          by_cases hx : m ≤ x2
          · have hxi : (m : Int) ≤ x2 := by omega
            obtain ⟨⟨k0, k1, k2, k3⟩, kf, -⟩ := cells4 HWn.out
            have kf0 := kf 0
            have kf1 := kf 1
            have kf2 := kf 2
            have kf3 := kf 3
            clear kf
            gi_wp2
            have hp4 := put4 (u0 := .bool true) (u1 := .int .u8 0) (u2 := .int .i64 (x1 : Int)) (u3 := .int .i64 (m : Int)) HWn.out
            have hB4 := below4 (.bool true) (.int .u8 0) (.int .i64 (x1 : Int)) (.int .i64 (m : Int)) HBW.out (Nat.le_refl n)
            refine ⟨(((KeepsOthers.setCell _ _ _).trans (KeepsOthers.setCell _ _ _)).trans (KeepsOthers.setCell _ _ _)).trans (KeepsOthers.setCell _ _ _), ?_⟩
            exact ⟨⟨rfl, pre, (x1, x2), rfl, HPre.out, hx, hp4⟩, hB4⟩
          · have hxi : ¬ (m : Int) ≤ x2 := by omega
            have HP2 : Hid (∀ y ∈ pre ++ [(x1, x2)], y.2 < m) := Lib.hid (fun y hy => by
              simp only [List.mem_append, List.mem_singleton] at hy
              rcases hy with hy | rfl
              · exact HPre.out y hy
              · simp only; omega)
            gi_wp2
            refine ⟨KeepsOthers.refl _, KeepS.refl _ _, ?_⟩
            exact ⟨⟨fun a b h => HP2.out (a, b) h, HWn.out, HWB.out⟩, HBW.out⟩
        case done =>
          rintro D ys W hD rfl ⟨⟨hpre, -, -⟩, -⟩ hK
          exact (some_match (b := b) (p := p) (n := m) (by omega) (by rw [HL.out]; exact hm) hpre).elim
        case stop =>
          rintro D cd pre W hD hpre ⟨⟨rfl, ys, x, rfl, hys, hx, hWn⟩, hBW⟩ hK
          have hnear := near_of hpre hys hx
          have HBW := Lib.hid hBW
          have HC3 : Hid (chooseM b p cs = cpy (x.1 : Int) (m : Int)) := Lib.hid (by rw [HC2.out, hnear])
          have hK2 := (Array.getElem?_eq_some_iff.1 hK).1
          have g4 := grownBy_keeps_cells (grownBy_putObj' W D (.deferred none)) (fun r e => by cases e; exact ⟨_, hK, rfl⟩) hWn rfl
          rw [hWn] at g4
          obtain ⟨⟨g0, g1, g2, g3⟩, -, -⟩ := cells4 g4
          have HG0 := Lib.hid (And.intro g0 (And.intro g1 (And.intro g2 g3)))
          have HK := Lib.hid hK
          clear g0 g1 g2 g3 g4 hnear hys hx hWn hBW hK c0 c1 e0 e1 e2 e3 hB0 heq hd HNE hpre
          gi_wp2
          rw [Exit.noGoto_ret]
          obtain ⟨g0, g1, g2, g3⟩ := HG0.out
          refine ⟨by simp, .inl ⟨_, _, rfl, run_takeDeferred HK.out, ?_⟩⟩
          exact ⟨_, by simp [results, Try.results44, go_sem, g0, g1, g2, g3]; rfl, by rw [HC3.out]; rfl, HBW.out.grown (grownBy_putObj' W D _) (by omega) (fun k e => by cases e; omega)⟩
      · have hd : (y0 == y1 + 17) = false := by simpa using heq
        have hd2 : ¬ y0 = y1 + 17 := heq
        obtain ⟨m', rfl⟩ : ∃ m', m = m' + 1 := ⟨m - 1, by omega⟩
        have HC2 : Hid (chooseF b p cs m' = chooseM b p cs) := Lib.hid (by
          have h := HC.out
          unfold chooseF at h
          rw [if_neg (by rw [HY0.out, HY1.out]; rintro ⟨-, h⟩; exact heq h)] at h
          exact h)
        clear heq
        go_wp2
        go_quiet (fail)
        obtain ⟨wq, hq⟩ : ∃ wq, wr.drewN nq = wq := ⟨_, rfl⟩
        have HRq : Hid (wq.heap[n]? = some (.cells #[.bool false, .int .u8 0, .int .i64 0, .int .i64 0] 35 (0, 0))) := Lib.hid (by rw [← hq]; exact HRB.out)
        have HBq : Hid (Below n w wq) := Lib.hid (by rw [← hq]; exact below_drewN HB.out nq)
        have hcq : wq.cell? ⟨B, 0, none⟩ = some (.int .i64 ((m' + 1 : Nat) : Int)) := by rw [← hq]; exact hcB
        have hnq : n < wq.heap.size := by rw [← hq]; exact Nat.lt_trans hnB hszB
        rw [hq]
        clear hq hcB hfB HMB HRB HB hc1 hc2
        go_wp2
        have HNQ := Lib.hid hnq
        have hm4 : m' ≤ 3744 := by omega
        go_roundg (m' + 1)
        case measure => omega
        case rel => exact ⟨wq.heap.size, m', by go_num, rfl, by omega, hnq, Lib.hid (by rw [heap_alloc_new]), Lib.hid (by rw [heap_alloc_old _ _ hnq]; exact HRq.out), Lib.hid (HBq.out.alloc (by omega) _), HC2⟩
    · have h3i : ¬ (3 : Int) ≤ m := by omega
      obtain ⟨ad, hAd, hcell⟩ := (HR.out.below (by rw [HN2.out]; exact HB.out)).at_ p hp
      subst hAd
      obtain ⟨x, hx⟩ : ∃ x, b.getD p 0 = x := ⟨_, rfl⟩
      rw [hx] at hcell
      have HX := Lib.hid hx
      have hpi : (p : Int) < b.length := by omega
      have HC2 : Hid (chooseM b p cs = lit x) := Lib.hid (by rw [← HC.out, choose_small _ _ _ _ (by omega), HX.out])
      clear hx
      obtain ⟨⟨k0, k1, k2, k3⟩, kf, -⟩ := cells4 HRB.out
      have kf0 := kf 0
      have kf1 := kf 1
      have kf2 := kf 2
      have kf3 := kf 3
      clear kf
      go_wp2
      have hc4 := cells4 (put4 (u0 := .bool false) (u1 := .int .u8 x) (u2 := .int .i64 0) (u3 := .int .i64 0) HRB.out)
      have hB4 := below4 (.bool false) (.int .u8 x) (.int .i64 0) (.int .i64 0) HB.out (Nat.le_refl n)
      generalize hWF : ((((wr.setCell ⟨n, 0, none⟩ (.bool false)).setCell ⟨n, 1, none⟩ (.int .u8 x)).setCell ⟨n, 2, none⟩ (.int .i64 0)).setCell ⟨n, 3, none⟩ (.int .i64 0)) = WF at *
      obtain ⟨⟨g0, g1, g2, g3⟩, -, -⟩ := hc4
      clear k0 k1 k2 k3 hWF
      simp [bodyPostM, LeavesInM, LeavesIn, settle, results, Try.results44, go_sem, g0, g1, g2, g3]
      exact ⟨by rw [HC2.out]; rfl, hB4⟩

theorem choose_any (A : Option Addr) (c : Nat) (b : List Int) (p : Nat) (hp : p < b.length) (hb : b.length ≤ 3744) (G : Option Addr) (cg : Nat) (cs : List Int) (hcs : cs.length = b.length + 1) (w : World) (hR : Rd w .u8 A b.length b) (hG : Rd w .i64 G cs.length cs) (hcb : ∀ j, 0 ≤ cs.getD j 0 ∧ cs.getD j 0 ≤ 1000000) :
    Calls Try.prog 44 #[.slice A b.length c, .int .i64 p, .slice G cs.length cg] w fun e W' => e = .returned (chooseM b p cs).val ∧ Below w.heap.size w W' :=
  callsIn_wide.1 (choose_in A c b p hp hb G cg cs hcs w hR hG hcb)
end Go.Proofs.Ytmlgjilflpdffaa
