/- Walks: matches, longest. -/
import Derived.Test.YtmlgjilflpdffaaWalkA
import Derived.Test.YtmlgjilflpdffaaSeqModel
import Derived.RangeFuncNested
import Derived.RangeFuncBound
import Derived.RangeFuncCalls
import Derived.RangeFuncLeaves
import Derived.Shelf.Abstract
import Derived.Shelf.RegionOpen
import Derived.OwnWalkIn
import Derived.TacticsInMore
import Derived.LoopNIn
import Derived.LoopIn
namespace Go.Proofs.Ytmlgjilflpdffaa
open Go.RowKit Go.Deep Go.Shelf
set_option linter.unusedVariables false
set_option linter.unusedSimpArgs false
attribute [local go_sem] Oper.semAt_some

theorem four_new (w : World) (a b c d : Obj) :
    ((((w.alloc a).alloc b).alloc c).alloc d).heap[w.heap.size]? = some a ∧ ((((w.alloc a).alloc b).alloc c).alloc d).heap[w.heap.size + 1]? = some b ∧
    ((((w.alloc a).alloc b).alloc c).alloc d).heap[w.heap.size + 2]? = some c ∧ ((((w.alloc a).alloc b).alloc c).alloc d).heap[w.heap.size + 3]? = some d := by
  have h1 := heap_alloc_new (w.alloc a) b
  have h2 := heap_alloc_new ((w.alloc a).alloc b) c
  have h3 := heap_alloc_new (((w.alloc a).alloc b).alloc c) d
  simp only [World.size_alloc] at h1 h2 h3
  refine ⟨?_, ?_, ?_, h3⟩
  · rw [heap_alloc_old _ _ (by simp only [World.size_alloc]; omega), heap_alloc_old _ _ (by simp only [World.size_alloc]; omega), heap_alloc_old _ _ (by simp only [World.size_alloc]; omega), heap_alloc_new]
  · rw [heap_alloc_old _ _ (by simp only [World.size_alloc]; omega), heap_alloc_old _ _ (by simp only [World.size_alloc]; omega), h1]
  · rw [heap_alloc_old _ _ (by simp only [World.size_alloc]; omega), h2]
theorem one_cell {w : World} {b : Nat} {v : Value} {t : TypeId} (h : w.heap[b]? = some (.cells #[v] t (0, 0))) : w.cell? ⟨b, 0, none⟩ = some v ∧ w.frozen? ⟨b, 0, none⟩ = false ∧ b < w.heap.size :=
  ⟨by rw [cell_of_row _ _ _ _ _ _ h]; rfl, by simp [World.frozen?, h], (Array.getElem?_eq_some_iff.1 h).1⟩
theorem cell_far (w : World) (b b' : Nat) (v : Value) {o : Nat} (h : b' ≠ b) : (w.setCell ⟨b, 0, none⟩ v).cell? ⟨b', o, none⟩ = w.cell? ⟨b', o, none⟩ :=
  World.cell?_of_block (a := ⟨b', o, none⟩) (Below.heap_setCell w ⟨b, 0, none⟩ v b' h)
theorem add_block (a : Addr) (n : Nat) : (a.add n).block = a.block := by unfold Addr.add; split <;> rfl
/-- The blocks of a set are as they were. -/
def KeepS (S : Nat → Prop) (W W' : World) : Prop := ∀ b, S b → W'.heap[b]? = W.heap[b]?
theorem KeepS.refl (S : Nat → Prop) (W : World) : KeepS S W W := fun _ _ => rfl
theorem KeepS.trans {S : Nat → Prop} {A B C : World} (h : KeepS S A B) (k : KeepS S B C) : KeepS S A C := fun b hb => (k b hb).trans (h b hb)
theorem KeepS.cell {S : Nat → Prop} {W W' : World} (h : KeepS S W W') {b o : Nat} (hb : S b) {v : Value} (hc : W.cell? ⟨b, o, none⟩ = some v) : W'.cell? ⟨b, o, none⟩ = some v :=
  (World.cell?_of_block (a := ⟨b, o, none⟩) (h b hb)).trans hc
theorem Rd.at_keep {W wr : World} {S : Nat → Prop} {k : IntKind} {A : Option Addr} {n : Nat} {xs : List Int} (h : Rd W k A n xs) (hb : KeepS S W wr) (hA : ∀ ad, A = some ad → S ad.block) (j : Nat) (hj : j < n) :
    ∃ ad, A = some ad ∧ wr.cell? (ad.add j) = some (.int k (xs.getD j 0)) := by
  obtain ⟨ad, e, hc⟩ := h.at_ j hj
  exact ⟨ad, e, (World.cell?_of_block (a := ad.add j) (by rw [add_block]; exact hb _ (hA ad e))).trans hc⟩

abbrev encP (p : Nat × Nat) : Array Value := #[.int .i64 p.1, .int .i64 p.2]

set_option maxRecDepth 100000 in
set_option maxHeartbeats 1000000 in
theorem matches_any (A : Option Addr) (n c : Nat) (p : Int) (w : World) :
    Calls Try.prog 47 #[.slice A n c, .int .i64 p] w fun e w' => e = .returned (.func (.func 51) #[] #[.pointer (some ⟨w.heap.size + 1, 0, none⟩), .pointer (some ⟨w.heap.size, 0, none⟩)]) ∧ w' = (w.alloc (.cells #[.slice A n c] 22)).alloc (.cells #[.int .i64 p] 3) := by
  have hmf : ∀ (fn : Fn) (first cap : Array Value) (w : World), (Instr.makeFunc fn first cap).run Try.prog w = .ok (.func fn first cap) w := fun _ _ _ _ => rfl
  go_enter Try.func47, Try.ntmps47
  go_wp2
  go_ret
  exact ⟨rfl, rfl⟩

set_option maxRecDepth 100000 in
set_option maxHeartbeats 4000000 in
theorem matches1_in (m : Nat) (hm : 1 ≤ m) (l Bp Bb : Nat) (S : Nat → Prop) (A : Option Addr) (c : Nat) (b : List Int) (p : Nat) (hp : p ≤ b.length) (hb : b.length ≤ 3744) (J Jx : List (Nat × Nat) → World → Prop)
    (hJd : ∀ pre W k, J pre W → J pre (W.drewN k))
    (hY : ∀ pre x W, J pre W → pre.length < p → YieldAt Fence.wide (m - 1) Try.prog l (encP x) W fun e W' =>
      (e = .returned (.bool true) ∧ J (pre ++ [x]) W' ∧ KeepS S W W') ∨ (e = .returned (.bool false) ∧ Jx (pre ++ [x]) W'))
    (W : World) (hBp : W.cell? ⟨Bp, 0, none⟩ = some (.int .i64 p)) (hBb : W.cell? ⟨Bb, 0, none⟩ = some (.slice A b.length c)) (hBpn : S Bp) (hBbn : S Bb) (hR : Rd W .u8 A b.length b) (hAn : ∀ ad, A = some ad → S ad.block) (h0 : J [] W) :
    CallsIn Fence.wide m Try.prog 51 #[.func (.yield l) #[] #[], .pointer (some ⟨Bp, 0, none⟩), .pointer (some ⟨Bb, 0, none⟩)] W fun e W' => (∃ v, e = .returned v) ∧
      ((∃ ys, ys = uptoM b p p ∧ J ys W') ∨ (∃ pre, pre <+: uptoM b p p ∧ Jx pre W')) := by
  refine callsIn_of_wp Try.func51 rfl trivial ?_ rfl
  simp only [Try.ntmps51, List.size_toArray, List.length_cons, List.length_nil, Nat.reduceAdd, Nat.reduceSub, Array.replicate_succ, Array.replicate_zero, List.push_toArray, List.append_toArray, List.nil_append, List.cons_append]
  gi_wp2_with (refine ⟨trivial, ?_⟩; gi_at_call 31; refine (callsIn_wide.2 (shape_any _ _ (by omega))).mono ?_; rintro e w' ⟨rfl, ⟨nd, rfl⟩⟩)
  have HW0 : Hid (KeepS S W (W.drewN nd)) := Lib.hid (fun _ _ => rfl)
  have HJ0 := Lib.hid (hJd [] W nd h0)
  have HR := Lib.hid hR
  have HP := Lib.hid hBp
  have HB := Lib.hid hBb
  clear hR hBp hBb h0
  have hgb := gap_bd p
  obtain ⟨R, hRr⟩ : ∃ R : Nat, reach (p : Int) = R := ⟨(reach p).toNat, by unfold reach; omega⟩
  have HRr := Lib.hid hRr
  have hRb : R ≤ 4098 := by unfold reach at hRr; omega
  rw [hRr]
  have HJD := Lib.hid hJd
  have HHY := Lib.hid hY
  clear hRr hgb hJd hY
  gi_loopw [6] (fun v wr => ∃ (i : Nat), v = .int .i64 (i + 1) ∧ i ≤ p ∧ Hid (J (uptoM b p i) wr) ∧ Hid (KeepS S W wr)) (fun v _ => p + 1 - (intOf v).toNat)
  case atStart => exact ⟨0, rfl, by omega, HJ0, HW0⟩
  case round =>
    obtain ⟨i, rfl, hi, HJ, HW⟩ := hrel
    have hBp : wr.cell? ⟨Bp, 0, none⟩ = some (.int .i64 p) := HW.out.cell hBpn HP.out
    have hBb : wr.cell? ⟨Bb, 0, none⟩ = some (.slice A b.length c) := HW.out.cell hBbn HB.out
    by_cases hlt : i < p
    · have hlt1 : (i : Int) + 1 ≤ p := by omega
      gi_wp2
      refine wpIn_wide.2 ?_
      go_loopg [7] R (fun kq v7 W' => ∃ (n : Nat), v7 = .int .i64 n ∧ n ≤ R ∧ p + n ≤ b.length ∧ kq = R - n ∧ Hid (n + mrun b (R - n) (p + n) (p - (i + 1) + n) = mlen b p (i + 1)) ∧ Hid (∃ k, W' = wr.drewN k))
      case atStart => exact ⟨0, rfl, by omega, by omega, rfl, Lib.hid (by unfold mlen; rw [HRr.out]; simp), Lib.hid ⟨0, rfl⟩⟩
      case round =>
        obtain ⟨n, rfl, hn, hpn, hkq, HM, HD⟩ := hrel
        obtain ⟨k, hk⟩ := HD.out
        subst hk
        by_cases h1 : n < R
        · have hd1 : decide ((n : Int) < R) = true := by simpa using h1
          by_cases h2 : p + n < b.length
          · have hd2 : decide ((p : Int) + n < b.length) = true := by simp; omega
            obtain ⟨ad, hA, hc1⟩ := HR.out.at_keep HW.out hAn (p + n) h2
            obtain ⟨ad', hA', hc2⟩ := HR.out.at_keep HW.out hAn (p - (i + 1) + n) (by omega)
            obtain rfl : ad = ad' := by rw [hA] at hA'; cases hA'; rfl
            subst hA
            have hj : (p : Int) - ((i : Int) + 1) + n = ((p - (i + 1) + n : Nat) : Int) := by omega
            obtain ⟨j, hjj⟩ : ∃ j, p - (i + 1) + n = j := ⟨_, rfl⟩
            rw [hjj] at hj hc2
            have hjl : j < b.length := by omega
            have hj2 : (j : Int) < b.length := by omega
            have hp2 : (p : Int) + n < b.length := by omega
            obtain ⟨x, hx⟩ : ∃ x, b.getD (p + n) 0 = x := ⟨_, rfl⟩
            obtain ⟨y, hy⟩ : ∃ y, b.getD j 0 = y := ⟨_, rfl⟩
            rw [hx] at hc1
            rw [hy] at hc2
            have HX := Lib.hid hx
            have HY := Lib.hid hy
            have HJJ := Lib.hid hjj
            clear hx hy hjj hA'
            by_cases h3 : x = y
            · have hd3 : (x == y) = true := by simpa using h3
              have HM2 : Hid (n + 1 + mrun b (R - (n + 1)) (p + (n + 1)) (p - (i + 1) + (n + 1)) = mlen b p (i + 1)) := Lib.hid (by
                have hmm := HM.out
                rw [show R - n = (R - (n + 1)) + 1 from by omega] at hmm
                unfold mrun at hmm
                rw [HJJ.out, if_pos ⟨h2, by rw [HX.out, HY.out, h3]⟩] at hmm
                rw [show p - (i + 1) + (n + 1) = j + 1 from by rw [← HJJ.out]; omega, show p + (n + 1) = p + n + 1 from by omega]
                omega)
              clear HM
              go_wp2
              go_quiet (fail)
              go_wp2
              go_roundg (R - (n + 1))
              case measure => omega
              case rel => exact ⟨n + 1, by go_num, by omega, by omega, rfl, HM2, Lib.hid ⟨_, rfl⟩⟩
            · have hd3 : (x == y) = false := by simpa using h3
              have HN : Hid (n = mlen b p (i + 1)) := Lib.hid (by
                have hmm := HM.out
                rw [show R - n = (R - (n + 1)) + 1 from by omega] at hmm
                unfold mrun at hmm
                rw [HJJ.out, if_neg (by rintro ⟨-, hh⟩; rw [HX.out, HY.out] at hh; exact h3 hh)] at hmm
                omega)
              clear HM
              go_wp2
              go_quiet (fail)
              go_wp2
              obtain ⟨fn, tmps, assign, body, hy, hRR⟩ := HHY.out (uptoM b p i) (i + 1, n) (wr.drewN (k + nq)) (HJD.out _ _ _ HJ.out) (by rw [uptoM_length]; exact hlt)
              have hy2 : (Instr.yield l #[.int .i64 ((i : Int) + 1), .int .i64 n]).run Try.prog (wr.drewN (k + nq)) = .ok (.round l fn tmps assign body) (wr.drewN (k + nq)) := hy
              have HRR := Lib.hid hRR
              clear hRR hy
              gi_wp2
              refine HRR.out.mono ?_
              rintro e W3 (⟨rfl, hJ3, hk3⟩ | ⟨rfl, hJx3⟩)
              · have HJ3 : Hid (J (uptoM b p (i + 1)) W3) := Lib.hid (by rw [uptoM_succ, ← HN.out]; exact hJ3)
                have HW3 : Hid (KeepS S W W3) := Lib.hid (HW.out.trans hk3)
                clear hJ3 hk3
                gi_wp2
                go_roundw
                case rel => first | exact ⟨i + 1, by go_num, by omega, HJ3, HW3⟩ | ((repeat apply Exists.intro); exact ⟨⟨i + 1, by go_num, by omega, HJ3, HW3⟩, rfl⟩)
                case measure => simp [intOf]; omega
              · gi_wp2
                refine bodyPost_ret (results_none rfl _ _ _) rfl ?_
                exact ⟨⟨_, rfl⟩, .inr ⟨uptoM b p (i + 1), uptoM_prefix b p (by omega), by rw [uptoM_succ, ← HN.out]; exact hJx3⟩⟩
          · have hd2 : decide ((p : Int) + n < b.length) = false := by simp; omega
            have HN : Hid (n = mlen b p (i + 1)) := Lib.hid (by
              have hmm := HM.out
              rw [show R - n = (R - (n + 1)) + 1 from by omega] at hmm
              unfold mrun at hmm
              rw [if_neg (by rintro ⟨hh, -⟩; exact h2 hh)] at hmm
              omega)
            clear HM
            go_wp2
            go_quiet (fail)
            go_wp2
            obtain ⟨fn, tmps, assign, body, hy, hRR⟩ := HHY.out (uptoM b p i) (i + 1, n) (wr.drewN (k + nq)) (HJD.out _ _ _ HJ.out) (by rw [uptoM_length]; exact hlt)
            have hy2 : (Instr.yield l #[.int .i64 ((i : Int) + 1), .int .i64 n]).run Try.prog (wr.drewN (k + nq)) = .ok (.round l fn tmps assign body) (wr.drewN (k + nq)) := hy
            have HRR := Lib.hid hRR
            clear hRR hy
            gi_wp2
            refine HRR.out.mono ?_
            rintro e W3 (⟨rfl, hJ3, hk3⟩ | ⟨rfl, hJx3⟩)
            · have HJ3 : Hid (J (uptoM b p (i + 1)) W3) := Lib.hid (by rw [uptoM_succ, ← HN.out]; exact hJ3)
              have HW3 : Hid (KeepS S W W3) := Lib.hid (HW.out.trans hk3)
              clear hJ3 hk3
              gi_wp2
              go_roundw
              case rel => first | exact ⟨i + 1, by go_num, by omega, HJ3, HW3⟩ | ((repeat apply Exists.intro); exact ⟨⟨i + 1, by go_num, by omega, HJ3, HW3⟩, rfl⟩)
              case measure => simp [intOf]; omega
            · gi_wp2
              refine bodyPost_ret (results_none rfl _ _ _) rfl ?_
              exact ⟨⟨_, rfl⟩, .inr ⟨uptoM b p (i + 1), uptoM_prefix b p (by omega), by rw [uptoM_succ, ← HN.out]; exact hJx3⟩⟩
        · have hd1 : decide ((n : Int) < R) = false := by simp; omega
          have HN : Hid (n = mlen b p (i + 1)) := Lib.hid (by
            have hmm := HM.out
            rw [show R - n = 0 from by omega] at hmm
            simpa [mrun] using hmm)
          clear HM
          go_wp2
          go_quiet (fail)
          go_wp2
          obtain ⟨fn, tmps, assign, body, hy, hRR⟩ := HHY.out (uptoM b p i) (i + 1, n) (wr.drewN (k + nq)) (HJD.out _ _ _ HJ.out) (by rw [uptoM_length]; exact hlt)
          have hy2 : (Instr.yield l #[.int .i64 ((i : Int) + 1), .int .i64 n]).run Try.prog (wr.drewN (k + nq)) = .ok (.round l fn tmps assign body) (wr.drewN (k + nq)) := hy
          have HRR := Lib.hid hRR
          clear hRR hy
          gi_wp2
          refine HRR.out.mono ?_
          rintro e W3 (⟨rfl, hJ3, hk3⟩ | ⟨rfl, hJx3⟩)
          · have HJ3 : Hid (J (uptoM b p (i + 1)) W3) := Lib.hid (by rw [uptoM_succ, ← HN.out]; exact hJ3)
            have HW3 : Hid (KeepS S W W3) := Lib.hid (HW.out.trans hk3)
            clear hJ3 hk3
            gi_wp2
            go_roundw
            case rel => first | exact ⟨i + 1, by go_num, by omega, HJ3, HW3⟩ | ((repeat apply Exists.intro); exact ⟨⟨i + 1, by go_num, by omega, HJ3, HW3⟩, rfl⟩)
            case measure => simp [intOf]; omega
          · gi_wp2
            refine bodyPost_ret (results_none rfl _ _ _) rfl ?_
            exact ⟨⟨_, rfl⟩, .inr ⟨uptoM b p (i + 1), uptoM_prefix b p (by omega), by rw [uptoM_succ, ← HN.out]; exact hJx3⟩⟩
    · obtain rfl : i = p := by omega
      have hge : ¬ (i : Int) + 1 ≤ i := by omega
      gi_wp2
      go_end0
      exact ⟨⟨_, rfl⟩, .inl HJ.out⟩

theorem matches_stops (m : Nat) (hm : 1 ≤ m) (Bp Bb : Nat) (S : Nat → Prop) (A : Option Addr) (c : Nat) (b : List Int) (p : Nat) (hp : p ≤ b.length) (hb : b.length ≤ 3744) (w : World)
    (hBp : w.cell? ⟨Bp, 0, none⟩ = some (.int .i64 p)) (hBb : w.cell? ⟨Bb, 0, none⟩ = some (.slice A b.length c)) (hS : ∀ k, S k → k < w.heap.size) (hBpn : S Bp) (hBbn : S Bb) (hR : Rd w .u8 A b.length b) (hAn : ∀ ad, A = some ad → S ad.block) :
    SeqStopsK Fence.wide m Try.prog 51 #[.pointer (some ⟨Bp, 0, none⟩), .pointer (some ⟨Bb, 0, none⟩)] encP (KeepS S) (fun ys => ys = uptoM b p p) (fun pre => pre <+: uptoM b p p) p w := by
  intro l J Jx W hW hJ hJx hY h0
  exact matches1_in m hm l Bp Bb S A c b p hp hb J Jx (fun pre W k h => hJ pre W (W.drewN k) none h ⟨rfl, rfl, rfl, Nat.le_refl _, fun _ _ _ => rfl⟩ (fun r e => by cases e)) hY W ((hW.cell (p := ⟨Bp, 0, none⟩) (hS _ hBpn)).trans hBp) ((hW.cell (p := ⟨Bb, 0, none⟩) (hS _ hBbn)).trans hBb) hBpn hBbn (hR.below hW) hAn h0

set_option maxRecDepth 100000 in
set_option maxHeartbeats 4000000 in
theorem longest_in (A : Option Addr) (c : Nat) (b : List Int) (p : Nat) (hp : p ≤ b.length) (hb : b.length ≤ 3744) (w : World) (hR : Rd w .u8 A b.length b) (hA : ∀ ad, A = some ad → ad.block < w.heap.size) :
    CallsIn Fence.wide 4 Try.prog 32 #[.slice A b.length c, .int .i64 p] w fun e W' => e = .returned (.tuple #[.int .i64 (longestM b p).1, .int .i64 (longestM b p).2]) ∧ Below w.heap.size w W' := by
  refine callsIn_of_wp_marks Try.func32 rfl trivial ?_ rfl
  simp only [Try.ntmps32, List.size_toArray, List.length_cons, List.length_nil, Nat.reduceAdd, Nat.reduceSub, Array.replicate_succ, Array.replicate_zero, List.push_toArray, List.append_toArray, List.nil_append, List.cons_append]
  gi_wp2_with (refine ⟨trivial, ?_⟩; gi_at_call 47; refine (callsIn_wide.2 (matches_any _ _ _ _ _)).mono ?_; rintro e w' ⟨rfl, rfl⟩)
  obtain ⟨W0, hW0⟩ : ∃ W0, ((((w.alloc (.cells #[.int .i64 0] 3)).alloc (.cells #[.int .i64 0] 3)).alloc (.cells #[.slice A b.length c] 22)).alloc (.cells #[.int .i64 (p : Int)] 3)) = W0 := ⟨_, rfl⟩
  obtain ⟨e0, e1, e2, e3⟩ := four_new w (.cells #[.int .i64 0] 3) (.cells #[.int .i64 0] 3) (.cells #[.slice A b.length c] 22) (.cells #[.int .i64 (p : Int)] 3)
  have hB0 : Below w.heap.size w ((((w.alloc (.cells #[.int .i64 0] 3)).alloc (.cells #[.int .i64 0] 3)).alloc (.cells #[.slice A b.length c] 22)).alloc (.cells #[.int .i64 (p : Int)] 3)) := below_al (below_al (below_al (one_alloc _ _) _) _) _
  rw [hW0] at e0 e1 e2 e3 hB0 ⊢
  have hsz : W0.heap.size = w.heap.size + 4 := by rw [← hW0]; simp
  clear hW0
  obtain ⟨c0, f0, -⟩ := one_cell e0
  obtain ⟨c1, f1, -⟩ := one_cell e1
  obtain ⟨c2, -, -⟩ := one_cell e2
  obtain ⟨c3, -, -⟩ := one_cell e3
  refine wpIn_rangeFunc_ownF rfl (by omega) (gf := 51) (lb := #[.pointer (some ⟨w.heap.size + 1 + 1 + 1, 0, none⟩), .pointer (some ⟨w.heap.size + 1 + 1, 0, none⟩)]) rfl trivial (enters_of Try.func51 (by kernel_rfl) rfl)
    (matches_stops 3 (by omega) (w.heap.size + 1 + 1 + 1) (w.heap.size + 1 + 1) (fun k => k < w.heap.size + 4 ∧ k ≠ w.heap.size ∧ k ≠ w.heap.size + 1) A c b p hp hb W0 c3 c2 (fun k hk => by rw [hsz]; exact hk.1) (by omega) (by omega) (hR.below hB0) (fun ad e => by have := hA ad e; omega))
    (fun h k => h.trans k) (fun W l o o' hl _ _ _ k hk => ?hkb) (Below.refl _ _) (fun _ => rfl)
    (fun pre W => (W.cell? ⟨w.heap.size, 0, none⟩ = some (.int .i64 (bestM pre).1) ∧ W.frozen? ⟨w.heap.size, 0, none⟩ = false ∧ W.cell? ⟨w.heap.size + 1, 0, none⟩ = some (.int .i64 (bestM pre).2) ∧ W.frozen? ⟨w.heap.size + 1, 0, none⟩ = false) ∧ Below w.heap.size w W)
    (fun _ _ _ => False)
    (OwnFrom.and (Own.from (fun s A B row hs hg hr => ⟨cell_kept hs.1 hg hr, (frozen_kept hs.1 hg hr).trans hs.2.1, cell_kept hs.2.2.1 hg hr, (frozen_kept hs.2.2.1 hg hr).trans hs.2.2.2⟩) _) (ownFrom_below (Nat.le_refl _) (by rw [hsz]; omega)))
    (fun _ _ _ _ _ hs _ _ => hs)
    ⟨⟨c0, f0, c1, f1⟩, hB0⟩
    (fun x => { tmps := #[.slice A b.length c, .int .i64 p, undef, undef, .pointer (some ⟨w.heap.size, 0, none⟩), .pointer (some ⟨w.heap.size + 1, 0, none⟩), .int .i64 x.1, .int .i64 x.2, .slice A b.length c, .int .i64 p,
      .func (.func 51) #[] #[.pointer (some ⟨w.heap.size + 1 + 1 + 1, 0, none⟩), .pointer (some ⟨w.heap.size + 1 + 1, 0, none⟩)], .int .i64 x.1, .int .i64 x.2, undef, undef, undef, undef, undef, undef, undef], defers := [] }) ?assign ?body ?done ?stop
  case hkb =>
    exact World.putObj_heap_other (by have := hk.1; omega)
  case assign =>
    intro l x W K hK
    gi_wp2
    exact hK
  case body =>
    rintro l pre x W ⟨⟨hc, hf, hc', hf'⟩, hB⟩ hlt
    have HB := Lib.hid hB
    have HS := Lib.hid hsz
    clear hB c0 c1 c2 c3 f0 f1 e0 e1 e2 e3 hsz
    by_cases hgt : (bestM pre).2 < x.2
    · have hb2 : bestM (pre ++ [x]) = x := by rw [bestM_snoc, stepM, if_pos hgt]
      have HB2 := Lib.hid hb2
      have hgt2 : ((bestM pre).2 : Int) < x.2 := by omega
      clear hb2
      obtain ⟨r1, r2⟩ := bestM pre
      obtain ⟨x1, x2⟩ := x
      simp only at *
      gi_wp2
      have hs0 : (W.cell? ⟨w.heap.size, 0, none⟩).isSome = true := by rw [hc]; rfl
      have hs1 : (W.cell? ⟨w.heap.size + 1, 0, none⟩).isSome = true := by rw [hc']; rfl
      refine ⟨(KeepsOthers.setCell _ _ _).trans (KeepsOthers.setCell _ _ _), fun k hk => ?_, ?_⟩
      · rw [Below.heap_setCell _ _ _ _ hk.2.2, Below.heap_setCell _ _ _ _ hk.2.1]
      · dsimp only
        rw [HB2.out]
        refine ⟨⟨?_, by rw [World.frozen?_setCell, World.frozen?_setCell]; exact hf, ?_, by rw [World.frozen?_setCell, World.frozen?_setCell]; exact hf'⟩, below_st (below_st HB.out (Nat.le_refl _)) (by simp)⟩
        · rw [cell_far _ _ _ _ (by omega), World.cell?_setCell_same' _ _ _ hs0]
        · exact World.cell?_setCell_same' _ _ _ (by rw [cell_far _ _ _ _ (by omega)]; exact hs1)
    · have hb2 : bestM (pre ++ [x]) = bestM pre := by rw [bestM_snoc, stepM, if_neg hgt]
      have HB2 := Lib.hid hb2
      have hgt2 : ¬ ((bestM pre).2 : Int) < x.2 := by omega
      clear hb2
      gi_wp2
      exact ⟨KeepsOthers.refl _, KeepS.refl _ _, by dsimp only; rw [HB2.out]; exact ⟨⟨hc, hf, hc', hf'⟩, HB.out⟩⟩
  case done =>
    rintro D ys W hD rfl ⟨⟨hc, hf, hc', hf'⟩, hB⟩ hK
    have HB := Lib.hid hB
    have hDn : w.heap.size + 4 ≤ D := by omega
    clear hB c0 c1 c2 c3 f0 f1 e0 e1 e2 e3
    gi_wp2
    gi_region
    have hs0 : (W.cell? ⟨w.heap.size, 0, none⟩).isSome = true := by rw [hc]; rfl
    have hs1 : (W.cell? ⟨w.heap.size + 1, 0, none⟩).isSome = true := by rw [hc']; rfl
    obtain ⟨WF, hWF⟩ : ∃ WF, ((W.setCell ⟨w.heap.size, 0, none⟩ (.int .i64 (bestM (uptoM b p p)).1)).setCell ⟨w.heap.size + 1, 0, none⟩ (.int .i64 (bestM (uptoM b p p)).2)).drew = WF := ⟨_, rfl⟩
    have hKF : WF.heap[D]? = some (.deferred (some [])) := by rw [← hWF]; exact ((KeepsOthers.setCell _ _ _).trans (KeepsOthers.setCell _ _ _)).same D _ hK rfl
    have hBF : Below w.heap.size w WF := by rw [← hWF]; exact below_drew1 (below_st (below_st HB.out (Nat.le_refl _)) (by simp))
    have hcF : WF.cell? ⟨w.heap.size, 0, none⟩ = some (.int .i64 (bestM (uptoM b p p)).1) := by
      rw [← hWF]
      show (World.setCell (W.setCell _ _) _ _).cell? _ = _
      rw [cell_far _ _ _ _ (by omega), World.cell?_setCell_same' _ _ _ hs0]
    have hcF' : WF.cell? ⟨w.heap.size + 1, 0, none⟩ = some (.int .i64 (bestM (uptoM b p p)).2) := by
      rw [← hWF]
      exact World.cell?_setCell_same' _ _ _ (by rw [cell_far _ _ _ _ (by omega)]; exact hs1)
    rw [hWF]
    clear hWF hs0 hs1 hc hc' hf hf' hK HB
    gi_wp2
    have g0 := cell_kept hcF (grownBy_putObj' WF D (.deferred none)) (fun r e => by cases e; exact ⟨_, hKF, rfl⟩)
    have g1 := cell_kept hcF' (grownBy_putObj' WF D (.deferred none)) (fun r e => by cases e; exact ⟨_, hKF, rfl⟩)
    refine ⟨by simp, .inl ⟨_, _, rfl, run_takeDeferred hKF, ?_⟩⟩
    exact ⟨.tuple #[.int .i64 (longestM b p).1, .int .i64 (longestM b p).2], by simp [results, Try.results32, go_sem, g0, g1, longestM], rfl, hBF.grown (grownBy_putObj' WF D _) hBF.size (fun k e => by cases e; omega)⟩
  case stop =>
    rintro D c pre W _ _ h _
    exact h.elim

theorem longest_any (A : Option Addr) (c : Nat) (b : List Int) (p : Nat) (hp : p ≤ b.length) (hb : b.length ≤ 3744) (w : World) (hR : Rd w .u8 A b.length b) (hA : ∀ ad, A = some ad → ad.block < w.heap.size) :
    Calls Try.prog 32 #[.slice A b.length c, .int .i64 p] w fun e W' => e = .returned (.tuple #[.int .i64 (longestM b p).1, .int .i64 (longestM b p).2]) ∧ Below w.heap.size w W' :=
  callsIn_wide.1 (longest_in A c b p hp hb w hR hA)

set_option maxRecDepth 100000 in
set_option maxHeartbeats 1000000 in
theorem Longest_limit (A : Option Addr) (n c : Nat) (p : Int) (w : World) (hn : 3744 < n) :
    Calls Try.prog 16 #[.slice A n c, .int .i64 p] w fun e W' => e = .returned (.tuple #[.int .i64 0, .int .i64 0, .int .i64 2]) ∧ w = W' := by
  go_enter Try.func16, Try.ntmps16
  go_wp2
  go_ret3
  exact ⟨rfl, rfl⟩

set_option maxRecDepth 100000 in
set_option maxHeartbeats 1000000 in
theorem Longest_range (A : Option Addr) (n c : Nat) (p : Int) (w : World) (hn : n ≤ 3744) (hp : p < 0 ∨ (n : Int) < p) :
    Calls Try.prog 16 #[.slice A n c, .int .i64 p] w fun e W' => e = .returned (.tuple #[.int .i64 0, .int .i64 0, .int .i64 24]) ∧ w = W' := by
  rcases hp with hp | hp
  · go_enter Try.func16, Try.ntmps16
    go_wp2
    go_ret3
    exact ⟨rfl, rfl⟩
  · have h0 : ¬ p < 0 := by omega
    go_enter Try.func16, Try.ntmps16
    go_wp2
    go_ret3
    exact ⟨rfl, rfl⟩

set_option maxRecDepth 100000 in
set_option maxHeartbeats 1000000 in
theorem Longest_ok (A : Option Addr) (c : Nat) (b : List Int) (p : Nat) (hp : p ≤ b.length) (hb : b.length ≤ 3744) (w : World) (hR : Rd w .u8 A b.length b) (hA : ∀ ad, A = some ad → ad.block < w.heap.size) :
    Calls Try.prog 16 #[.slice A b.length c, .int .i64 p] w fun e W' => e = .returned (.tuple #[.int .i64 (longestM b p).1, .int .i64 (longestM b p).2, .int .i64 0]) ∧ Below w.heap.size w W' := by
  have HR := Lib.hid hR
  clear hR
  go_enter Try.func16, Try.ntmps16
  go_wp2_with (go_at_call 32; refine (longest_any _ _ b p hp hb _ HR.out hA).mono ?_; rintro e w1 ⟨rfl, hB⟩)
  go_ret3
  exact ⟨rfl, hB⟩

set_option maxRecDepth 100000 in
set_option maxHeartbeats 1000000 in
theorem Width_range (p : Int) (w : World) (hp : p < 0 ∨ 3744 < p) :
    Calls Try.prog 14 #[.int .i64 p] w fun e W' => e = .returned (.tuple #[.int .i64 0, .int .i64 0, .int .i64 24]) ∧ w = W' := by
  rcases hp with hp | hp
  · go_enter Try.func14, Try.ntmps14
    go_wp2
    go_ret3
    exact ⟨rfl, rfl⟩
  · have h0 : ¬ p < 0 := by omega
    go_enter Try.func14, Try.ntmps14
    go_wp2
    go_ret3
    exact ⟨rfl, rfl⟩

set_option maxRecDepth 100000 in
set_option maxHeartbeats 1000000 in
theorem Width_ok (p : Int) (w : World) (h0 : 0 ≤ p) (hp : p ≤ 3744) :
    Calls Try.prog 14 #[.int .i64 p] w fun e W' => e = .returned (.tuple #[.int .i64 (widN p), .int .i64 (reach p), .int .i64 0]) ∧ Drawn w W' := by
  go_enter Try.func14, Try.ntmps14
  go_wp2_with (go_at_call 31; refine (shape_any _ _ (by omega)).mono ?_; rintro e w' ⟨rfl, ⟨n, rfl⟩⟩)
  go_ret3
  exact ⟨rfl, ⟨_, rfl⟩⟩
end Go.Proofs.Ytmlgjilflpdffaa
