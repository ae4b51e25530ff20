/- Walk: Best. -/
import Derived.Test.YtmlgjilflpdffaaWalkQ
import Derived.Test.YtmlgjilflpdffaaBestM
import Derived.Test.YtmlgjilflpdffaaBestP
import Derived.Test.YtmlgjilflpdffaaPutKeep
namespace Go.Proofs.Ytmlgjilflpdffaa
open Go.RowKit Go.Deep
set_option linter.unusedVariables false
set_option linter.unusedSimpArgs false

set_option maxRecDepth 100000 in
set_option maxHeartbeats 1000000 in
theorem Best_limit (A : Option Addr) (n c : Nat) (w : World) (hn : 3744 < n) :
    Calls Try.prog 29 #[.slice A n c] w fun e W' => e = .returned (.tuple #[.slice none 0 0, .int .i64 2]) ∧ w = W' := by
  go_enter Try.func29, Try.ntmps29
  go_wp2
  go_ret2
  exact ⟨rfl, rfl⟩

theorem zero61 (w : World) : (zeroValue 61).run Try.prog w = .ok (.agg (Array.replicate 3745 (.int .i64 0))) w := by kernel_rfl
/-- An array of whole numbers, in a block of its own. -/
structure Arr (W : World) (g : Nat) (f : Nat → Int) : Prop where
  cell : ∀ j, j < 3745 → W.cell? ⟨g, j, none⟩ = some (.int .i64 (f j))
  froz : ∀ o, W.frozen? ⟨g, o, none⟩ = false
  lt : g < W.heap.size

theorem Arr.below {W W' : World} {g : Nat} {f : Nat → Int} (h : Arr W g f) (hb : Below W.heap.size W W') : Arr W' g f :=
  ⟨fun j hj => (hb.cell (p := ⟨g, j, none⟩) h.lt).trans (h.cell j hj), fun o => (hb.frozen (p := ⟨g, o, none⟩) h.lt).trans (h.froz o), Nat.lt_of_lt_of_le h.lt hb.size⟩
theorem Arr.draw {W : World} {g : Nat} {f : Nat → Int} (h : Arr W g f) : Arr W.drew g f := ⟨h.cell, h.froz, h.lt⟩
/-- A cell is written. -/
theorem Arr.put {W : World} {g : Nat} {f : Nat → Int} (h : Arr W g f) (i : Nat) (hi : i < 3745) (v : Int) : Arr (W.setCell ⟨g, i, none⟩ (.int .i64 v)) g (fun j => if j = i then v else f j) := by
  refine ⟨fun j hj => ?_, fun o => by rw [World.frozen?_setCell]; exact h.froz o, by have := (Below.refl 0 W).setCell (p := ⟨g, i, none⟩) (Nat.zero_le _) (.int .i64 v); exact Nat.lt_of_lt_of_le h.lt this.size⟩
  by_cases hji : j = i
  · subst hji
    rw [if_pos rfl, World.cell?_setCell_same' _ _ _ (by rw [h.cell j hj]; rfl)]
  · rw [if_neg hji, World.cell?_setCell_other W ⟨g, i, none⟩ ⟨g, j, none⟩ _ (by intro e; injection e; omega)]
    exact h.cell j hj
/-- The costs from p on, 0 ahead of them. -/
def fS (p : Nat) (S : List Int) (j : Nat) : Int := if j < p then 0 else S.getD (j - p) 0
theorem fS_put (p : Nat) (S : List Int) (a : Int) : (fun j => if j = p then a else fS (p + 1) S j) = fS p (a :: S) := by
  funext j
  unfold fS
  by_cases h1 : j = p
  · subst h1; simp
  · rw [if_neg h1]
    by_cases h2 : j < p
    · rw [if_pos (by omega), if_pos h2]
    · rw [if_neg (by omega), if_neg h2]
      obtain ⟨d, hd⟩ : ∃ d, j - p = d + 1 := ⟨j - p - 1, by omega⟩
      rw [hd, List.getD_cons_succ]
      congr 1
      omega
theorem fS_put2 (p : Nat) (S : List Int) (a a' : Int) : (fun j => if j = p then a' else fS p (a :: S) j) = fS p (a' :: S) := by
  funext j
  unfold fS
  by_cases h1 : j = p
  · subst h1; simp
  · rw [if_neg h1]
    by_cases h2 : j < p
    · rw [if_pos h2, if_pos h2]
    · rw [if_neg h2, if_neg h2]
      obtain ⟨d, hd⟩ : ∃ d, j - p = d + 1 := ⟨j - p - 1, by omega⟩
      rw [hd, List.getD_cons_succ, List.getD_cons_succ]
theorem fS_zero (n : Nat) (j : Nat) : fS n [0] j = 0 := by
  unfold fS
  split
  · rfl
  · cases h : j - n <;> simp

theorem Arr.rd {W : World} {g : Nat} {cs : List Int} (h : Arr W g (fS 0 cs)) (hl : cs.length ≤ 3745) : Rd W .i64 (some ⟨g, 0, none⟩) cs.length cs :=
  ⟨rfl, by omega, fun j hj => ⟨_, rfl, by rw [Addr.add_lit, Nat.zero_add, h.cell j (by omega)]; simp [fS]⟩⟩
theorem Arr.low {W W' : World} {g n : Nat} {f : Nat → Int} (h : Arr W g f) (hg : g < n) (hb : Below n W W') (hn : n ≤ W.heap.size) : Arr W' g f :=
  ⟨fun j hj => (hb.cell (p := ⟨g, j, none⟩) hg).trans (h.cell j hj), fun o => (hb.frozen (p := ⟨g, o, none⟩) hg).trans (h.froz o), Nat.lt_of_lt_of_le h.lt hb.size⟩
theorem run_toArr (g : Nat) (k : Nat) (hk : k ≤ 3744) (w : World) : (Instr.sliceAt 61 (.pointer (some ⟨g, 0, none⟩)) none (some (.int .i64 ((k : Int) + 1))) none).run Try.prog w = .ok (.slice (some ⟨g, 0, none⟩) (k + 1) 3745) w := by
  have e : Try.prog.elem 61 = 3 := by kernel_rfl
  have el : Try.prog.arrayLen 61 = 3745 := by kernel_rfl
  have hz : (sizeOf 3).run Try.prog w = .ok 1 w := by kernel_rfl
  have hu : Try.prog.underlying 61 = some (.array (Try.prog.arrayLen 61) (Try.prog.elem 61)) := by rw [e, el]; exact Try.underlying61
  rw [run_sliceAt_array_h w 61 ⟨g, 0, none⟩ hu .i64 ((k : Int) + 1) (by omega) (by rw [el]; omega), e, el, hz]
  simp [Result.andThen, slicedAt, sliced, Addr.add]
theorem choose_at (A : Option Addr) (c : Nat) (b : List Int) (p : Nat) (hp : p < b.length) (hb : b.length ≤ 3744) (G : Option Addr) (cg : Nat) (cs : List Int) (hcs : cs.length = b.length + 1) (w : World) (hR : Rd w .u8 A b.length b) (hG : Rd w .i64 G cs.length cs) (hcb : ∀ j, 0 ≤ cs.getD j 0 ∧ cs.getD j 0 ≤ 1000000) (t : Tok) (ht : chooseM b p cs = t) :
    Calls Try.prog 44 #[.slice A b.length c, .int .i64 p, .slice G (b.length + 1) cg] w fun e W' => e = .returned (.agg #[.bool t.copy, .int .u8 t.byte, .int .i64 t.back, .int .i64 t.many]) ∧ Below w.heap.size w W' := by
  have h := choose_any A c b p hp hb G cg cs hcs w hR hG hcb
  rw [hcs, ht] at h
  exact h

theorem best_keep {w wr w2 w3 : World} {g n : Nat} {f : Nat → Int} {o : Obj} (hgn : g < n) (hW : Below g w wr) (hA : Arr wr g f) (hn : n ≤ wr.heap.size) (h1 : Below wr.heap.size wr w2) (h2 : Below n (w2.alloc o) w3) :
    Below g w w3 ∧ Arr w3 g f ∧ n ≤ w3.heap.size := by
  have hs1 := h1.size
  have hs2 := h2.size
  simp only [World.size_alloc] at hs2
  have hw1 : Below g w (w2.alloc o) := (below_then hW (by omega) h1).alloc (by omega) _
  exact ⟨hw1.trans (h2.mono (Nat.le_of_lt hgn)), ((hA.below h1).below (one_alloc _ _)).low hgn h2 (by simp; omega), by omega⟩

set_option maxRecDepth 100000 in
set_option maxHeartbeats 8000000 in
theorem Best_ok (A : Option Addr) (c : Nat) (b : List Int) (hb : b.length ≤ 3744) (w : World) (hR : Rd w .u8 A b.length b) (hA : ∀ ad, A = some ad → ad.block < w.heap.size) :
    Calls Try.prog 29 #[.slice A b.length c] w fun e W' => ∃ v, e = .returned (.tuple #[v, .int .i64 0]) ∧ W'.ownsRow w.heap.size 5 1 v (bestB b).length (nums8 (bestB b)) ∧ Below w.heap.size w W' := by
  have HR := Lib.hid hR
  have HA := Lib.hid hA
  clear hR hA
  obtain ⟨zs, hzs⟩ : ∃ zs : Array Value, Array.replicate 3745 (Value.int .i64 0) = zs := ⟨_, rfl⟩
  have hz := zero61
  rw [hzs] at hz
  have HZ := Lib.hid hzs
  clear hzs
  go_enter Try.func29, Try.ntmps29
  go_wp2
  obtain ⟨g, hg⟩ : ∃ g, w.heap.size = g := ⟨_, rfl⟩
  have HGS := Lib.hid hg
  have ha0 : Arr (w.alloc (.cells zs 61)) g (fS b.length (costS b 0)) := by
    refine ⟨fun j hj => ?_, fun o => ?_, by rw [← hg]; simp⟩
    · rw [← hg, cell_of_row _ _ _ zs 61 (0, 0) (heap_alloc_new w _), ← HZ.out]
      rw [show costS b 0 = [0] from rfl, fS_zero, Array.getElem?_replicate, if_pos (by omega)]
    · rw [← hg]
      simp only [World.frozen?, heap_alloc_new]
      simp
  have hb0 : Below g w (w.alloc (.cells zs 61)) := by rw [← hg]; exact one_alloc w _
  obtain ⟨w0, hw0⟩ : ∃ w0, w.alloc (.cells zs 61) = w0 := ⟨_, rfl⟩
  rw [hg]
  rw [hw0] at ha0 hb0 ⊢
  have HA0 := Lib.hid ha0
  have HB0 := Lib.hid hb0
  clear ha0 hb0 hg hw0 hz
  go_loopg [5] b.length (fun kq v5 W => ∃ (p k : Nat), v5 = .int .i64 ((p : Int) - 1) ∧ kq = p ∧ k + p = b.length ∧ Hid (Arr W g (fS p (costS b k))) ∧ Hid (Below g w W))
  case atStart => exact ⟨b.length, 0, rfl, rfl, by omega, HA0, HB0⟩
  case round =>
    obtain ⟨p, k, rfl, hkq, hkp, HAr, HB⟩ := hrel
    cases p with
    | zero =>
      have hkb : k = b.length := by omega
      subst hkb
      obtain ⟨cs, hcs⟩ : ∃ cs, costS b b.length = cs := ⟨_, rfl⟩
      have hcl := costS_len b b.length
      have hcb := costS_bd b b.length
      rw [hcs] at hcl hcb HAr
      have HCM : Hid (costM b = cs) := Lib.hid hcs
      have HCL := Lib.hid hcl
      have HCB : Hid (∀ j, 0 ≤ cs.getD j 0 ∧ cs.getD j 0 ≤ 1000000) := Lib.hid (fun j => by have := hcb j; omega)
      obtain ⟨n, hn⟩ : ∃ n, wr.heap.size = n := ⟨_, rfl⟩
      have hgn : g < n := by rw [← hn]; exact HAr.out.lt
      have HN := Lib.hid hn
      clear hcs hcl hcb hn
      go_wp2_with (go_at_call 34; refine (writer_any _).mono ?_; rintro e w1 ⟨rfl, hWS, hB⟩; rw [HN.out] at hWS hB ⊢)
      have HS := Lib.hid hWS
      have HW : Hid (Below g w w1) := Lib.hid (HB.out.trans (hB.mono (Nat.le_of_lt hgn)))
      have HA1 : Hid (Arr w1 g (fS 0 cs)) := Lib.hid (HAr.out.low hgn hB (Nat.le_of_eq HN.out.symm))
      have HNW : Hid (n ≤ w1.heap.size) := Lib.hid (by have := hB.size; have := HN.out; omega)
      clear hWS hB HAr HB
      go_loopg [11] (b.length + 1) (fun kq v11 W => ∃ (p : Nat) (s : Wst), v11 = .int .i64 p ∧ p ≤ b.length ∧ s.pos = p ∧ Hid (b.length < kq + p) ∧ Hid (WS W n s) ∧ Hid (Wok s) ∧ Hid (s.out.length ≤ 3 * p) ∧ Hid ((bestT b cs kq p).foldl putM s = (bestT b cs (b.length + 1) 0).foldl putM w0M) ∧ Hid (Below g w W) ∧ Hid (Arr W g (fS 0 cs)) ∧ Hid (n ≤ W.heap.size))
      case atStart => exact ⟨0, w0M, rfl, by omega, rfl, Lib.hid (by omega), HS, Lib.hid w0_ok, Lib.hid (by simp [w0M]), Lib.hid rfl, HW, HA1, HNW⟩
      case round =>
        clear HS HW HA1 HNW
        obtain ⟨p, s, rfl, hp, hpos, HK, HS, HOK, HL, HG, HW, HA1, HNW⟩ := hrel
        have HPOS := Lib.hid hpos
        clear hpos
        cases gk with
        | zero => exact absurd HK.out (by omega)
        | succ k =>
          by_cases hlt : p < b.length
          · obtain ⟨q, hv, hq1, hq2, hq3⟩ := choose_valid cs 1 hlt hb
            have hG := HG.out
            rw [bestT_step b cs k p q hlt hq3] at hG
            obtain ⟨t, ht⟩ : ∃ t, chooseM b p cs = t := ⟨_, rfl⟩
            rw [ht] at hv hq3 hG
            have HT := Lib.hid ht
            have HV := Lib.hid hv
            have HG2 := Lib.hid hG
            have HQ3 : Hid (t.many = (q : Int) ∨ (q = 1 ∧ t.many ≤ 1)) := Lib.hid (by
              rw [Int.max_def] at hq3
              split at hq3 <;> omega)
            have hpi : (p : Int) < b.length := by omega
            have hsl := fun w => run_toArr g b.length hb w
            clear ht hv hG hq3 HG
            go_wp2_with (first
              | ((have hgd := HC1); clear hgd; go_at_call 48; refine (put_keep w2.heap.size #[.bool t.copy, .int .u8 t.byte, .int .i64 t.back, .int .i64 t.many] (0, 0) _ n s t _ 1 ((HS.out.below HC1.out).below (one_alloc _ _)) (by have := HNW.out; have := HC1.out.size; simp; omega) HOK.out (by have := HL.out; omega) (by rw [HPOS.out]; exact HV.out) (heap_alloc_new _ _) (by have h1 := (one_cell HS.out.b3).2.2; have h2 := HC1.out.size; omega)).mono ?_; rintro e w3 ⟨rfl, hS2, hB2, hE2⟩; (have HS2 := Lib.hid hS2); (have HKE := Lib.hid (best_keep hgn HW.out HA1.out HNW.out HC1.out hB2)); (have HPO := Lib.hid (put_ok HOK.out (x := t) (bad := 1) (by rw [HPOS.out]; exact HV.out))); (have HPL := Lib.hid (put_len s t)); obtain ⟨⟨-, -, -, h43⟩, -, -⟩ := cells4 hE2; clear hS2 hB2 hE2)
              | (go_at_call 44; refine (choose_at A c b p hlt hb (some ⟨g, 0, none⟩) 3745 cs HCL.out _ (HR.out.below (by rw [HGS.out]; exact HW.out)) (HA1.out.rd (by have := HCL.out; omega)) HCB.out t HT.out).mono ?_; rintro e w2 ⟨rfl, hC1⟩; (have HC1 := Lib.hid hC1); clear hC1))
            all_goals go_roundg k
            all_goals first
              | (have hk := HK.out; omega)
              | (have hq4 := HQ3.out; have hk := HK.out; have hL := HL.out; have hpl := HPL.out; exact ⟨p + q, putM s t, by first | (have hq5 : t.many = (q : Int) := (by omega); rw [hq5, IntWalk.wrap64_in _ (by omega)]; go_num) | (have hq5 : q = 1 := (by omega); rw [hq5, IntWalk.wrap64_in _ (by omega)]; go_num), by omega, by rw [HPO.out.2]; simp, Lib.hid (by omega), HS2, Lib.hid HPO.out.1, Lib.hid (by omega), HG2, Lib.hid HKE.out.1, Lib.hid HKE.out.2.1, Lib.hid HKE.out.2.2⟩)
          · obtain rfl : p = b.length := by omega
            have hG := HG.out
            have he : bestT b cs (k + 1) b.length = [] := by unfold bestT; rw [if_neg hlt]
            rw [he] at hG
            clear he
            simp only [List.foldl_nil] at hG
            have HG2 := Lib.hid hG
            have hp1 : ¬ (b.length : Int) < b.length := by omega
            clear hG HG
            go_wp2_with (go_at_call 49; refine (end_any _ n s HS.out).mono ?_; rintro e w2 ⟨v, rfl, rfl, hrow⟩)
            go_ret2
            refine ⟨v, rfl, ?_, by rw [HGS.out]; exact HW.out⟩
            have : bestB b = s.out := by unfold bestB buildM; rw [HG2.out, HCM.out]
            rw [this]
            exact own_weak hrow (by have := HGS.out; omega)
    | succ p =>
      have hbd := costS_bd b k
      obtain ⟨S, hS⟩ : ∃ S, costS b k = S := ⟨_, rfl⟩
      rw [hS] at hbd HAr
      have HBd := Lib.hid hbd
      have hb0 := hbd 0
      have hc1 := HAr.out.cell (p + 1) (by omega)
      have hc0 := HAr.out.cell p (by omega)
      have e1 : fS (p + 1) S (p + 1) = S.getD 0 0 := by unfold fS; simp
      rw [e1] at hc1
      obtain ⟨s0, hs0⟩ : ∃ s0, S.getD 0 0 = s0 := ⟨_, rfl⟩
      rw [hs0] at hc1 hb0
      have hf0 := HAr.out.froz p
      have hpi : (p : Int) < 3745 := by omega
      have hpi1 : (p : Int) + 1 < 3745 := by omega
      have HS := Lib.hid hS
      have HS0 := Lib.hid hs0
      clear hbd hS e1 hs0
      have hAE : ∀ W1, Below (wr.setCell ⟨g, p, none⟩ (.int .i64 (s0 + 9))).heap.size (wr.setCell ⟨g, p, none⟩ (.int .i64 (s0 + 9))) W1 → Arr W1 g (fS p ((s0 + 9) :: S)) ∧ Below g w W1 := fun W1 hB1 => by
        have h1 := HAr.out.put p (by omega) (s0 + 9)
        rw [fS_put] at h1
        have h2 : Below g w (wr.setCell ⟨g, p, none⟩ (.int .i64 (s0 + 9))) := HB.out.setCell (Nat.le_refl g) _
        exact ⟨h1.below hB1, below_then h2 (Nat.le_of_lt h1.lt) hB1⟩
      have HAE := Lib.hid hAE
      have HBw : Hid (Below g w (wr.setCell ⟨g, p, none⟩ (.int .i64 (s0 + 9)))) := Lib.hid (hAE _ (Below.refl _ _)).2
      obtain ⟨l1, l2, hl⟩ : ∃ l1 l2, longestM b p = (l1, l2) := ⟨_, _, rfl⟩
      have HL := Lib.hid hl
      have hlp := longest_props b p (by omega)
      rw [hl] at hlp
      have hl2 : p + l2 ≤ b.length := hlp.2.1
      clear hAE hl hlp
      go_wp2_with (go_at_call 32; refine (longest_any A c b p (by omega) hb _ (HR.out.below (by rw [HGS.out]; exact HBw.out)) (lt_block HA.out (by rw [HGS.out]; exact Nat.le_trans (Nat.le_of_eq HGS.out.symm) HBw.out.size))).mono ?_; rintro e w1 ⟨rfl, hB⟩; rw [HL.out]; (have hAr1 := HAE.out w1 hB); clear hB)
      have HA1 := Lib.hid hAr1.1
      have HB1 := Lib.hid hAr1.2
      clear hAr1 HAE HBw HAr HB hc0 hc1 hf0
      go_loopg [8] (l2 + 1) (fun kq v8 W => ∃ (i : Nat), v8 = .int .i64 (3 + (i : Int)) ∧ i ≤ l2 - 2 ∧ kq = l2 + 1 - i ∧ Hid (Arr W g (fS p (minF S i (s0 + 9) :: S))) ∧ Hid (Below g w W))
      case atStart => exact ⟨0, rfl, by omega, rfl, HA1, HB1⟩
      case round =>
        obtain ⟨i, rfl, hi, hkq2, HAr, HB⟩ := hrel
        clear HA1 HB1
        by_cases hlt : 3 + i ≤ l2
        · have hlti : (3 : Int) + i ≤ l2 := by omega
          have hc0 := HAr.out.cell p (by omega)
          have hc1 := HAr.out.cell (p + (3 + i)) (by omega)
          have hf0 := HAr.out.froz p
          have hm := minF_bd S (fun j => (HBd.out j).1) i (s0 + 9) (by omega)
          have hb1 := HBd.out (i + 2)
          have e0 : fS p (minF S i (s0 + 9) :: S) p = minF S i (s0 + 9) := by unfold fS; simp
          have e1 : fS p (minF S i (s0 + 9) :: S) (p + (3 + i)) = S.getD (i + 2) 0 := by
            unfold fS
            rw [if_neg (by omega), show p + (3 + i) - p = (i + 2) + 1 from by omega, List.getD_cons_succ]
          rw [e0] at hc0
          rw [e1] at hc1
          obtain ⟨a0, ha0⟩ : ∃ a0, minF S i (s0 + 9) = a0 := ⟨_, rfl⟩
          obtain ⟨a1, ha1⟩ : ∃ a1, S.getD (i + 2) 0 = a1 := ⟨_, rfl⟩
          rw [ha0] at hc0 hm
          rw [ha1] at hc1 hb1
          have HNX : Hid (minF S (i + 1) (s0 + 9) = min a0 (a1 + 17)) := Lib.hid (by unfold minF; rw [ha0, ha1])
          have HA0 := Lib.hid ha0
          have hpn : (p : Int) + (3 + (i : Int)) < 3745 := by omega
          clear e0 e1 ha0 ha1
          go_wp2
          go_region
          obtain ⟨W2, hW2⟩ : ∃ W2, (wr.setCell ⟨g, p, none⟩ (.int .i64 (if a1 + 17 < a0 then a1 + 17 else a0))).drew = W2 := ⟨_, rfl⟩
          have hA2 : Arr W2 g (fS p (minF S (i + 1) (s0 + 9) :: S)) := by
            rw [← hW2, HNX.out]
            have h := (HAr.out.put p (by omega) (if a1 + 17 < a0 then a1 + 17 else a0)).draw
            rw [fS_put2] at h
            have e : (if a1 + 17 < a0 then a1 + 17 else a0) = min a0 (a1 + 17) := by
              split <;> omega
            rw [e] at h
            rw [e]
            exact h
          have hB2 : Below g w W2 := by rw [← hW2]; exact below_drew1 (HB.out.setCell (Nat.le_refl g) _)
          rw [hW2]
          have HA2 := Lib.hid hA2
          have HB2 := Lib.hid hB2
          clear hW2 hA2 hB2 hc0 hc1 hf0 HAr HB
          go_wp2
          all_goals go_roundg (l2 + 1 - (i + 1))
          all_goals first | (exact ⟨i + 1, by go_num, by omega, rfl, HA2, HB2⟩) | omega
        · have hlti : ¬ (3 : Int) + i ≤ l2 := by omega
          have hi2 : i = l2 - 2 := by omega
          have HC : Hid (costS b (k + 1) = minF S i (s0 + 9) :: S) := Lib.hid (by
            simp only [costS]
            rw [HS.out, HS0.out, show b.length - (k + 1) = p from by omega, HL.out, hi2])
          clear hi2
          go_wp2
          go_roundg p
          case measure => omega
          case rel => exact ⟨p, k + 1, by go_num, rfl, by omega, by rw [HC.out]; exact HAr, HB⟩
end Go.Proofs.Ytmlgjilflpdffaa
