/- Plain: runs of used and of free pages take turns; their sums. -/
import Derived.Test.YtibohhiebejbmaaGd
import Derived.Test.YtibohhiebejbmaaGh
import Derived.Test.YtibohhiebejbmaaRows
import Derived.Test.YtibohhiebejbmaaGa
import Derived.Test.YtibohhiebejbmaaPAllocActsx0
import Derived.ProofKit
import Derived.Deep.SlicePairs
namespace Go.Proofs.Ytibohhiebejbmaa
open Go.RowKit Go.Deep Go.Shelf
set_option linter.unusedVariables false
set_option linter.unusedSimpArgs false

/-- Runs that take turns from a page on. -/
inductive Alt (z : Nat) : Nat → List Ext2 → List Ext2 → Prop
  | nil : Alt z z [] []
  | last (p m : Nat) : 1 ≤ m → p + m = z → Alt z p [(p, m)] []
  | cons (p m k : Nat) (a b : List Ext2) : 1 ≤ m → 1 ≤ k → p + m + k ≤ z → Alt z (p + m + k) a b → Alt z p ((p, m) :: a) ((p + m, k) :: b)
theorem Alt.len {z p : Nat} {a b : List Ext2} (h : Alt z p a b) : b.length ≤ a.length ∧ a.length ≤ b.length + 1 := by
  induction h with
  | nil => simp
  | last => simp
  | cons p m k a b h1 h2 h3 h4 ih => simp only [List.length_cons]; omega
theorem alt_of (f : Nat → Bool) (z : Nat) : ∀ (d s : Nat), z - s ≤ d → s ≤ z → (s = z ∨ f s = true) → Alt z s (RR f s z) (RR (fun i => !f i) s z)
  | d, s, hd, hs, hf => by
    by_cases hz : s = z
    · subst hz
      rw [RR_none f (Nat.le_refl _), RR_none _ (Nat.le_refl _)]
      exact .nil
    · have hfs := hf.resolve_left hz
      obtain ⟨e, h1, h2, h3, h4⟩ := run_end f z (z - s) s (by omega) (by omega) hfs
      have hskip : RR (fun i => !f i) s z = RR (fun i => !f i) e z := by
        have := RR_skip (fun i => !f i) z (e - s) s (by omega) (fun j h5 h6 => by rw [h3 j h5 (by omega)]; rfl)
        rw [show s + (e - s) = e by omega] at this
        exact this
      rw [RR_run f h1 h2 h3 h4, hskip]
      by_cases hez : e = z
      · subst hez
        rw [RR_none f (Nat.le_refl _), RR_none _ (Nat.le_refl _)]
        exact .last _ _ (by omega) (by omega)
      · have hfe : f e = false := h4.resolve_left hez
        obtain ⟨e', g1, g2, g3, g4⟩ := run_end (fun i => !f i) z (z - e) e (by omega) (by omega) (by rw [hfe]; rfl)
        have hskip2 : RR f e z = RR f e' z := by
          have := RR_skip f z (e' - e) e (by omega) (fun j h5 h6 => by have := g3 j h5 (by omega); simpa using this)
          rw [show e + (e' - e) = e' by omega] at this
          exact this
        rw [RR_run (fun i => !f i) g1 g2 g3 g4, hskip2]
        match d, hd with
        | 0, hd => omega
        | d + 1, hd =>
          have ih := alt_of f z d e' (by omega) g2 (by rcases g4 with g4 | g4; exact .inl g4; exact .inr (by simpa using g4))
          have e1 : e = s + (e - s) := by omega
          have e2 : e' = s + (e - s) + (e' - e) := by omega
          have := Alt.cons (z := z) s (e - s) (e' - e) _ _ (by omega) (by omega) (by omega) (by rw [← e2]; exact ih)
          rw [← e1] at this
          exact this
def sumS (l : List Ext2) : Nat := (l.map (·.2)).sum
theorem sum_consR (p : Nat) (l : List Ext2) : sumS (consR p l) = sumS l + 1 := by
  unfold consR
  split
  · rfl
  · split
    · simp [sumS]; omega
    · simp [sumS]; omega
theorem sum_runsL : ∀ (l : List Bool) (p : Nat), sumS (runsL l p) = l.countP id
  | [], p => rfl
  | true :: t, p => by rw [runsL_true, sum_consR, sum_runsL t (p + 1)]; simp
  | false :: t, p => by rw [runsL_false, sum_runsL t (p + 1)]; simp
theorem sum_frees {us : List Bool} {n : Nat} (hn : us.length = n) : sumS (RR (eqB us false) 0 n) = freeM us := by
  unfold RR
  rw [sum_runsL]
  have : bitsR (eqB us false) 0 n = us.map (fun x => !x) := by
    refine List.ext_getElem (by rw [bitsR_len, List.length_map]; omega) fun i h1 h2 => ?_
    rw [bitsR_len] at h1
    have h3 := @bitsR_get (eqB us false) 0 n i h1
    rw [List.getD_eq_getElem?_getD, List.getElem?_eq_getElem (by rw [bitsR_len]; exact h1)] at h3
    have h4 : i < us.length := by omega
    simp only [Option.getD_some, Nat.zero_add] at h3
    rw [h3, List.getElem_map]
    unfold eqB
    rw [List.getD_eq_getElem?_getD, List.getElem?_eq_getElem h4]
    simp
  rw [this, List.countP_map]
  rfl
theorem eqB_not (us : List Bool) : (fun i => !eqB us true i) = eqB us false := funext fun i => by unfold eqB; cases us.getD i false <;> rfl
theorem alt_us {us : List Bool} {n : Nat} (h : Lead us n) : Alt n 0 (RR (eqB us true) 0 n) (RR (eqB us false) 0 n) := by
  have := alt_of (eqB us true) n n 0 (by omega) (by omega) (.inr (by unfold eqB; rw [h.low 0 (by omega)]; rfl))
  rw [eqB_not] at this
  exact this
end Go.Proofs.Ytibohhiebejbmaa
/- Walks: the law of counts. -/
namespace Go.Proofs.Ytibohhiebejbmaa
open Go.RowKit Go.Deep Go.Shelf Go.Proofs.YtibohhiebejbmaaW.PrintWords
open Go.Proofs.Ytibohhiebejbmaa.PAllocActs (S56 k56 rd_T56 at_T56 z56 S34 k34 rd_T34 at_T34)
set_option linter.unusedVariables false
set_option linter.unusedSimpArgs false
set_option maxRecDepth 100000

theorem ptr_ne (G : Nat) (W : World) : (binOp .eql 26 (.pointer (some ⟨G, 0, none⟩)) (.pointer none)).run Try.prog W = .ok (.bool false) W := by kernel_rfl
theorem rd_map {l : List Ext2} {i : Nat} {x : Ext2} (h : l[i]? = some x) : rd_T56 (l.map toS) (i : Int) = toS x := by
  unfold rd_T56
  rw [List.getD_eq_getElem?_getD, show ((i : Nat) : Int).toNat = i from rfl, List.getElem?_map, h]; rfl

theorem drop_head {l t : List Ext2} {i : Nat} {x : Ext2} (h : l.drop i = x :: t) : l[i]? = some x ∧ l.drop (i + 1) = t := by
  refine ⟨?_, ?_⟩
  · have := congrArg (fun s => s[0]?) h
    simpa using this
  · rw [← List.drop_drop, h]; rfl
set_option maxHeartbeats 4000000 in
theorem law_AllocCounts (n : Int) (A1 : Option Addr) (c1 : Nat) (acts : List S34) (w : World) (hr : Kd.C k34 w A1 acts.length acts) (hc : acts.length ≤ c1) (hm : acts.length ≤ 9223372036854775807) :
    Calls Try.prog 6 #[.int .i64 n, .slice A1 acts.length c1] w fun e w' => e = .returned (.bool true) ∧ Below w.heap.size w w' := by
  obtain ⟨rf, hrf, hfew⟩ := few_any n A1 c1 acts w hr hc hm
  have HFW := Lib.hid hfew
  have HR := Lib.hid hr
  obtain ⟨la, hla⟩ : ∃ la, acts.length = la := ⟨_, rfl⟩
  have HLA := Lib.hid hla
  clear hfew
  cases rf with
  | false =>
    clear hr hrf hla
    go_enter Try.func6, Try.ntmps6
    go_wp2_with (first
      | (go_at_call 9; refine HFW.out.mono ?_; rintro e w1 ⟨rfl, hB⟩; (have HB := Lib.hid hB); clear hB)
      | (go_at_call 10; refine (sanity_any _).mono ?_; rintro e w2 ⟨rfl, hB⟩; (have HB2 := Lib.hid (Ytibohhiebejbmaa.below_then HB.out HB.out.size hB)); clear hB))
    go_ret
    exact ⟨rfl, HB2.out⟩
  | true =>
    obtain ⟨hn4, hn16, hac⟩ := hrf rfl
    by_cases hbig : n ≤ 1536
    · obtain ⟨N, rfl⟩ : ∃ N : Nat, n = N := ⟨n.toNat, by omega⟩
      have hN4 : 4 ≤ N := by omega
      have hN15 : N ≤ 1536 := by omega
      have hptr := ptr_ne
      obtain ⟨us, hus⟩ : ∃ us, goneM N acts = us := ⟨_, rfl⟩
      have HUS := Lib.hid hus
      have HGO : Hid (∀ W, Below w.heap.size w W → Calls Try.prog 23 #[.int .i64 N, .slice A1 acts.length c1] W fun e w' => ∃ G A, e = .returned (.pointer (some ⟨G, 0, none⟩)) ∧ SU w' G A N us ∧ Below W.heap.size W w' ∧ W.heap.size ≤ G ∧ W.heap.size ≤ A) :=
        Lib.hid fun W hb => by rw [← hus]; exact gone_any N hN4 hN15 A1 c1 acts W (Kd.C_below HR.out hb) hc (by omega)
      clear hr hrf hla hus
      obtain ⟨ra, hra⟩ : ∃ ra, RR (eqB us true) 0 N = ra := ⟨_, rfl⟩
      obtain ⟨rb, hrb⟩ : ∃ rb, RR (eqB us false) 0 N = rb := ⟨_, rfl⟩
      have HLen : Hid (us.length = N ∧ Lead us N) := Lib.hid (by rw [← HUS.out]; exact ⟨(goneM_lead hN4 acts).len, goneM_lead hN4 acts⟩)
      have HALT : Hid (Alt N 0 ra rb) := Lib.hid (by rw [← hra, ← hrb]; exact alt_us HLen.out.2)
      have HSUM : Hid (sumS rb = freeM us) := Lib.hid (by rw [← hrb]; exact sum_frees HLen.out.1)
      have hlal := HALT.out.len
      have hlra : ra.length ≤ N := by have := RR_len (eqB us true) 0 N; rw [hra] at this; omega
      obtain ⟨ka, hka⟩ : ∃ ka, ra.length = ka := ⟨_, rfl⟩
      obtain ⟨kb, hkb⟩ : ∃ kb, rb.length = kb := ⟨_, rfl⟩
      obtain ⟨fr, hfr⟩ : ∃ fr, freeM us = fr := ⟨_, rfl⟩
      have HKA := Lib.hid hka
      have HKB := Lib.hid hkb
      have HFR := Lib.hid hfr
      have HRA := Lib.hid hra
      have HRB := Lib.hid hrb
      have hfrn : fr ≤ N := by have := freeM_le us; have := HLen.out.1; omega
      rw [hka, hkb] at hlal
      rw [hka] at hlra
      clear hka hkb hfr hra hrb
      have hq1 : decide ((1536 : Int) < (N : Int)) = false := by simp; omega
      have hq2 : decide (ka < kb) = false := by simp; omega
      have hq3 : decide ((kb : Int) + 1 < (ka : Int)) = false := by simp; omega
      go_enter Try.func6, Try.ntmps6
      go_wp2_with (fail)
      refine HFW.out.mono ?_
      rintro e w1 ⟨rfl, hB⟩
      have HB := Lib.hid hB
      clear hB
      go_wp2_with (fail)
      refine (HGO.out _ HB.out).mono ?_
      rintro e w2 ⟨G, A, rfl, hS, hB, hG, hA⟩
      have HB2 := Lib.hid (Ytibohhiebejbmaa.below_then HB.out HB.out.size hB)
      have HS2 := Lib.hid hS
      clear hS hB hG hA
      go_wp2_with (fail)
      refine (runs_us (tx := 1) true HS2.out).mono ?_
      rintro e w3 ⟨Aa, ca, rfl, ho, hB⟩
      rw [HRA.out] at ho ⊢
      rw [HKA.out] at ho ⊢
      have HB3 := Lib.hid (Ytibohhiebejbmaa.below_then HB2.out HB2.out.size hB)
      have HS3 := Lib.hid (HS2.out.on hB)
      have HOa := Lib.hid ho
      clear ho hB
      go_wp2_with (fail)
      refine (runs_us (tx := 1) false HS3.out).mono ?_
      rintro e w4 ⟨Ab, cb, rfl, ho, hB⟩
      rw [HRB.out] at ho ⊢
      rw [HKB.out] at ho ⊢
      have HB4 := Lib.hid (Ytibohhiebejbmaa.below_then HB3.out HB3.out.size hB)
      have HS4 := Lib.hid (HS3.out.on hB)
      have HOa4 := Lib.hid (own_keep HOa.out hB)
      have HOb := Lib.hid ho
      clear ho hB
      go_wp2_with (fail)
      refine (free_us (tx := 1) HS4.out).mono ?_
      rintro e w5 ⟨rfl, hB⟩
      rw [HFR.out]
      have HB5 := Lib.hid (Ytibohhiebejbmaa.below_then HB4.out HB4.out.size hB)
      have HKa : Hid (Kd.C k56 w5 Aa ka (ra.map toS)) := Lib.hid (Kd.C_below (ext_reads HOa4.out HKA.out (by omega)) hB)
      have HKb : Hid (Kd.C k56 w5 Ab kb (rb.map toS)) := Lib.hid (Kd.C_below (ext_reads HOb.out HKB.out (by omega)) hB)
      have hw1 : IntKind.i64.wrap ((kb : Int) + 1) = ((kb + 1 : Nat) : Int) := i64_is (by omega) (by omega)
      have hl1 : ¬ ((ka : Int) < (kb : Int)) := by omega
      have hl2 : ¬ (((kb + 1 : Nat) : Int) < (ka : Int)) := by omega
      clear hB HOa4 HOb HS4 HS3 HS2 HB4 HB3 HB2 HB HOa
      go_wp2_with (fail)
      have HA0 : Hid (Alt N 0 (ra.drop 0) (rb.drop 0)) := HALT
      have hs0 : 0 + sumS (rb.drop 0) = fr := by have h1 := HSUM.out; have h2 := HFR.out; simp; omega
      have HS0 := Lib.hid hs0
      clear hw1 hl1 hl2 HALT HSUM hs0
      go_loopg [12, 13, 14] (ka + 1) (fun kq v1 v2 v3 W => ∃ (p s i : Nat), v1 = .int .i64 p ∧ v2 = .int .i64 s ∧ v3 = .int .i64 i ∧ Hid (W = w5) ∧ i ≤ ka ∧ ka - i < kq ∧ Hid (Alt N p (ra.drop i) (rb.drop i)) ∧ Hid (s + sumS (rb.drop i) = fr))
      case atStart => exact ⟨0, 0, 0, by simp, by simp, by simp, Lib.hid rfl, by omega, by omega, HA0, HS0⟩
      case round =>
        clear HA0 HS0
        obtain ⟨p, s, i, rfl, rfl, rfl, HWE, hi, hkq, HA, HS⟩ := hrel
        have hwe := HWE.out
        subst hwe
        by_cases hlt : i < ka
        · have hlti : (i : Int) < (ka : Int) := by omega
          obtain ⟨ad, ea, hx0, hx1⟩ := at_T56 HKa.out (i : Int) (by omega) hlti
          cases ea
          rw [show ((i : Nat) : Int).toNat = i from rfl] at hx0 hx1
          have hA := HA.out
          obtain ⟨X, hX⟩ : ∃ X, ra.drop i = X := ⟨_, rfl⟩
          obtain ⟨Y, hY⟩ : ∃ Y, rb.drop i = Y := ⟨_, rfl⟩
          have hXl : X.length = ka - i := by rw [← hX, List.length_drop, HKA.out]
          have hYl : Y.length = kb - i := by rw [← hY, List.length_drop, HKB.out]
          have hs := HS.out
          rw [hX, hY] at hA
          rw [hY] at hs
          cases hA with
          | nil => simp at hXl; omega
          | last _ m h1 h2 =>
            obtain ⟨g1, g2⟩ := drop_head hX
            rw [rd_map g1] at hx0 hx1
            simp only [toS] at hx0 hx1
            simp at hYl
            have hnb : ¬ ((i : Int) < (kb : Int)) := by omega
            have hwp : IntKind.i64.wrap ((p : Int) + (m : Int)) = ((p + m : Nat) : Int) := i64_is (by omega) (by omega)
            have hm1 : ¬ ((m : Int) < 1) := by omega
            have HA2 : Hid (Alt N (p + m) (ra.drop (i + 1)) (rb.drop (i + 1))) := Lib.hid (by
              have : rb.drop (i + 1) = [] := by rw [← List.drop_drop, hY]; rfl
              rw [g2, this, h2]
              exact .nil)
            have HS2 : Hid (s + sumS (rb.drop (i + 1)) = fr) := Lib.hid (by
              have : rb.drop (i + 1) = [] := by rw [← List.drop_drop, hY]; rfl
              rw [this]; exact hs)
            clear hs hX hY hXl hYl g1 g2 h2 HA HS
            go_wp2
            go_roundg (ka - i)
            case measure => omega
            case rel => exact ⟨p + m, s, i + 1, by simp, by simp, by simp, Lib.hid rfl, by omega, by omega, HA2, HS2⟩
          | cons _ m k a b h1 h2 h3 h4 =>
            obtain ⟨g1, g2⟩ := drop_head hX
            obtain ⟨g3, g4⟩ := drop_head hY
            rw [rd_map g1] at hx0 hx1
            simp only [toS] at hx0 hx1
            have hib : i < kb := by simp at hYl; omega
            have hibi : (i : Int) < (kb : Int) := by omega
            obtain ⟨bd, eb, hy0, hy1⟩ := at_T56 HKb.out (i : Int) (by omega) hibi
            cases eb
            rw [show ((i : Nat) : Int).toNat = i from rfl] at hy0 hy1
            rw [rd_map g3] at hy0 hy1
            simp only [toS] at hy0 hy1
            have hwp : IntKind.i64.wrap ((p : Int) + (m : Int)) = ((p + m : Nat) : Int) := i64_is (by omega) (by omega)
            have hwq : IntKind.i64.wrap (((p + m : Nat) : Int) + (k : Int)) = ((p + m + k : Nat) : Int) := i64_is (by omega) (by omega)
            have hsl : s + (k + sumS b) = fr := by simpa [sumS] using hs
            have hws : IntKind.i64.wrap ((s : Int) + (k : Int)) = ((s + k : Nat) : Int) := i64_is (by omega) (by omega)
            have hm1 : ¬ ((m : Int) < 1) := by omega
            have hk1 : ¬ ((k : Int) < 1) := by omega
            have HA2 : Hid (Alt N (p + m + k) (ra.drop (i + 1)) (rb.drop (i + 1))) := Lib.hid (by rw [g2, g4]; exact h4)
            have HS2 : Hid (s + k + sumS (rb.drop (i + 1)) = fr) := Lib.hid (by rw [g4]; omega)
            obtain ⟨pm, hpm⟩ : ∃ pm, p + m = pm := ⟨_, rfl⟩
            have HPM := Lib.hid hpm
            rw [hpm] at hwp hwq hy0
            have hpz : (((p : Nat) + m : Nat) : Int) = (pm : Int) := by omega
            clear hs hX hY hXl hYl g1 g2 g3 g4 h4 HA HS hpm hsl
            go_wp2
            go_roundg (ka - i)
            case measure => omega
            case rel => exact ⟨p + m + k, s + k, i + 1, by simp [HPM.out], by simp, by simp, Lib.hid rfl, by omega, by omega, HA2, HS2⟩
        · have hie : i = ka := by omega
          have hlti : ¬ (i : Int) < (ka : Int) := by omega
          have hA := HA.out
          have hs := HS.out
          rw [hie, show ra.drop ka = [] by rw [← HKA.out]; exact List.drop_length ..] at hA
          rw [hie] at hs
          obtain ⟨Y, hY⟩ : ∃ Y, rb.drop ka = Y := ⟨_, rfl⟩
          rw [hY] at hA hs
          cases hA
          have hsf : s = fr := by simpa [sumS] using hs
          clear hie hs hY HA HS
          go_wp2_with (go_at_call 10; refine (sanity_any _).mono ?_; rintro e w6 ⟨rfl, hB⟩; (have HB6 := Lib.hid (Ytibohhiebejbmaa.below_then HB5.out HB5.out.size hB)); clear hB)
          go_ret
          exact ⟨by simp [hsf], HB6.out⟩
    · have hbig2 : 1536 < n := by omega
      clear hr hrf hla
      go_enter Try.func6, Try.ntmps6
      go_wp2_with (first
        | (go_at_call 9; refine HFW.out.mono ?_; rintro e w1 ⟨rfl, hB⟩; (have HB := Lib.hid hB); clear hB)
        | (go_at_call 10; refine (sanity_any _).mono ?_; rintro e w2 ⟨rfl, hB⟩; (have HB2 := Lib.hid (Ytibohhiebejbmaa.below_then HB.out HB.out.size hB)); clear hB))
      go_ret
      exact ⟨rfl, HB2.out⟩
end Go.Proofs.Ytibohhiebejbmaa
/- The rows' words: arguments that are slices of extents, of acts, of bytes are opened. -/
namespace Go.Proofs.Ytibohhiebejbmaa
open Go.ChangeShapes Go.WideShapes Go.ChangeAt Go.RowKit Go.Deep Go.Proofs.YtibohhiebejbmaaW.PrintWords
open Go.Proofs.Ytibohhiebejbmaa.PAllocActs (S56 k56 z56 S34 k34 z34)
set_option linter.unusedVariables false
set_option linter.unusedSimpArgs false
set_option maxRecDepth 100000

theorem Try.own : ownKnob Try.prog.godebug = none := by kernel_rfl
theorem Try.laidOut : laidOutB Try.prog = true := by kernel_rfl
theorem Try.cells5 : Try.prog.cellsOf 5 = 1 := by kernel_rfl
theorem Try.cells3 : Try.prog.cellsOf 3 = 1 := by kernel_rfl
theorem Try.cells4 : Try.prog.cellsOf 4 = 1 := by kernel_rfl
theorem Try.cells32 : Try.prog.cellsOf 32 = 1 := by kernel_rfl
theorem Try.cells56 : Try.prog.cellsOf 56 = 2 := by kernel_rfl
theorem Try.cells34 : Try.prog.cellsOf 34 = 5 := by kernel_rfl
instance : Inhabited S56 := ⟨z56⟩
instance : Inhabited S34 := ⟨z34⟩

section
variable {H : Type} {enc : TypeId × Value → H}

theorem int_of {W : World} {n : Nat} {v : Value} {y : DataW H × List MemPlace} {t : TypeId} {k : IntKind} (ht : Try.prog.underlying t = some (.int k)) (h : DataW.trod enc Try.prog W 0 (fun _ => true) true n t [v] = some y) : ∃ m, v = .int k m := by
  obtain ⟨m, e, -, hw⟩ := DataW.trod_int ht h
  exact ⟨m, by injection e⟩
theorem bool_of {W : World} {n : Nat} {v : Value} {y : DataW H × List MemPlace} (h : DataW.trod enc Try.prog W 0 (fun _ => true) true n 4 [v] = some y) : ∃ b, v = .bool b := by
  obtain ⟨m, e, -⟩ := DataW.trod_bool Try.underlying4 h
  exact ⟨m, by injection e⟩
theorem pick_lt {α : Type} [Inhabited α] {n : Nat} {p : Nat → α → Prop} (h : ∀ i, i < n → ∃ x, p i x) : ∃ f : Nat → α, ∀ i, i < n → p i (f i) :=
  ⟨fun i => if hi : i < n then Classical.choose (h i hi) else default, fun i hi => by simp only [dif_pos hi]; exact Classical.choose_spec (h i hi)⟩

/-- A slice of extents, wherever it lies. -/
theorem exts_of {W : World} {fuel : Nat} {v : Value} {y : DataW H × List MemPlace} (h : DataW.trod enc Try.prog W 0 (fun _ => true) true fuel 32 [v] = some y) :
    ∃ A c l, v = .slice A l.length c ∧ l.length ≤ c ∧ l.length ≤ maxLen ∧ Kd.C k56 W A l.length l := by
  rcases open_slice Try.underlying32 h with ⟨hcs, hx⟩ | ⟨a, len, cap, m, n, D, Pl, hcs, _, hl, hm, hmm, hx, hcell⟩
  · cases hcs
    exact ⟨none, 0, [], rfl, Nat.le_refl _, Nat.zero_le _, rfl, by simp, fun h => absurd h (by simp)⟩
  · cases hcs
    simp only [if_true] at hmm
    subst hmm
    have each : ∀ i, i < m → ∃ x : S56, W.cell? (a.add (i * 2)) = some (.int .i64 x.f0) ∧ W.cell? (a.add (i * 2 + 1)) = some (.int .i64 x.f1) := by
      intro i hi
      obtain ⟨cs', g1, g2⟩ := hcell i hi
      rw [Try.cells56] at g1
      obtain ⟨_, hlen, hcl⟩ := World.cells?_some g1
      obtain ⟨xs, k, hk, hxy, _, hxl, hfl⟩ := DataW.trod_struct Try.underlying56 g2
      match cs', hlen with
      | [v0, v1], _ =>
        have f0 := hfl 0 _ rfl
        have f1 := hfl 1 _ rfl
        have hx4 : xs.length = 2 := hxl
        simp [Try.cells3] at f0 f1
        rw [List.getElem?_eq_getElem (by omega)] at f0 f1
        obtain ⟨x, rfl⟩ := int_of Try.underlying3 f0
        obtain ⟨z, rfl⟩ := int_of Try.underlying3 f1
        have e0 := hcl 0 (by omega)
        have e1 := hcl 1 (by omega)
        rw [add_add] at e0 e1
        exact ⟨⟨x, z⟩, by simpa using e0, by simpa using e1⟩
    obtain ⟨q, hq⟩ := pick_lt (α := S56) each
    have hlen : ((List.range len).map q).length = len := by simp
    refine ⟨some a, m, (List.range len).map q, by rw [hlen], by rw [hlen]; exact hl, by rw [hlen]; omega, rfl, by rw [hlen]; simp only [maxLen] at hm; omega, fun _ => ⟨a, rfl, fun j p hj => ?_⟩⟩
    rw [List.getElem?_map] at hj
    have hjl : j < len := by
      rcases Nat.lt_or_ge j len with h1 | h1
      · exact h1
      · rw [List.getElem?_eq_none (by simpa using h1)] at hj; cases hj
    rw [List.getElem?_range hjl] at hj
    cases hj
    refine ⟨[.int .i64 (q j).f0, .int .i64 (q j).f1], rfl, PAllocActs.k56_mk W (q j), fun i u hu => ?_⟩
    have := hq j (by omega)
    match i, hu with
    | 0, hu => cases hu; exact this.1
    | 1, hu => cases hu; exact this.2
    | i + 2, hu => simp at hu
theorem open_exts {W : World} {base : Nat} {v1 : Value} {d1 : DataW H} {p1 : List MemPlace} (hval : Value.okWide Try.prog W .any base 32 v1) (h1 : DataW.Trod enc Try.prog W 0 (fun _ => true) true 32 v1 d1 p1) :
    ∃ A c l, v1 = .slice A l.length c ∧ l.length ≤ c ∧ l.length ≤ maxLen ∧ Kd.C k56 W A l.length l := by
  obtain ⟨a1, len, cap, rfl⟩ := okWide_slice Try.underlying32 hval
  obtain ⟨fuel, hf⟩ := h1
  exact exts_of (by simpa [Value.cells] using hf)
theorem open_acts {W : World} {base : Nat} {v1 : Value} {d1 : DataW H} {p1 : List MemPlace} (hval : Value.okWide Try.prog W .any base 23 v1) (h1 : DataW.Trod enc Try.prog W 0 (fun _ => true) true 23 v1 d1 p1) :
    ∃ A c l, v1 = .slice A l.length c ∧ l.length ≤ c ∧ l.length ≤ maxLen ∧ Kd.C k34 W A l.length l := by
  obtain ⟨a1, len', cap', rfl⟩ := okWide_slice Try.underlying23 hval
  obtain ⟨fuel, hf⟩ := h1
  rcases open_slice Try.underlying23 hf with ⟨hcs, hx⟩ | ⟨a, len, cap, m, n, D, Pl, hcs, _, hl, hm, hmm, hx, hcell⟩
  · simp [Value.cells] at hcs
    obtain ⟨rfl, rfl, rfl⟩ := hcs
    exact ⟨none, 0, [], rfl, Nat.le_refl _, Nat.zero_le _, rfl, by simp, fun h => absurd h (by simp)⟩
  · simp [Value.cells] at hcs
    obtain ⟨rfl, rfl, rfl⟩ := hcs
    simp only [if_true] at hmm
    subst hmm
    have each : ∀ i, i < m → ∃ x : S34, ∃ A c, W.cell? (a.add (i * 5)) = some (.int .i64 x.f0) ∧ W.cell? (a.add (i * 5 + 1)) = some (.int .i64 x.f1) ∧ W.cell? (a.add (i * 5 + 2)) = some (.int .i64 x.f2) ∧ W.cell? (a.add (i * 5 + 3)) = some (.bool x.f3) ∧
        W.cell? (a.add (i * 5 + 4)) = some (.slice A x.f4.length c) ∧ x.f4.length ≤ c ∧ Kd.C k56 W A x.f4.length x.f4 := by
      intro i hi
      obtain ⟨cs', g1, g2⟩ := hcell i hi
      rw [Try.cells34] at g1
      obtain ⟨_, hlen, hcl⟩ := World.cells?_some g1
      obtain ⟨xs, k, hk, hxy, _, hxl, hfl⟩ := DataW.trod_struct Try.underlying34 g2
      match cs', hlen with
      | [v0, v1, v2, v3, v4], _ =>
        have f0 := hfl 0 _ rfl
        have f1 := hfl 1 _ rfl
        have f2 := hfl 2 _ rfl
        have f3 := hfl 3 _ rfl
        have f4 := hfl 4 _ rfl
        have hx4 : xs.length = 5 := hxl
        simp [Try.cells3, Try.cells4, Try.cells32] at f0 f1 f2 f3 f4
        rw [List.getElem?_eq_getElem (by omega)] at f0 f1 f2 f3 f4
        obtain ⟨x0, rfl⟩ := int_of Try.underlying3 f0
        obtain ⟨x1, rfl⟩ := int_of Try.underlying3 f1
        obtain ⟨x2, rfl⟩ := int_of Try.underlying3 f2
        obtain ⟨x3, rfl⟩ := bool_of f3
        obtain ⟨A, c, l, rfl, hlc, -, hK⟩ := exts_of f4
        have e0 := hcl 0 (by omega)
        have e1 := hcl 1 (by omega)
        have e2 := hcl 2 (by omega)
        have e3 := hcl 3 (by omega)
        have e4 := hcl 4 (by omega)
        rw [add_add] at e0 e1 e2 e3 e4
        exact ⟨⟨x0, x1, x2, x3, l⟩, A, c, by simpa using e0, by simpa using e1, by simpa using e2, by simpa using e3, by simpa using e4, hlc, hK⟩
    obtain ⟨q, hq⟩ := pick_lt (α := S34) each
    have hlen : ((List.range len').map q).length = len' := by simp
    refine ⟨some a, m, (List.range len').map q, by rw [hlen], by rw [hlen]; exact hl, by rw [hlen]; omega, rfl, by rw [hlen]; simp only [maxLen] at hm; omega, fun _ => ⟨a, rfl, fun j p hj => ?_⟩⟩
    rw [List.getElem?_map] at hj
    have hjl : j < len' := by
      rcases Nat.lt_or_ge j len' with h1 | h1
      · exact h1
      · rw [List.getElem?_eq_none (by simpa using h1)] at hj; cases hj
    rw [List.getElem?_range hjl] at hj
    cases hj
    obtain ⟨A4, c4, q0, q1, q2, q3, q4, hlc, hK⟩ := hq j (by omega)
    refine ⟨_, rfl, PAllocActs.k34_mk W (q j) hlc hK, fun i u hu => ?_⟩
    match i, hu with
    | 0, hu => cases hu; exact q0
    | 1, hu => cases hu; exact q1
    | 2, hu => cases hu; exact q2
    | 3, hu => cases hu; exact q3
    | 4, hu => cases hu; exact q4
    | i + 5, hu => simp at hu
theorem open_bool {W : World} {base : Nat} {v1 : Value} {d1 : DataW H} {p1 : List MemPlace} (hval : Value.okWide Try.prog W .any base 4 v1) (h1 : DataW.Trod enc Try.prog W 0 (fun _ => true) true 4 v1 d1 p1) : ∃ b, v1 = .bool b ∧ d1 = .lit (.bool b) ∧ p1 = [] := by
  obtain ⟨b, rfl⟩ := okWide_bool Try.underlying4 hval
  obtain ⟨fuel, hf⟩ := h1
  obtain ⟨m, e, hx⟩ := DataW.trod_bool Try.underlying4 hf
  simp [Value.cells] at e
  subst e
  simp only [Prod.mk.injEq] at hx
  exact ⟨b, rfl, hx.1, hx.2⟩
theorem shut_bool {W : World} {base : Nat} {spare : Nat → Bool} {held : Bool} (b : Bool) : DataW.Trod enc Try.prog W base spare held 4 (.bool b) (.lit (.bool b)) [] :=
  ⟨1, by simp [DataW.trod, Value.cells, Try.underlying4]⟩
end
section
variable {H : Type} {enc : TypeId × Value → H} {P : Program} {w : World} {base : Nat} {spare : Nat → Bool} {held : Bool}
theorem trodAll_five {t t' t'' t3 t4 : TypeId} {args : Array Value} {ds : List (DataW H)} {ps : List MemPlace} (h : DataW.TrodAll enc P w base spare held [t, t', t'', t3, t4] args.toList ds ps) :
    ∃ v v' v'' v3 v4 d d' d'' d3 d4 p p' p'' p3 p4, args = #[v, v', v'', v3, v4] ∧ ds = [d, d', d'', d3, d4] ∧ ps = p ++ (p' ++ (p'' ++ (p3 ++ p4))) ∧ DataW.Trod enc P w base spare held t v d p ∧ DataW.Trod enc P w base spare held t' v' d' p' ∧ DataW.Trod enc P w base spare held t'' v'' d'' p'' ∧ DataW.Trod enc P w base spare held t3 v3 d3 p3 ∧ DataW.Trod enc P w base spare held t4 v4 d4 p4 := by
  obtain ⟨v, vs, d, ds', p, q, hargs, rfl, rfl, hd, hrest⟩ := trodAll_cons h
  obtain ⟨v', vs', d', ds'', p', q', rfl, rfl, rfl, hd', hrest'⟩ := trodAll_cons hrest
  obtain ⟨v'', vs'', d'', ds''', p'', q'', rfl, rfl, rfl, hd'', hrest''⟩ := trodAll_cons hrest'
  obtain ⟨v3, vs3, d3, ds3, p3, q3, rfl, rfl, rfl, hd3, hrest3⟩ := trodAll_cons hrest''
  obtain ⟨v4, vs4, d4, ds4, p4, q4, rfl, rfl, rfl, hd4, hrest4⟩ := trodAll_cons hrest3
  obtain ⟨rfl, rfl, rfl⟩ := trodAll_nil hrest4
  exact ⟨v, v', v'', v3, v4, d, d', d'', d3, d4, p, p', p'', p3, p4, by cases args; simp_all, rfl, by simp, hd, hd', hd'', hd3, hd4⟩
theorem trodAll_mk5 {t t' t'' t3 t4 : TypeId} {v v' v'' v3 v4 : Value} {d d' d'' d3 d4 : DataW H} {p p' p'' p3 p4 : List MemPlace} (h : DataW.Trod enc P w base spare held t v d p) (h' : DataW.Trod enc P w base spare held t' v' d' p')
    (h'' : DataW.Trod enc P w base spare held t'' v'' d'' p'') (h3 : DataW.Trod enc P w base spare held t3 v3 d3 p3) (h4 : DataW.Trod enc P w base spare held t4 v4 d4 p4) : DataW.TrodAll enc P w base spare held [t, t', t'', t3, t4] [v, v', v'', v3, v4] [d, d', d'', d3, d4] (p ++ (p' ++ (p'' ++ (p3 ++ p4)))) :=
  ⟨p, _, h, ⟨p', _, h', ⟨p'', _, h'', trodAll_mk2 h3 h4, rfl⟩, rfl⟩, rfl⟩
end
end Go.Proofs.Ytibohhiebejbmaa
/- AllocCounts: for all arguments the law returns true and leaves its arguments as they were. Conditions: none beyond the row. -/
namespace Go.Proofs.Ytibohhiebejbmaa
open Go.ChangeShapes Go.WideShapes Go.ChangeAt Go.RowKit Go.Deep
set_option linter.unusedVariables false

set_option maxRecDepth 100000 in
theorem allocCounts_lifted (os : Os) (started : os.Started) (H : Type) (enc : TypeId × Value → H) :
    ReturnsInHanded {} Try.checked os 6 .any (Rows.allocCountsSpec.pre6 enc Try.prog Try.f6 Rows.allocCountsRow.domain false) (Rows.allocCountsSpec.post enc Try.prog Try.f6 false true false false) := by
  refine returnsInHanded_of_change (C := Try.checked) Try.own started (by kernel_rfl) Try.func6
    (ChangeSpec.witness6 (enc := enc) (C := Try.checked) false ⟨#[], #[.int .i64 0, .slice none 0 0], []⟩ 8 (by kernel_rfl) (by kernel_rfl) (by kernel_rfl) (by kernel_rfl)) ?_
  intro W base args ds gs before hval0 hW hcnd _
  have hval : ∀ (j : Nat) t v, Try.f6.params[j]? = some t → args[j]? = some v → Value.okWide Try.prog W .any base t v := hval0
  have hW' := hW
  obtain ⟨p, q, hA0, hV, rfl, hfz, hnd⟩ := hW
  have hA : DataW.TrodAll enc Try.prog W 0 (fun _ => true) true Try.f6.params.toList args.toList ds p := hA0
  rw [Try.params6] at hA hval
  obtain ⟨v0, v1, d0, d1, p0, p1, rfl, rfl, rfl, h0, h1⟩ := trodAll_two hA
  obtain ⟨rfl, rfl⟩ := trodVars_none hV
  obtain ⟨a0, rfl, rfl, rfl, wa0⟩ := open_int Try.underlying3 (hval 0 3 v0 rfl rfl) h0
  obtain ⟨A1, c1, b1, rfl, hc1, hm1, hR1⟩ := open_acts (hval 1 23 v1 rfl rfl) h1
  clear hA0 hval0
  simp only [List.append_nil] at hW'
  have hlt1 : ∀ x ∈ p1, x.block < W.heap.size := fun x hx => by simpa using hW'.lt x (by simp [hx])
  refine (law_AllocCounts a0 A1 c1 b1 W hR1 hc1 (Nat.le_trans hm1 (by decide))).mono fun e W' ⟨he, hw⟩ => ?_
  subst he
  exact ⟨_, rfl, ⟨_, _, _, [], _, [], hW', trodAll_mk1 (shut_bool true), trodAll_mk2 (shut_int Try.underlying3 wa0) (Below.trod Try.laidOut (by kernel_rfl) (of_decide_eq_true (by kernel_rfl)) h1 hw hlt1), rfl, hw.frame _, fun h => by cases h⟩⟩

theorem allocCounts_holds : Rows.AllocCountsSaid :=
  OpenClaim.holds_of_wide 6 Try.f6 rfl rfl rfl rfl rfl rfl rfl ⟨rfl, rfl, rfl, rfl, rfl⟩ rfl rfl rfl rfl rfl (by kernel_rfl) Try.func6 (by kernel_rfl)
    (of_decide_eq_true (by kernel_rfl)) (by unfold Func.isWrapper; rw [if_neg (by decide +kernel)]; exact ⟨rfl, rfl⟩)
    (fun os started H enc _ => allocCounts_lifted os started H enc)
#print axioms allocCounts_holds
end Go.Proofs.Ytibohhiebejbmaa
