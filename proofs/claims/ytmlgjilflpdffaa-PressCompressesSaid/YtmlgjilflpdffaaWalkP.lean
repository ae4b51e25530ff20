/- Walk: PressPrefixes. A region that draws its order and holds calls that only make memory: one walk in the class of worlds that keep the old blocks. -/
import Derived.Test.YtmlgjilflpdffaaWalkO
import Derived.Test.YtmlgjilflpdffaaCodeD
namespace Go.Proofs.Ytmlgjilflpdffaa
open Go.RowKit Go.Deep
set_option linter.unusedVariables false
set_option linter.unusedSimpArgs false

/-- A later world: the old blocks stand. -/
structure Ext (w0 : World) where
  w : World
  ok : Below w0.heap.size w0 w
instance (w0 : World) : Nonempty (Ext w0) := ⟨⟨w0, Below.refl _ _⟩⟩
theorem wp_region_ext {P : Program} {id : Nat} {Q : Exit → Act → World → Prop} {a : Act} {w : World} {l : List Oper} (hm : P.follows .mixedOrders = true) (hB : Region.lexB .any l.toArray = true)
    (h : wpQuiet P l.toArray (fun w' => ∃ m : Ext w, w' = m.w) (fun a' => ∀ w', (∃ m : Ext w, w' = m.w) → Q .normal a' w') l a) : (Code.region id l.toArray true).wp P Q a w :=
  wp_region_quiet (C := fun w' => ∃ m : Ext w, w' = m.w) hm hB ⟨⟨_, below_drew1 (Below.refl _ _)⟩, rfl⟩ (by simpa using h)
/-- sane, in that class. -/
theorem sane_ext (w0 : World) (m : Ext w0) : Calls Try.prog 13 #[] m.w fun e w'' => e = .returned (.bool true) ∧ ∃ m' : Ext w0, w'' = m'.w :=
  (sane_any m.w).mono fun e w'' ⟨h1, h2⟩ => ⟨h1, ⟨⟨w'', below_then m.ok m.ok.size h2⟩, rfl⟩⟩

theorem run_to22 (A : Option Addr) (n c k : Nat) (h : k ≤ c) (w : World) : (Instr.slice 22 (.slice A n c) none (some (.int .i64 k)) none).run Try.prog w = .ok (.slice A k c) w := by
  have e : Try.prog.elem 22 = 5 := by kernel_rfl
  have hz : (sizeOf 5).run Try.prog w = .ok 1 w := by kernel_rfl
  have hu : Try.prog.underlying 22 = some (.slice (Try.prog.elem 22)) := by rw [e]; exact Try.underlying22
  rw [run_slice_h w 22 A n c hu .i64 k (by omega) (by omega), e, hz]
  cases A <;> simp [Result.andThen, sliced, Addr.add]
theorem run_to31 (A : Option Addr) (n c k : Nat) (h : k ≤ c) (w : World) : (Instr.slice 31 (.slice A n c) none (some (.int .i64 k)) none).run Try.prog w = .ok (.slice A k c) w := by
  have e : Try.prog.elem 31 = 35 := by kernel_rfl
  have hz : (sizeOf 35).run Try.prog w = .ok 4 w := by kernel_rfl
  have hu : Try.prog.underlying 31 = some (.slice (Try.prog.elem 31)) := by rw [e]; exact Try.underlying31
  rw [run_slice_h w 31 A n c hu .i64 k (by omega) (by omega), e, hz]
  cases A <;> simp [Result.andThen, sliced, Addr.add]
theorem RdT.take {w : World} {A : Option Addr} {n : Nat} {ts : List Tok} (h : RdT w A n ts) (k : Nat) (hk : k ≤ n) : RdT w A (ts.take k).length (ts.take k) := by
  refine ⟨rfl, by have := h.max; simp; omega, fun j hj => ?_⟩
  have hl := h.len
  simp at hj
  have := h.at_ j (by omega)
  simpa using this
theorem Rd.take {w : World} {k : IntKind} {A : Option Addr} {n : Nat} {xs : List Int} (h : Rd w k A n xs) (m : Nat) (hm : m ≤ n) : Rd w k A m (xs.take m) := by
  have hl := h.len
  refine ⟨by simp; omega, by have := h.max; omega, fun j hj => ?_⟩
  obtain ⟨ad, e, hc⟩ := h.at_ j (by omega)
  exact ⟨ad, e, by rw [hc]; simp [List.getD_eq_getElem?_getD, hj]⟩

set_option maxRecDepth 100000 in
set_option maxHeartbeats 2000000 in
theorem PP_err (A : Option Addr) (c : Nat) (xs : List Int) (p : Int) (w : World) (hR : Rd w .u8 A xs.length xs) (hBy : Bytes xs) (hbc : xs.length ≤ c) (h2 : ¬ 3000 < xs.length) (k : Int) (hT : tokensM (xs.length + 1) xs 0 [] = .error k) :
    Calls Try.prog 7 #[.slice A xs.length c, .int .i64 p] w fun e W' => e = .returned (.bool true) ∧ Below w.heap.size w W' := by
  have HR := Lib.hid hR
  have HBy := Lib.hid hBy
  have HBC := Lib.hid hbc
  have hk := tokens_err_of _ _ _ _ _ (Nat.lt_succ_self _) hT
  have hk0 : (k == 0) = false := by simp; omega
  have hk1 : ¬ k = 0 := by omega
  have HTo := Lib.hid hT
  clear hT hk hR hBy hbc
  obtain ⟨n, hn⟩ : ∃ n, w.heap.size = n := ⟨_, rfl⟩
  rw [hn]
  have HN := Lib.hid (Nat.le_of_eq hn.symm)
  have HN2 := Lib.hid hn
  clear hn
  go_enter Try.func7, Try.ntmps7
  go_wp2_with (first
    | (go_at_call 19; refine (Tokens_err A c xs k _ HBC.out HR.out HBy.out (by omega) HTo.out).mono ?_; rintro e w1 ⟨rfl, hB⟩; rw [HN2.out] at hB; (have HB1 := Lib.hid hB); clear hB)
    | (go_at_call 13; refine (sane_any _).mono ?_; rintro e w5 ⟨rfl, hB⟩; (have HB5 := Lib.hid (below_then HB1.out (Nat.le_trans HN.out HB1.out.size) hB)); clear hB))
  go_ret
  exact ⟨rfl, HB5.out⟩

set_option maxRecDepth 100000 in
set_option maxHeartbeats 2000000 in
theorem PP_out (A : Option Addr) (c : Nat) (xs : List Int) (p : Int) (w : World) (hR : Rd w .u8 A xs.length xs) (hBy : Bytes xs) (hbc : xs.length ≤ c) (h2 : ¬ 3000 < xs.length) (ts : List Tok) (q : Int) (hT : tokensM (xs.length + 1) xs 0 [] = .ok (ts, q))
    (hp : p < 0 ∨ (ts.length : Int) < p) :
    Calls Try.prog 7 #[.slice A xs.length c, .int .i64 p] w fun e W' => e = .returned (.bool true) ∧ Below w.heap.size w W' := by
  have HR := Lib.hid hR
  have HBC := Lib.hid hbc
  obtain ⟨hb1, hb2, hb3⟩ := build_tokens hT hBy 1
  have HTL : Hid (ts.length ≤ 3744) := Lib.hid (by
    have h1 := pos_len 1 _ _ _ hb1 (by omega)
    by_cases hn : ts = []
    · subst hn; simp
    · have := h1.2 hn; omega)
  have HBy := Lib.hid hBy
  have HTo := Lib.hid hT
  clear hT hR hBy hbc hb1 hb2 hb3
  obtain ⟨n, hn⟩ : ∃ n, w.heap.size = n := ⟨_, rfl⟩
  rw [hn]
  have HN := Lib.hid (Nat.le_of_eq hn.symm)
  have HN2 := Lib.hid hn
  clear hn
  rcases hp with hp | hp
  · go_enter Try.func7, Try.ntmps7
    go_wp2_with (first
      | (go_at_call 19; refine (Tokens_ok A c xs ts q _ HBC.out HR.out HBy.out (by omega) HTo.out).mono ?_; rintro e w1 ⟨v, rfl, hO, hB⟩; rw [HN2.out] at hO hB; obtain ⟨A3, c3, rfl, hc3, hT3⟩ := own_toks hO rfl (by have := HTL.out; omega); (have HB1 := Lib.hid hB); clear hB hO hT3 hc3)
      | (go_at_call 13; refine (sane_any _).mono ?_; rintro e w5 ⟨rfl, hB⟩; (have HB5 := Lib.hid (below_then HB1.out (Nat.le_trans HN.out HB1.out.size) hB)); clear hB))
    go_ret
    exact ⟨rfl, HB5.out⟩
  · have hp0 : ¬ p < 0 := by omega
    go_enter Try.func7, Try.ntmps7
    go_wp2_with (first
      | (go_at_call 19; refine (Tokens_ok A c xs ts q _ HBC.out HR.out HBy.out (by omega) HTo.out).mono ?_; rintro e w1 ⟨v, rfl, hO, hB⟩; rw [HN2.out] at hO hB; obtain ⟨A3, c3, rfl, hc3, hT3⟩ := own_toks hO rfl (by have := HTL.out; omega); (have HB1 := Lib.hid hB); clear hB hO hT3 hc3)
      | (go_at_call 13; refine (sane_any _).mono ?_; rintro e w5 ⟨rfl, hB⟩; (have HB5 := Lib.hid (below_then HB1.out (Nat.le_trans HN.out HB1.out.size) hB)); clear hB))
    go_ret
    exact ⟨rfl, HB5.out⟩

set_option maxRecDepth 100000 in
set_option maxHeartbeats 4000000 in
theorem PP_in (A : Option Addr) (c : Nat) (xs : List Int) (k : Nat) (w : World) (hR : Rd w .u8 A xs.length xs) (hBy : Bytes xs) (hbc : xs.length ≤ c) (h2 : ¬ 3000 < xs.length) (ts : List Tok) (q : Int) (hT : tokensM (xs.length + 1) xs 0 [] = .ok (ts, q))
    (hk : k ≤ ts.length) :
    Calls Try.prog 7 #[.slice A xs.length c, .int .i64 k] w fun e W' => e = .returned (.bool true) ∧ Below w.heap.size w W' := by
  have HR := Lib.hid hR
  have HBC := Lib.hid hbc
  obtain ⟨hb1, hb2, hb3⟩ := build_tokens hT hBy 1
  have hTL : ts.length ≤ 3744 := by
    have h1 := pos_len 1 _ _ _ hb1 (by omega)
    by_cases hn : ts = []
    · subst hn; simp
    · have := h1.2 hn; omega
  have hq := pos_at 1 ts 0 q hb1 (by omega) (by omega)
  obtain ⟨r, hr1, hr0, hr2, hrq, hkr, hdl, hdt, hdle⟩ := prefix_tokens hb1 k hk
  have HBy := Lib.hid hBy
  have HTo := Lib.hid hT
  have HPQ := Lib.hid (posM_bad 1 4 _ _ _ hb1)
  have HQ := Lib.hid hq
  obtain ⟨us, hus⟩ : ∃ us, ts.take k = us := ⟨_, rfl⟩
  have HUS := Lib.hid hus
  have hul : us.length = k := by rw [← hus]; simp; omega
  have HUL := Lib.hid hul
  rw [hus] at hr1 hdl hdt hdle
  have HPU := Lib.hid hr1
  have HPU4 := Lib.hid (posM_bad 1 4 _ _ _ hr1)
  have HTU := Lib.hid (tokens_build hr1)
  have HBU := Lib.hid (build_bytes hr1 (fun t ht => hb3 t (by rw [← hus] at ht; exact List.mem_of_mem_take ht)))
  have HLU := Lib.hid (build_len3 us)
  obtain ⟨ys, hys⟩ : ∃ ys, buildM us = ys := ⟨_, rfl⟩
  rw [hys] at HTU HBU HLU
  have HYS := Lib.hid hys
  obtain ⟨d1, hd1⟩ : ∃ d1, dataM [] us = d1 := ⟨_, rfl⟩
  obtain ⟨d2, hd2⟩ : ∃ d2, dataM [] ts = d2 := ⟨_, rfl⟩
  rw [hd1] at hdl hdt hdle
  rw [hd2] at hdt hdle
  have hd2l := data_len 1 ts [] q (by simpa using hb1)
  rw [hd2] at hd2l
  have HD1 := Lib.hid hd1
  have HD2 := Lib.hid hd2
  have HDT := Lib.hid hdt
  have HDL : Hid (d1.length ≤ 3744 ∧ d2.length ≤ 3744) := Lib.hid (by omega)
  have HR02 := Lib.hid (And.intro hr0 hr2)
  have hgk : (k : Int) ≤ d1.length := by omega
  have hki : (k : Int) ≤ ts.length := by omega
  clear hT hR hBy hbc hb1 hb2 hb3 hq hr1 hus hul hys hd1 hd2 hdt hdl hkr hrq hr0 hr2 hd2l
  obtain ⟨n, hn⟩ : ∃ n, w.heap.size = n := ⟨_, rfl⟩
  rw [hn]
  have HN := Lib.hid (Nat.le_of_eq hn.symm)
  have HN2 := Lib.hid hn
  clear hn
  go_enter Try.func7, Try.ntmps7
  go_wp2_with (first
    | ((have hgd := HR4); clear hgd; go_at_call 24; refine (Expand_ok A c xs ts q _ HBC.out (HR.out.below (by rw [HN2.out]; exact HB4.out)) HBy.out (by omega) HTo.out (by omega) HQ.out.1 HQ.out.2 HPQ.out).mono ?_; rintro e w5 ⟨v, rfl, hO, hB⟩; rw [HD2.out] at hO; obtain ⟨A5, c5, rfl, hc5, hR5, -⟩ := own_bytes hO (by have := HDL.out; omega); (have HR4b := Lib.hid (HR4.out.below hB)); (have HR5 := Lib.hid hR5); (have HC5 := Lib.hid hc5); (have HB5 := Lib.hid (below_then HB4.out (Nat.le_trans HN.out HB4.out.size) hB)); clear hB hO hR5 hc5)
    | ((have hgd := HR2); clear hgd; go_at_call 24; refine (Expand_ok A2 c2 ys us r _ HC2.out HR2.out HBU.out (by have := HLU.out; have := HUL.out; omega) HTU.out (by have := HUL.out; omega) HR02.out.1 HR02.out.2 HPU4.out).mono ?_; rintro e w4 ⟨v, rfl, hO, hB⟩; rw [HD1.out] at hO; obtain ⟨A4, c4, rfl, hc4, hR4, -⟩ := own_bytes hO (by have := HDL.out; omega); (have HR4 := Lib.hid hR4); (have HB4 := Lib.hid (below_then HB2.out (Nat.le_trans HN.out HB2.out.size) hB)); clear hB hO hR4 hc4)
    | (go_at_call 21; refine (Build_ok A3 c3 us r _ HT3.out HPU.out).mono ?_; rintro e w2 ⟨v, rfl, hO, hB⟩; rw [HYS.out] at hO; obtain ⟨A2, c2, rfl, hc2, hR2, -⟩ := own_bytes hO (by have := HLU.out; have := HUL.out; omega); (have HR2 := Lib.hid hR2); (have HC2 := Lib.hid hc2); (have HB2 := Lib.hid (below_then HB1.out (Nat.le_trans HN.out HB1.out.size) hB)); clear hB hO hR2 hc2)
    | (go_at_call 19; refine (Tokens_ok A c xs ts q _ HBC.out HR.out HBy.out (by omega) HTo.out).mono ?_; rintro e w1 ⟨v, rfl, hO, hB⟩; rw [HN2.out] at hO hB; obtain ⟨A3, c3, rfl, hc3, hT3⟩ := own_toks hO rfl (by omega); (have HT3 : Hid (RdT w1 A3 us.length us) := Lib.hid (by rw [← HUS.out]; exact hT3.take k hk)); (have HB1 := Lib.hid hB); (have ks : ∀ w, (Instr.slice 31 (.slice A3 ts.length c3) none (some (.int .i64 k)) none).run Try.prog w = .ok (.slice A3 us.length c3) w := fun w => by rw [HUL.out]; exact run_to31 A3 _ c3 k (Nat.le_trans hk hc3) w); clear hB hO hT3 hc3))
  have hka : ∀ m : Ext w5, (convert 22 9 (.slice A4 d1.length c4)).run Try.prog m.w = .ok (.string (strOfNums d1)) m.w := fun m => (HR4b.out.below m.ok).str2
  have hd1c : d1.length ≤ c5 := Nat.le_trans hdle HC5.out
  have hkb : ∀ m : Ext w5, (convert 22 9 (.slice A5 d1.length c5)).run Try.prog m.w = .ok (.string (strOfNums d1)) m.w := fun m => by
    have h := ((HR5.out.below m.ok).take d1.length hdle).str2 (c := c5)
    rw [HDT.out] at h
    exact h
  generalize strOfNums d1 = sx at hka hkb
  have hdl1 : (d1.length : Int) ≤ d2.length := by omega
  refine wp_region_ext (by kernel_rfl) (by kernel_rfl) ?_
  repeat (go_big_quiet_step (exact sane_ext _ _))
  refine wpQuiet_nil ?_
  rintro _ ⟨m, rfl⟩
  have HM := Lib.hid (below_then HB5.out (Nat.le_trans HN.out HB5.out.size) m.ok)
  clear hka hkb
  go_wp2
  go_ret
  exact ⟨rfl, HM.out⟩

theorem law_PressPrefixes (A : Option Addr) (c : Nat) (xs : List Int) (p : Int) (w : World) (hR : Rd w .u8 A xs.length xs) (hA : ∀ ad, A = some ad → ad.block < w.heap.size) (hBy : Bytes xs) (hbc : xs.length ≤ c) (wp : (Lit.int .i64 p).wf = true) :
    Calls Try.prog 7 #[.slice A xs.length c, .int .i64 p] w fun e W' => e = .returned (.bool true) ∧ Below w.heap.size w W' := by
  by_cases h1 : 3000 < xs.length
  · go_enter Try.func7, Try.ntmps7
    go_wp2_with (go_at_call 13; refine (sane_any _).mono ?_; rintro e w1 ⟨rfl, hB⟩)
    go_ret
    exact ⟨rfl, hB⟩
  · cases hT : tokensM (xs.length + 1) xs 0 [] with
    | error k => exact PP_err A c xs p w hR hBy hbc h1 k hT
    | ok tp =>
      obtain ⟨ts, q⟩ := tp
      by_cases hp : p < 0 ∨ (ts.length : Int) < p
      · exact PP_out A c xs p w hR hBy hbc h1 ts q hT hp
      · obtain ⟨k, rfl⟩ := Int.eq_ofNat_of_zero_le (show 0 ≤ p by omega)
        exact PP_in A c xs k w hR hBy hbc h1 ts q hT (by omega)
end Go.Proofs.Ytmlgjilflpdffaa
