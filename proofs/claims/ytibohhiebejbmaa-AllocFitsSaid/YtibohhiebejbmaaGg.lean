/- Plain: a bitmap's body and its bits; open at a right bitmap. -/
import Derived.Test.YtibohhiebejbmaaGd
import Derived.Test.YtibohhiebejbmaaGe
import Derived.Deep.RegionHeld3
import Derived.StillTail
import Derived.StillTactics
namespace Go.Proofs.Ytibohhiebejbmaa
open Go.RowKit Go.Deep Go.Shelf
set_option linter.unusedVariables false
set_option linter.unusedSimpArgs false

theorem byteM_bit (f : Nat → Bool) (t : Nat) (ht : t < 8) : decide (byteM f / 2 ^ t % 2 = 1) = f t := by
  have key : ∀ b : Bool, ∃ e : Int, 0 ≤ e ∧ e ≤ 1 ∧ (∀ c : Int, (if b then c else 0) = c * e) ∧ decide (e = 1) = b := by
    intro b
    cases b
    · exact ⟨0, by omega, by omega, fun c => by simp, by simp⟩
    · exact ⟨1, by omega, by omega, fun c => by simp, by simp⟩
  unfold byteM
  obtain ⟨e0, a0, b0, c0, d0⟩ := key (f 0)
  obtain ⟨e1, a1, b1, c1, d1⟩ := key (f 1)
  obtain ⟨e2, a2, b2, c2, d2⟩ := key (f 2)
  obtain ⟨e3, a3, b3, c3, d3⟩ := key (f 3)
  obtain ⟨e4, a4, b4, c4, d4⟩ := key (f 4)
  obtain ⟨e5, a5, b5, c5, d5⟩ := key (f 5)
  obtain ⟨e6, a6, b6, c6, d6⟩ := key (f 6)
  obtain ⟨e7, a7, b7, c7, d7⟩ := key (f 7)
  rw [c0, c1, c2, c3, c4, c5, c6, c7]
  have h8 : t = 0 ∨ t = 1 ∨ t = 2 ∨ t = 3 ∨ t = 4 ∨ t = 5 ∨ t = 6 ∨ t = 7 := by omega
  have fin : ∀ (X e : Int) (b : Bool), X = e → decide (e = 1) = b → decide (X = 1) = b := by
    rintro X e b rfl h
    exact h
  rcases h8 with rfl | rfl | rfl | rfl | rfl | rfl | rfl | rfl
  · exact fin _ _ _ (by omega) d0
  · exact fin _ _ _ (by omega) d1
  · exact fin _ _ _ (by omega) d2
  · exact fin _ _ _ (by omega) d3
  · exact fin _ _ _ (by omega) d4
  · exact fin _ _ _ (by omega) d5
  · exact fin _ _ _ (by omega) d6
  · exact fin _ _ _ (by omega) d7
theorem bitB_body (us : List Bool) {i : Nat} (hi : i < 3744) : bitB (bodyM us) i = us.getD i false := by
  unfold bitB
  rw [bodyM_get us (by omega), byteM_bit _ _ (Nat.mod_lt _ (by omega)), show 8 * (i / 8) + i % 8 = i by omega]
theorem byteM_of : ∀ x : Fin 256, byteM (fun t => decide ((x.val : Int) / 2 ^ t % 2 = 1)) = x.val := by decide +kernel
theorem usM_body {us : List Bool} {n : Nat} (hl : us.length = n) (hn : n ≤ 3744) : usM (bodyM us) n = us := bool_ext (by rw [usM_len, hl]) fun i hi => by
  rw [usM_len] at hi
  rw [usM_get _ hi, bitB_body us (by omega)]
theorem okB_body {us : List Bool} {n : Nat} (h : Lead us n) (hn : n ≤ 1536) : OkB (bodyM us) n := by
  have hl := h.len
  refine ⟨h.lo, hn, by rw [bitB_body us (by omega)]; exact h.low 0 (by omega), by rw [bitB_body us (by omega)]; exact h.low 1 (by omega), by rw [bitB_body us (by omega)]; exact h.low 2 (by omega), fun i h1 h2 => ?_⟩
  rw [bitB_body us h2, List.getD_eq_getElem?_getD, List.getElem?_eq_none (by omega)]; rfl
theorem okB_lead {b : List Int} {n : Nat} (h : OkB b n) : Lead (usM b n) n := by
  have := h.lo
  refine ⟨usM_len b n, h.lo, fun i hi => ?_⟩
  rw [usM_get b (by omega)]
  have h3 : i = 0 ∨ i = 1 ∨ i = 2 := by omega
  rcases h3 with rfl | rfl | rfl
  · exact h.b0
  · exact h.b1
  · exact h.b2
theorem okB_is {b : List Int} {n : Nat} (h : OkB b n) (hl : b.length = 468) (hb : ∀ x ∈ b, 0 ≤ x ∧ x ≤ 255) : bodyM (usM b n) = b := by
  have hn := h.hi
  refine List.ext_getElem (by rw [bodyM_len, hl]) fun j h1 h2 => ?_
  have e1 : ∀ (l : List Int) (h : j < l.length), l[j] = l.getD j 0 := fun l h => by rw [List.getD_eq_getElem?_getD, List.getElem?_eq_getElem h]; rfl
  have hj : j < 468 := by omega
  have hx := hb _ (List.getElem_mem h2)
  rw [e1 _ h1, e1 _ h2, bodyM_get _ hj]
  rw [e1 _ h2] at hx
  obtain ⟨x, hxe⟩ : ∃ x, b.getD j 0 = x := ⟨_, rfl⟩
  rw [hxe] at hx ⊢
  obtain ⟨y, rfl⟩ : ∃ y : Nat, x = y := ⟨x.toNat, by omega⟩
  have := byteM_of ⟨y, by omega⟩
  simp only at this
  rw [← this]
  refine byteM_congr fun t ht => ?_
  have hg : (usM b n).getD (8 * j + t) false = bitB b (8 * j + t) := by
    rcases Nat.lt_or_ge (8 * j + t) n with h3 | h3
    · exact usM_get b h3
    · rw [h.out _ h3 (by omega), List.getD_eq_getElem?_getD, List.getElem?_eq_none (by rw [usM_len]; exact h3)]; rfl
  rw [hg]
  unfold bitB
  rw [show (8 * j + t) / 8 = j by omega, show (8 * j + t) % 8 = t by omega, hxe]
/-- A plain Space of n pages with a right bitmap. -/
structure SU (W : World) (G A n : Nat) (us : List Bool) : Prop where
  sp : Sp W G A n (bodyM us)
  lead : Lead us n
  hi : n ≤ 1536
theorem SU.on {W W' : World} {G A n : Nat} {us : List Bool} (h : SU W G A n us) (hb : Below W.heap.size W W') : SU W' G A n us := ⟨h.sp.on hb, h.lead, h.hi⟩
theorem open_us (G A n : Nat) (us : List Bool) (tx : Nat) (w : World) (h : SU w G A n us) :
    Calls Try.prog 43 #[.iface 26 (.pointer (some ⟨G, 0, none⟩)), .int .i64 tx] w fun e w' => ∃ R U, e = .returned (.pointer (some ⟨R, 0, none⟩)) ∧ Rm w' R U n G (.int .i64 tx) us ∧ Below w.heap.size w w' ∧ w.heap.size ≤ R ∧ w.heap.size ≤ U := by
  have := open_good G A n (bodyM us) tx w h.sp (okB_body h.lead h.hi)
  rw [usM_body h.lead.len (by have := h.hi; omega)] at this
  exact this
end Go.Proofs.Ytibohhiebejbmaa
/- Walks: the functions that alloc's exported ones guard. -/
namespace Go.Proofs.Ytibohhiebejbmaa
open Go.RowKit Go.Deep Go.Shelf
set_option linter.unusedVariables false
set_option linter.unusedSimpArgs false
set_option maxRecDepth 100000

section
variable {G A n B1 B2 : Nat} {us : List Bool} {b : List Int} {tx : Nat} {W : World}
/-- The boxes of a Space and of a transaction. -/
structure Bx (W : World) (G tx B1 B2 : Nat) : Prop where
  s : Blk W B1 [.iface 26 (.pointer (some ⟨G, 0, none⟩))] 74
  t : Blk W B2 [.int .i64 tx] 3

theorem free1_us (h : SU W G A n us) (hb : Bx W G tx B1 B2) : Calls Try.prog 53 #[.pointer (some ⟨B1, 0, none⟩), .pointer (some ⟨B2, 0, none⟩)] W fun e W' => e = .returned (.int .i64 (freeM us)) ∧ Below W.heap.size W W' := by
  have c0 := hb.s.cell (j := 0) rfl
  have c1 := hb.t.cell (j := 0) rfl
  have H := Lib.hid h
  have hn := h.hi
  clear h hb
  go_enter Try.func53, Try.ntmps53
  go_wp2_with (first
    | (go_at_call 43; refine (open_us G A n us tx _ H.out).mono ?_; rintro e w1 ⟨R, U, rfl, hRm, hB, hR, hU⟩; (have HRm := Lib.hid hRm); (have HB := Lib.hid hB); clear hRm hB hR hU)
    | (go_at_call 54; refine (free_any R U n G _ us _ HRm.out (by omega)).mono ?_; rintro e w2 ⟨rfl, hw9⟩; (have hw8 := hw9.symm); subst hw8; clear hw9))
  go_ret
  exact ⟨rfl, HB.out⟩
theorem free1_bad (h : Sp W G A n b) (hn : n ≤ 1000000) (hk : ¬ OkB b n) (hb : Bx W G tx B1 B2) : Calls Try.prog 53 #[.pointer (some ⟨B1, 0, none⟩), .pointer (some ⟨B2, 0, none⟩)] W fun e W' => e = gaveUp (openE n) ∧ Below W.heap.size W W' := by
  have c0 := hb.s.cell (j := 0) rfl
  have c1 := hb.t.cell (j := 0) rfl
  have H := Lib.hid h
  have HK := Lib.hid hk
  clear h hb hk
  go_enter Try.func53, Try.ntmps53
  go_wp2_with (go_at_call 43; refine (open_bad G A n b tx _ H.out hn HK.out).mono ?_; rintro e w1 ⟨rfl, hB⟩; (have HB := Lib.hid hB); clear hB; simp only [gaveUp])
  exact ⟨rfl, rfl, HB.out⟩
/-- All blocks but those of lists of pages stand. -/
def Keep22 (W W' : World) : Prop := ∀ g cs t, t ≠ 22 → Blk W g cs t → Blk W' g cs t
theorem Keep22.of {W W' : World} (h : Below W.heap.size W W') : Keep22 W W' := fun g cs t _ hb => hb.on h
theorem choose1_gen {B3 B4 B5 : Nat} {v3 v4 v5 : Value} {T : Ending → World → Prop} (hb : Bx W G tx B1 B2) (h3 : Blk W B3 [v3] 3) (h4 : Blk W B4 [v4] 3) (h5 : Blk W B5 [v5] 4)
    (hO : Calls Try.prog 43 #[.iface 26 (.pointer (some ⟨G, 0, none⟩)), .int .i64 tx] W.drew fun e w1 => (∃ k, e = gaveUp k ∧ T (gaveUp k) w1) ∨ ∃ R, e = .returned (.pointer (some ⟨R, 0, none⟩)) ∧ Below W.heap.size W w1 ∧
      Calls Try.prog 44 #[.pointer (some ⟨R, 0, none⟩), v3, v4, v5] w1 fun e2 w2 => ((∃ A n c, e2 = .returned (.slice A n c) ∧ Keep22 W w2) ∨ ∃ k, e2 = gaveUp k) ∧ T e2 w2) :
    Calls Try.prog 62 #[.pointer (some ⟨B1, 0, none⟩), .pointer (some ⟨B2, 0, none⟩), .pointer (some ⟨B3, 0, none⟩), .pointer (some ⟨B4, 0, none⟩), .pointer (some ⟨B5, 0, none⟩)] W T := by
  have HO := Lib.hid hO
  have HS : Hid (∀ w', Keep22 W w' → w'.cell? ⟨B1, 0, none⟩ = some (.iface 26 (.pointer (some ⟨G, 0, none⟩))) ∧ w'.cell? ⟨B2, 0, none⟩ = some (.int .i64 tx) ∧ w'.cell? ⟨B3, 0, none⟩ = some v3 ∧ w'.cell? ⟨B4, 0, none⟩ = some v4 ∧ w'.cell? ⟨B5, 0, none⟩ = some v5) :=
    Lib.hid fun w' hw => ⟨(hw _ _ _ (by decide) hb.s).cell rfl, (hw _ _ _ (by decide) hb.t).cell rfl, (hw _ _ _ (by decide) h3).cell rfl, (hw _ _ _ (by decide) h4).cell rfl, (hw _ _ _ (by decide) h5).cell rfl⟩
  clear hO hb h3 h4 h5
  go_enter Try.func62, Try.ntmps62
  go_upto_region 1 with (fail)
  refine wp_region_held_drew (S := fun w' => w'.cell? ⟨B1, 0, none⟩ = some (.iface 26 (.pointer (some ⟨G, 0, none⟩))) ∧ w'.cell? ⟨B2, 0, none⟩ = some (.int .i64 tx) ∧ w'.cell? ⟨B3, 0, none⟩ = some v3 ∧ w'.cell? ⟨B4, 0, none⟩ = some v4 ∧ w'.cell? ⟨B5, 0, none⟩ = some v5) (by kernel_rfl) (HS.out _ (Keep22.of (below_drew1 (Below.refl _ _)))) (fun hHeld => ?_)
  refine wpAnyH_take (i := 0) (v := .iface 26 (.pointer (some ⟨G, 0, none⟩))) rfl (by kernel_rfl) (by kernel_rfl) (by kernel_rfl) (fun _ _ _ h => h) (Or.inl ⟨by rfl, ?_⟩) hHeld ?_
  · intro w' hw'
    obtain ⟨k0, k1, k2, k3, k4⟩ := hw'
    go_simp
  simp only [Act.put, List.getElem_toArray, List.getElem_cons_zero, List.getElem_cons_succ, List.setIfInBounds_toArray, List.set_cons_zero, List.set_cons_succ]
  refine wpAnyH_take (i := 1) (v := .int .i64 tx) rfl (by kernel_rfl) (by kernel_rfl) (by kernel_rfl) (fun _ _ _ h => h) (Or.inl ⟨by rfl, ?_⟩) hHeld ?_
  · intro w' hw'
    obtain ⟨k0, k1, k2, k3, k4⟩ := hw'
    go_simp
  simp only [Act.put, List.getElem_toArray, List.getElem_cons_zero, List.getElem_cons_succ, List.setIfInBounds_toArray, List.set_cons_zero, List.set_cons_succ]
  refine wpAnyH_take (i := 3) (v := v3) rfl (by kernel_rfl) (by kernel_rfl) (by kernel_rfl) (fun _ _ _ h => h) (Or.inl ⟨by rfl, ?_⟩) hHeld ?_
  · intro w' hw'
    obtain ⟨k0, k1, k2, k3, k4⟩ := hw'
    go_simp
  simp only [Act.put, List.getElem_toArray, List.getElem_cons_zero, List.getElem_cons_succ, List.setIfInBounds_toArray, List.set_cons_zero, List.set_cons_succ]
  refine wpAnyH_take (i := 4) (v := v4) rfl (by kernel_rfl) (by kernel_rfl) (by kernel_rfl) (fun _ _ _ h => h) (Or.inl ⟨by rfl, ?_⟩) hHeld ?_
  · intro w' hw'
    obtain ⟨k0, k1, k2, k3, k4⟩ := hw'
    go_simp
  simp only [Act.put, List.getElem_toArray, List.getElem_cons_zero, List.getElem_cons_succ, List.setIfInBounds_toArray, List.set_cons_zero, List.set_cons_succ]
  refine wpAnyH_take (i := 5) (v := v5) rfl (by kernel_rfl) (by kernel_rfl) (by kernel_rfl) (fun _ _ _ h => h) (Or.inl ⟨by rfl, ?_⟩) hHeld ?_
  · intro w' hw'
    obtain ⟨k0, k1, k2, k3, k4⟩ := hw'
    go_simp
  simp only [Act.put, List.getElem_toArray, List.getElem_cons_zero, List.getElem_cons_succ, List.setIfInBounds_toArray, List.set_cons_zero, List.set_cons_succ]
  refine wpAnyH_ready (rs := [2]) (by kernel_rfl) (by simp) ?_
  refine AllReadyH.cons rfl (fun K hK => ?_) AllReadyH.nil
  rw [if_pos (by rfl)]
  go_simp
  refine HO.out.mono ?_
  rintro e w1 (⟨k, rfl, hT⟩ | ⟨R, rfl, hB, hC⟩)
  · exact ⟨rfl, hT⟩
  · simp only
    refine hK.out _ _ (HS.out w1 (Keep22.of hB)) (fun hHeld1 => ?_)
    refine wpAnyH_ready (rs := [6]) (by kernel_rfl) (by simp) ?_
    refine AllReadyH.cons rfl (fun K2 hK2 => ?_) AllReadyH.nil
    rw [if_pos (by rfl)]
    go_simp
    refine hC.mono ?_
    rintro e2 w2 ⟨⟨A2, n2, c2, rfl, hkp⟩ | ⟨k, rfl⟩, hT⟩
    · simp only
      refine hK2.out _ _ (HS.out w2 hkp) (fun hHeld2 => ?_)
      refine wpAnyH_take (i := 7) (v := .slice A2 n2 c2) rfl (by kernel_rfl) (by kernel_rfl) (by kernel_rfl) (fun _ _ _ h => h) (Or.inl ⟨by rfl, ?_⟩) hHeld2 ?_
      · intro w' hw'
        go_simp
      simp only [Act.put, List.getElem_toArray, List.getElem_cons_zero, List.getElem_cons_succ, List.setIfInBounds_toArray, List.set_cons_zero, List.set_cons_succ]
      refine wpAnyH_done (by kernel_rfl) ?_ _
      clear hK hK2 hHeld2
      go_wp2
      exact hT
    · exact ⟨rfl, hT⟩
theorem give1_gen {B3 : Nat} {v3 : Value} {T : Ending → World → Prop} (hb : Bx W G tx B1 B2) (h3 : Blk W B3 [v3] 32)
    (hO : Calls Try.prog 43 #[.iface 26 (.pointer (some ⟨G, 0, none⟩)), .int .i64 tx] W.drew fun e w1 => (∃ k, e = gaveUp k ∧ T (gaveUp k) w1) ∨ ∃ R, e = .returned (.pointer (some ⟨R, 0, none⟩)) ∧ Below W.heap.size W w1 ∧
      Calls Try.prog 50 #[.pointer (some ⟨R, 0, none⟩), v3, .bool false, .int .i64 9] w1 fun e2 w2 => ((e2 = .returned (.tuple #[]) ∧ Keep22 W w2) ∨ ∃ k, e2 = gaveUp k) ∧ T e2 w2) :
    Calls Try.prog 49 #[.pointer (some ⟨B1, 0, none⟩), .pointer (some ⟨B2, 0, none⟩), .pointer (some ⟨B3, 0, none⟩)] W T := by
  have HO := Lib.hid hO
  have HS : Hid (∀ w', Keep22 W w' → w'.cell? ⟨B1, 0, none⟩ = some (.iface 26 (.pointer (some ⟨G, 0, none⟩))) ∧ w'.cell? ⟨B2, 0, none⟩ = some (.int .i64 tx) ∧ w'.cell? ⟨B3, 0, none⟩ = some v3) :=
    Lib.hid fun w' hw => ⟨(hw _ _ _ (by decide) hb.s).cell rfl, (hw _ _ _ (by decide) hb.t).cell rfl, (hw _ _ _ (by decide) h3).cell rfl⟩
  clear hO hb h3
  go_enter Try.func49, Try.ntmps49
  refine wp_region_held_drew (S := fun w' => w'.cell? ⟨B1, 0, none⟩ = some (.iface 26 (.pointer (some ⟨G, 0, none⟩))) ∧ w'.cell? ⟨B2, 0, none⟩ = some (.int .i64 tx) ∧ w'.cell? ⟨B3, 0, none⟩ = some v3) (by kernel_rfl) (HS.out _ (Keep22.of (below_drew1 (Below.refl _ _)))) (fun hHeld => ?_)
  refine wpAnyH_take (i := 0) (v := .iface 26 (.pointer (some ⟨G, 0, none⟩))) rfl (by kernel_rfl) (by kernel_rfl) (by kernel_rfl) (fun _ _ _ h => h) (Or.inl ⟨by rfl, ?_⟩) hHeld ?_
  · intro w' hw'
    obtain ⟨k0, k1, k2⟩ := hw'
    go_simp
  simp only [Act.put, List.getElem_toArray, List.getElem_cons_zero, List.getElem_cons_succ, List.setIfInBounds_toArray, List.set_cons_zero, List.set_cons_succ]
  refine wpAnyH_take (i := 1) (v := .int .i64 tx) rfl (by kernel_rfl) (by kernel_rfl) (by kernel_rfl) (fun _ _ _ h => h) (Or.inl ⟨by rfl, ?_⟩) hHeld ?_
  · intro w' hw'
    obtain ⟨k0, k1, k2⟩ := hw'
    go_simp
  simp only [Act.put, List.getElem_toArray, List.getElem_cons_zero, List.getElem_cons_succ, List.setIfInBounds_toArray, List.set_cons_zero, List.set_cons_succ]
  refine wpAnyH_take (i := 3) (v := v3) rfl (by kernel_rfl) (by kernel_rfl) (by kernel_rfl) (fun _ _ _ h => h) (Or.inl ⟨by rfl, ?_⟩) hHeld ?_
  · intro w' hw'
    obtain ⟨k0, k1, k2⟩ := hw'
    go_simp
  simp only [Act.put, List.getElem_toArray, List.getElem_cons_zero, List.getElem_cons_succ, List.setIfInBounds_toArray, List.set_cons_zero, List.set_cons_succ]
  refine wpAnyH_ready (rs := [2]) (by kernel_rfl) (by simp) ?_
  refine AllReadyH.cons rfl (fun K hK => ?_) AllReadyH.nil
  rw [if_pos (by rfl)]
  go_simp
  refine HO.out.mono ?_
  rintro e w1 (⟨k, rfl, hT⟩ | ⟨R, rfl, hB, hC⟩)
  · exact ⟨rfl, hT⟩
  · simp only
    refine hK.out _ _ (HS.out w1 (Keep22.of hB)) (fun hHeld1 => ?_)
    refine wpAnyH_ready (rs := [4]) (by kernel_rfl) (by simp) ?_
    refine AllReadyH.cons rfl (fun K2 hK2 => ?_) AllReadyH.nil
    rw [if_pos (by rfl)]
    go_simp
    refine hC.mono ?_
    rintro e2 w2 ⟨⟨rfl, hkp⟩ | ⟨k, rfl⟩, hT⟩
    · simp only
      refine hK2.out _ _ (HS.out w2 hkp) (fun hHeld2 => ?_)
      refine wpAnyH_done (by kernel_rfl) ?_ _
      clear hK hK2 hHeld2
      go_wp2
      go_end0
      exact hT
    · exact ⟨rfl, hT⟩
theorem mark1_gen {B3 : Nat} {v3 : Value} {T : Ending → World → Prop} (hb : Bx W G tx B1 B2) (h3 : Blk W B3 [v3] 32)
    (hO : Calls Try.prog 43 #[.iface 26 (.pointer (some ⟨G, 0, none⟩)), .int .i64 tx] W.drew fun e w1 => (∃ k, e = gaveUp k ∧ T (gaveUp k) w1) ∨ ∃ R, e = .returned (.pointer (some ⟨R, 0, none⟩)) ∧ Below W.heap.size W w1 ∧
      Calls Try.prog 50 #[.pointer (some ⟨R, 0, none⟩), v3, .bool true, .int .i64 13] w1 fun e2 w2 => ((e2 = .returned (.tuple #[]) ∧ Keep22 W w2) ∨ ∃ k, e2 = gaveUp k) ∧ T e2 w2) :
    Calls Try.prog 51 #[.pointer (some ⟨B1, 0, none⟩), .pointer (some ⟨B2, 0, none⟩), .pointer (some ⟨B3, 0, none⟩)] W T := by
  have HO := Lib.hid hO
  have HS : Hid (∀ w', Keep22 W w' → w'.cell? ⟨B1, 0, none⟩ = some (.iface 26 (.pointer (some ⟨G, 0, none⟩))) ∧ w'.cell? ⟨B2, 0, none⟩ = some (.int .i64 tx) ∧ w'.cell? ⟨B3, 0, none⟩ = some v3) :=
    Lib.hid fun w' hw => ⟨(hw _ _ _ (by decide) hb.s).cell rfl, (hw _ _ _ (by decide) hb.t).cell rfl, (hw _ _ _ (by decide) h3).cell rfl⟩
  clear hO hb h3
  go_enter Try.func51, Try.ntmps51
  refine wp_region_held_drew (S := fun w' => w'.cell? ⟨B1, 0, none⟩ = some (.iface 26 (.pointer (some ⟨G, 0, none⟩))) ∧ w'.cell? ⟨B2, 0, none⟩ = some (.int .i64 tx) ∧ w'.cell? ⟨B3, 0, none⟩ = some v3) (by kernel_rfl) (HS.out _ (Keep22.of (below_drew1 (Below.refl _ _)))) (fun hHeld => ?_)
  refine wpAnyH_take (i := 0) (v := .iface 26 (.pointer (some ⟨G, 0, none⟩))) rfl (by kernel_rfl) (by kernel_rfl) (by kernel_rfl) (fun _ _ _ h => h) (Or.inl ⟨by rfl, ?_⟩) hHeld ?_
  · intro w' hw'
    obtain ⟨k0, k1, k2⟩ := hw'
    go_simp
  simp only [Act.put, List.getElem_toArray, List.getElem_cons_zero, List.getElem_cons_succ, List.setIfInBounds_toArray, List.set_cons_zero, List.set_cons_succ]
  refine wpAnyH_take (i := 1) (v := .int .i64 tx) rfl (by kernel_rfl) (by kernel_rfl) (by kernel_rfl) (fun _ _ _ h => h) (Or.inl ⟨by rfl, ?_⟩) hHeld ?_
  · intro w' hw'
    obtain ⟨k0, k1, k2⟩ := hw'
    go_simp
  simp only [Act.put, List.getElem_toArray, List.getElem_cons_zero, List.getElem_cons_succ, List.setIfInBounds_toArray, List.set_cons_zero, List.set_cons_succ]
  refine wpAnyH_take (i := 3) (v := v3) rfl (by kernel_rfl) (by kernel_rfl) (by kernel_rfl) (fun _ _ _ h => h) (Or.inl ⟨by rfl, ?_⟩) hHeld ?_
  · intro w' hw'
    obtain ⟨k0, k1, k2⟩ := hw'
    go_simp
  simp only [Act.put, List.getElem_toArray, List.getElem_cons_zero, List.getElem_cons_succ, List.setIfInBounds_toArray, List.set_cons_zero, List.set_cons_succ]
  refine wpAnyH_ready (rs := [2]) (by kernel_rfl) (by simp) ?_
  refine AllReadyH.cons rfl (fun K hK => ?_) AllReadyH.nil
  rw [if_pos (by rfl)]
  go_simp
  refine HO.out.mono ?_
  rintro e w1 (⟨k, rfl, hT⟩ | ⟨R, rfl, hB, hC⟩)
  · exact ⟨rfl, hT⟩
  · simp only
    refine hK.out _ _ (HS.out w1 (Keep22.of hB)) (fun hHeld1 => ?_)
    refine wpAnyH_ready (rs := [4]) (by kernel_rfl) (by simp) ?_
    refine AllReadyH.cons rfl (fun K2 hK2 => ?_) AllReadyH.nil
    rw [if_pos (by rfl)]
    go_simp
    refine hC.mono ?_
    rintro e2 w2 ⟨⟨rfl, hkp⟩ | ⟨k, rfl⟩, hT⟩
    · simp only
      refine hK2.out _ _ (HS.out w2 hkp) (fun hHeld2 => ?_)
      refine wpAnyH_done (by kernel_rfl) ?_ _
      clear hK hK2 hHeld2
      go_wp2
      go_end0
      exact hT
    · exact ⟨rfl, hT⟩
end
end Go.Proofs.Ytibohhiebejbmaa
/- Walks: Check, Used, Take, Format: the functions that they guard. -/
namespace Go.Proofs.Ytibohhiebejbmaa
open Go.RowKit Go.Deep Go.Shelf
set_option linter.unusedVariables false
set_option linter.unusedSimpArgs false
set_option maxRecDepth 100000

section
variable {G A n B1 B2 B3 B4 B5 : Nat} {us : List Bool} {b : List Int} {tx : Nat} {W : World}
theorem check1_us (h : SU W G A n us) (hb : Bx W G tx B1 B2) : Calls Try.prog 63 #[.pointer (some ⟨B1, 0, none⟩), .pointer (some ⟨B2, 0, none⟩)] W fun e W' => e = .returned (.tuple #[]) ∧ Below W.heap.size W W' := by
  have c0 := hb.s.cell (j := 0) rfl
  have c1 := hb.t.cell (j := 0) rfl
  have H := Lib.hid h
  clear h hb
  go_enter Try.func63, Try.ntmps63
  go_wp2_with (go_at_call 43; refine (open_us G A n us tx _ H.out).mono ?_; rintro e w1 ⟨R, U, rfl, hRm, hB, hR, hU⟩; (have HB := Lib.hid hB); clear hRm hB hR hU)
  go_end0
  exact ⟨rfl, HB.out⟩
theorem check1_bad (h : Sp W G A n b) (hn : n ≤ 1000000) (hk : ¬ OkB b n) (hb : Bx W G tx B1 B2) : Calls Try.prog 63 #[.pointer (some ⟨B1, 0, none⟩), .pointer (some ⟨B2, 0, none⟩)] W fun e W' => e = gaveUp (openE n) ∧ Below W.heap.size W W' := by
  have c0 := hb.s.cell (j := 0) rfl
  have c1 := hb.t.cell (j := 0) rfl
  have H := Lib.hid h
  have HK := Lib.hid hk
  clear h hb hk
  go_enter Try.func63, Try.ntmps63
  go_wp2_with (go_at_call 43; refine (open_bad G A n b tx _ H.out hn HK.out).mono ?_; rintro e w1 ⟨rfl, hB⟩; (have HB := Lib.hid hB); clear hB; simp only [gaveUp])
  exact ⟨rfl, rfl, HB.out⟩
theorem used1_bad {v3 : Value} (h : Sp W G A n b) (hn : n ≤ 1000000) (hk : ¬ OkB b n) (hb : Bx W G tx B1 B2) : Calls Try.prog 56 #[.pointer (some ⟨B1, 0, none⟩), .pointer (some ⟨B2, 0, none⟩), v3] W fun e W' => e = gaveUp (openE n) ∧ Below W.heap.size W W' := by
  have c0 := hb.s.cell (j := 0) rfl
  have c1 := hb.t.cell (j := 0) rfl
  have H := Lib.hid h
  have HK := Lib.hid hk
  clear h hb hk
  go_enter Try.func56, Try.ntmps56
  go_wp2_with (go_at_call 43; refine (open_bad G A n b tx _ H.out hn HK.out).mono ?_; rintro e w1 ⟨rfl, hB⟩; (have HB := Lib.hid hB); clear hB; simp only [gaveUp])
  exact ⟨rfl, rfl, HB.out⟩
theorem runs1_bad {v3 : Value} (h : Sp W G A n b) (hn : n ≤ 1000000) (hk : ¬ OkB b n) (hb : Bx W G tx B1 B2) : Calls Try.prog 58 #[.pointer (some ⟨B1, 0, none⟩), .pointer (some ⟨B2, 0, none⟩), v3] W fun e W' => e = gaveUp (openE n) ∧ Below W.heap.size W W' := by
  have c0 := hb.s.cell (j := 0) rfl
  have c1 := hb.t.cell (j := 0) rfl
  have H := Lib.hid h
  have HK := Lib.hid hk
  clear h hb hk
  refine (callsIn_wide (n := 4)).1 ?_
  refine callsIn_of_wp_marks Try.func58 rfl trivial ?_ rfl
  simp only [Try.ntmps58, List.size_toArray, List.length_cons, List.length_nil, Nat.reduceAdd, Nat.reduceSub, Array.replicate_succ, Array.replicate_zero, List.push_toArray, List.append_toArray, List.nil_append, List.cons_append]
  gi_wp2_with (refine ⟨trivial, ?_⟩; gi_at_call 43; refine (callsIn_wide.2 (open_bad G A n b tx _ H.out hn HK.out)).mono ?_; rintro e w1 ⟨rfl, hB⟩; (have HB := Lib.hid hB); clear hB; simp only [gaveUp])
  exact ⟨rfl, HB.out⟩
set_option maxHeartbeats 2000000 in
theorem used1_us (page : Int) (h : SU W G A n us) (hb : Bx W G tx B1 B2) (h3 : Blk W B3 [.int .i64 page] 3) (h0 : 0 ≤ page) (h1 : page < n) : Calls Try.prog 56 #[.pointer (some ⟨B1, 0, none⟩), .pointer (some ⟨B2, 0, none⟩), .pointer (some ⟨B3, 0, none⟩)] W fun e W' => e = .returned (.bool (us.getD page.toNat false)) ∧ Below W.heap.size W W' := by
  obtain ⟨p, rfl⟩ : ∃ p : Nat, page = p := ⟨page.toNat, by omega⟩
  have hp : p < n := by omega
  have c0 := hb.s.cell (j := 0) rfl
  have c1 := hb.t.cell (j := 0) rfl
  have H := Lib.hid h
  have H3 := Lib.hid h3
  have hn := h.hi
  obtain ⟨y, hy⟩ : ∃ y, us.getD ((p : Nat) : Int).toNat false = y := ⟨_, rfl⟩
  have HY : Hid (us.getD p false = y) := Lib.hid hy
  rw [hy]
  clear h hb h3 hy
  go_enter Try.func56, Try.ntmps56
  go_upto_region 2 with (go_at_call 43; refine (open_us G A n us tx _ H.out).mono ?_; rintro e w1 ⟨R, U, rfl, hRm, hB, hR, hU⟩; (have HRm := Lib.hid hRm); (have HB := Lib.hid hB); clear hRm hB hR hU)
  have d0 := (H3.out.on HB.out).cell (j := 0) rfl
  have d1 := HRm.out.obj.cell (j := 2) rfl
  have d2 := HRm.out.row.cell (j := p) (boolsV_get (by rw [HRm.out.len]; exact hp))
  rw [HY.out] at d2
  go_quiet ((go_at_call 57; exact Calls.quiet_of_same (need_ok 3 _)))
  go_upto_region 3 with (fail)
  go_quiet ((fail))
  go_wp2
  go_ret
  exact ⟨rfl, below_drewN (below_drewN HB.out _) _⟩
theorem need_and {c : Bool} (h : c = false) (e : Int) (w : World) : Calls Try.prog 57 #[.bool c, .int .i64 e] w fun x w' => x = gaveUp e ∧ w' = w := need_is c h e w
set_option maxHeartbeats 2000000 in
theorem used1_none (page : Int) (h : SU W G A n us) (hb : Bx W G tx B1 B2) (h3 : Blk W B3 [.int .i64 page] 3) (hbad : ¬ (0 ≤ page ∧ page < n)) : Calls Try.prog 56 #[.pointer (some ⟨B1, 0, none⟩), .pointer (some ⟨B2, 0, none⟩), .pointer (some ⟨B3, 0, none⟩)] W fun e W' => e = gaveUp 3 ∧ Below W.heap.size W W' := by
  have c0 := hb.s.cell (j := 0) rfl
  have c1 := hb.t.cell (j := 0) rfl
  have H := Lib.hid h
  have H3 := Lib.hid h3
  have HBAD := Lib.hid hbad
  have hn := h.hi
  clear h hb h3 hbad
  go_enter Try.func56, Try.ntmps56
  go_upto_region 2 with (go_at_call 43; refine (open_us G A n us tx _ H.out).mono ?_; rintro e w1 ⟨R, U, rfl, hRm, hB, hR, hU⟩; (have HRm := Lib.hid hRm); (have HB := Lib.hid hB); clear hRm hB hR hU)
  have d0 : w1.drew.cell? ⟨B3, 0, none⟩ = some (.int .i64 page) := (H3.out.on HB.out).cell (j := 0) rfl
  have d1 : w1.drew.cell? ⟨R, 2, none⟩ = some (.slice (some ⟨U, 0, none⟩) n n) := HRm.out.obj.cell (j := 2) rfl
  have HB2 : Hid (Below W.heap.size W w1.drew) := Lib.hid (below_drew1 HB.out)
  obtain ⟨wd, hwd⟩ : ∃ wd, w1.drew = wd := ⟨_, rfl⟩
  by_cases h1 : 0 ≤ page
  · have h2 : ¬ page < n := fun h => HBAD.out ⟨h1, h⟩
    refine wp_region_still_tail 11 (by kernel_rfl) (by kernel_rfl) ?_
    change wpStill _ _ w1.drew (fun a' => wpList _ _ _ _ a' w1.drew) _ _
    rw [hwd] at d0 d1 HB2 ⊢
    simp only [List.take_succ_cons, List.take_zero, List.drop_succ_cons, List.drop_zero]
    clear hwd HRm HB
    repeat still_step
    refine wpStill_nil ?_
    go_wp2_with (go_at_call 57; refine (need_is _ (by simp <;> omega) 3 _).mono ?_; rintro e w9 ⟨rfl, hw9⟩; (have hw8 := hw9.symm); subst hw8; clear hw9; simp only [gaveUp])
    exact ⟨rfl, rfl, HB2.out⟩
  · have hS0 : (fun w' : World => w'.cell? ⟨B3, 0, none⟩ = some (.int .i64 page)) w1.drew := d0
    refine wp_region_held_drew (S := fun w' => w'.cell? ⟨B3, 0, none⟩ = some (.int .i64 page)) (by kernel_rfl) hS0 (fun hHeld => ?_)
    clear d0 d1 hwd HRm hS0
    refine wpAnyH_take (i := 0) (v := .int .i64 page) rfl (by kernel_rfl) (by kernel_rfl) (by kernel_rfl) (fun _ _ _ h => h) (Or.inl ⟨by rfl, ?_⟩) hHeld ?_
    · intro w' hw'
      go_simp
    simp only [Act.put, List.getElem_toArray, List.getElem_cons_zero, List.getElem_cons_succ, List.setIfInBounds_toArray, List.set_cons_zero, List.set_cons_succ]
    refine wpAnyH_take (i := 1) (v := .bool false) rfl (by kernel_rfl) (by kernel_rfl) (by kernel_rfl) (fun _ _ _ h => h) (Or.inl ⟨by rfl, ?_⟩) hHeld ?_
    · intro w' hw'
      go_simp
    simp only [Act.put, List.getElem_toArray, List.getElem_cons_zero, List.getElem_cons_succ, List.setIfInBounds_toArray, List.set_cons_zero, List.set_cons_succ]
    refine wpAnyH_take (i := 2) (v := .bool false) rfl (by kernel_rfl) (by kernel_rfl) (by kernel_rfl) (fun _ _ _ h => h) (Or.inl ⟨by rfl, ?_⟩) hHeld ?_
    · intro w' hw'
      go_simp
    simp only [Act.put, List.getElem_toArray, List.getElem_cons_zero, List.getElem_cons_succ, List.setIfInBounds_toArray, List.set_cons_zero, List.set_cons_succ]
    refine wpAnyH_take (i := 3) (v := undef) rfl (by kernel_rfl) (by kernel_rfl) (by kernel_rfl) (fun _ _ _ h => h) (Or.inr ⟨by rfl, rfl⟩) hHeld ?_
    simp only [Act.put, List.getElem_toArray, List.getElem_cons_zero, List.getElem_cons_succ, List.setIfInBounds_toArray, List.set_cons_zero, List.set_cons_succ]
    refine wpAnyH_take (i := 4) (v := undef) rfl (by kernel_rfl) (by kernel_rfl) (by kernel_rfl) (fun _ _ _ h => h) (Or.inr ⟨by rfl, rfl⟩) hHeld ?_
    simp only [Act.put, List.getElem_toArray, List.getElem_cons_zero, List.getElem_cons_succ, List.setIfInBounds_toArray, List.set_cons_zero, List.set_cons_succ]
    refine wpAnyH_take (i := 5) (v := undef) rfl (by kernel_rfl) (by kernel_rfl) (by kernel_rfl) (fun _ _ _ h => h) (Or.inr ⟨by rfl, rfl⟩) hHeld ?_
    simp only [Act.put, List.getElem_toArray, List.getElem_cons_zero, List.getElem_cons_succ, List.setIfInBounds_toArray, List.set_cons_zero, List.set_cons_succ]
    refine wpAnyH_take (i := 6) (v := undef) rfl (by kernel_rfl) (by kernel_rfl) (by kernel_rfl) (fun _ _ _ h => h) (Or.inr ⟨by rfl, rfl⟩) hHeld ?_
    simp only [Act.put, List.getElem_toArray, List.getElem_cons_zero, List.getElem_cons_succ, List.setIfInBounds_toArray, List.set_cons_zero, List.set_cons_succ]
    refine wpAnyH_take (i := 7) (v := undef) rfl (by kernel_rfl) (by kernel_rfl) (by kernel_rfl) (fun _ _ _ h => h) (Or.inr ⟨by rfl, rfl⟩) hHeld ?_
    simp only [Act.put, List.getElem_toArray, List.getElem_cons_zero, List.getElem_cons_succ, List.setIfInBounds_toArray, List.set_cons_zero, List.set_cons_succ]
    refine wpAnyH_take (i := 8) (v := undef) rfl (by kernel_rfl) (by kernel_rfl) (by kernel_rfl) (fun _ _ _ h => h) (Or.inr ⟨by rfl, rfl⟩) hHeld ?_
    simp only [Act.put, List.getElem_toArray, List.getElem_cons_zero, List.getElem_cons_succ, List.setIfInBounds_toArray, List.set_cons_zero, List.set_cons_succ]
    refine wpAnyH_take (i := 9) (v := undef) rfl (by kernel_rfl) (by kernel_rfl) (by kernel_rfl) (fun _ _ _ h => h) (Or.inr ⟨by rfl, rfl⟩) hHeld ?_
    simp only [Act.put, List.getElem_toArray, List.getElem_cons_zero, List.getElem_cons_succ, List.setIfInBounds_toArray, List.set_cons_zero, List.set_cons_succ]
    refine wpAnyH_take (i := 10) (v := .bool false) rfl (by kernel_rfl) (by kernel_rfl) (by kernel_rfl) (fun _ _ _ h => h) (Or.inl ⟨by rfl, ?_⟩) hHeld ?_
    · intro w' hw'
      go_simp
    simp only [Act.put, List.getElem_toArray, List.getElem_cons_zero, List.getElem_cons_succ, List.setIfInBounds_toArray, List.set_cons_zero, List.set_cons_succ]
    refine wpAnyH_ready (rs := [11]) (by kernel_rfl) (by simp) ?_
    refine AllReadyH.cons rfl (fun K hK => ?_) AllReadyH.nil
    rw [if_pos (by rfl)]
    go_simp
    refine (need_no 3 _).mono ?_
    rintro e w9 ⟨rfl, hw9⟩
    have hw8 := hw9.symm
    subst hw8
    exact ⟨rfl, rfl, below_drew1 HB.out⟩
end
end Go.Proofs.Ytibohhiebejbmaa
/- Walks: Take and Format: the functions that they guard. -/
namespace Go.Proofs.Ytibohhiebejbmaa
open Go.RowKit Go.Deep Go.Shelf
set_option linter.unusedVariables false
set_option linter.unusedSimpArgs false
set_option maxRecDepth 100000

/-- Why choose gives up; 0: it does not. -/
def chooseE (us : List Bool) (n : Nat) (m near : Int) : Int := if ¬ (1 ≤ m ∧ -1 ≤ near ∧ near < n) then 1 else if ¬ m ≤ freeM us then 5 else 0
theorem choose_no (R U n G : Nat) (tx : Value) (us : List Bool) (m near : Int) (inside : Bool) (w : World) (h : Rm w R U n G tx us) (hn : n ≤ 1000000) (hb : chooseE us n m near ≠ 0) :
    Calls Try.prog 44 #[.pointer (some ⟨R, 0, none⟩), .int .i64 m, .int .i64 near, .bool inside] w fun e w' => e = gaveUp (chooseE us n m near) ∧ Below w.heap.size w w' := by
  unfold chooseE at hb ⊢
  by_cases h1 : ¬ (1 ≤ m ∧ -1 ≤ near ∧ near < n)
  · rw [if_pos h1]
    exact choose_arg R U n G tx us m near inside w h h1
  · rw [if_neg h1] at hb ⊢
    rw [Classical.not_not] at h1
    by_cases h2 : ¬ m ≤ freeM us
    · rw [if_pos h2]
      exact choose_full R U n G tx us m near inside w h hn h1.1 h1.2.1 h1.2.2 h2
    · rw [if_neg h2] at hb
      exact absurd rfl hb
theorem choose_yes (R U n G : Nat) (tx : Value) (us : List Bool) (m near : Int) (inside : Bool) (w : World) (h : Rm w R U n G tx us) (hL : Lead us n) (hn : n ≤ 1536) (hU : U < w.heap.size) (hb : chooseE us n m near = 0) :
    Calls Try.prog 44 #[.pointer (some ⟨R, 0, none⟩), .int .i64 m, .int .i64 near, .bool inside] w fun e w' => ∃ us' l A c, chooseM us n m.toNat near inside = (us', l) ∧ e = .returned (.slice A l.length c) ∧ w'.ownsRow w.heap.size 56 2 (.slice A l.length c) l.length (rngV l) ∧ Rm w' R U n G tx us' ∧ w.grownBy w' (some U) := by
  unfold chooseE at hb
  by_cases h1 : ¬ (1 ≤ m ∧ -1 ≤ near ∧ near < n)
  · rw [if_pos h1] at hb; exact absurd hb (by decide)
  · rw [if_neg h1] at hb
    rw [Classical.not_not] at h1
    by_cases h2 : ¬ m ≤ freeM us
    · rw [if_pos h2] at hb; exact absurd hb (by decide)
    · rw [Classical.not_not] at h2
      obtain ⟨k, rfl⟩ : ∃ k : Nat, m = k := ⟨m.toNat, by omega⟩
      refine (choose_ok R U n G k tx us near inside w h hL hn hU (by omega) (by omega) h1.2.1 h1.2.2).mono ?_
      rintro e w' ⟨us', l, v, h3, rfl, h5, h6, h7⟩
      obtain ⟨A, c, rfl, hc⟩ := own_is_slice h5
      exact ⟨us', l, A, c, h3, rfl, h5, h6, h7⟩
/-- The table that Format lays. -/
def fmtM (n : Nat) : List Bool := setR (List.replicate n false) 0 3 true
theorem fmtM_lead {n : Nat} (hn : 4 ≤ n) : Lead (fmtM n) n := by
  refine ⟨by unfold fmtM; rw [setR_len, List.length_replicate], hn, fun i hi => ?_⟩
  unfold fmtM
  rw [setR_get (by rw [List.length_replicate]; omega), if_pos (by omega)]

section
variable {G A n B1 B2 B3 B4 B5 : Nat} {us : List Bool} {b : List Int} {tx : Nat} {W : World} {m near : Int} {inside : Bool}
theorem take1_bad {v3 v4 v5 : Value} (h : Sp W G A n b) (hn : n ≤ 1000000) (hk : ¬ OkB b n) (hb : Bx W G tx B1 B2) : Calls Try.prog 42 #[.pointer (some ⟨B1, 0, none⟩), .pointer (some ⟨B2, 0, none⟩), v3, v4, v5] W fun e W' => e = gaveUp (openE n) ∧ Below W.heap.size W W' := by
  have c0 := hb.s.cell (j := 0) rfl
  have c1 := hb.t.cell (j := 0) rfl
  have H := Lib.hid h
  have HK := Lib.hid hk
  clear h hb hk
  go_enter Try.func42, Try.ntmps42
  go_wp2_with (go_at_call 43; refine (open_bad G A n b tx _ H.out hn HK.out).mono ?_; rintro e w1 ⟨rfl, hB⟩; (have HB := Lib.hid hB); clear hB; simp only [gaveUp])
  exact ⟨rfl, rfl, HB.out⟩
/-- The boxes of a choice. -/
structure Cx (W : World) (m near : Int) (inside : Bool) (B3 B4 B5 : Nat) : Prop where
  m : Blk W B3 [.int .i64 m] 3
  n : Blk W B4 [.int .i64 near] 3
  i : Blk W B5 [.bool inside] 4
theorem take1_no (h : SU W G A n us) (hb : Bx W G tx B1 B2) (hx : Cx W m near inside B3 B4 B5) (hE : chooseE us n m near ≠ 0) : Calls Try.prog 42 #[.pointer (some ⟨B1, 0, none⟩), .pointer (some ⟨B2, 0, none⟩), .pointer (some ⟨B3, 0, none⟩), .pointer (some ⟨B4, 0, none⟩), .pointer (some ⟨B5, 0, none⟩)] W fun e W' => e = gaveUp (chooseE us n m near) ∧ Below W.heap.size W W' := by
  have c0 := hb.s.cell (j := 0) rfl
  have c1 := hb.t.cell (j := 0) rfl
  have H := Lib.hid h
  have HX := Lib.hid hx
  have HE := Lib.hid hE
  have hn := h.hi
  clear h hb hx hE
  go_enter Try.func42, Try.ntmps42
  go_upto_region 2 with (go_at_call 43; refine (open_us G A n us tx _ H.out).mono ?_; rintro e w1 ⟨R, U, rfl, hRm, hB, hR, hU⟩; (have HRm := Lib.hid hRm); (have HB := Lib.hid hB); clear hRm hB hR hU)
  have d0 := (HX.out.m.on HB.out).cell (j := 0) rfl
  have d1 := (HX.out.n.on HB.out).cell (j := 0) rfl
  have d2 := (HX.out.i.on HB.out).cell (j := 0) rfl
  go_wp2_with (go_at_call 44; refine (choose_no R U n G _ us m near inside _ HRm.out (by omega) HE.out).mono ?_; rintro e w2 ⟨rfl, hB⟩; (have HB2 := Lib.hid (below_then HB.out HB.out.size hB)); clear hB; simp only [gaveUp])
  exact ⟨rfl, rfl, HB2.out⟩
theorem take1_us (h : SU W G A n us) (hb : Bx W G tx B1 B2) (hx : Cx W m near inside B3 B4 B5) (hE : chooseE us n m near = 0) : Calls Try.prog 42 #[.pointer (some ⟨B1, 0, none⟩), .pointer (some ⟨B2, 0, none⟩), .pointer (some ⟨B3, 0, none⟩), .pointer (some ⟨B4, 0, none⟩), .pointer (some ⟨B5, 0, none⟩)] W fun e W' =>
    ∃ us' l Al c, chooseM us n m.toNat near inside = (us', l) ∧ e = .returned (.slice Al l.length c) ∧ W'.ownsRow W.heap.size 56 2 (.slice Al l.length c) l.length (rngV l) ∧ Sp W' G A n (bodyM us') ∧ W.grownBy W' (some A) := by
  have c0 := hb.s.cell (j := 0) rfl
  have c1 := hb.t.cell (j := 0) rfl
  have H := Lib.hid h
  have HX := Lib.hid hx
  have HE := Lib.hid hE
  have hn := h.hi
  have hlo := h.lead.lo
  clear h hb hx hE
  go_enter Try.func42, Try.ntmps42
  go_upto_region 2 with (go_at_call 43; refine (open_us G A n us tx _ H.out).mono ?_; rintro e w1 ⟨R, U, rfl, hRm, hB, hR, hU⟩; (have HRm := Lib.hid hRm); (have HB := Lib.hid hB); (have HU := Lib.hid hU); clear hRm hB hR hU)
  have d0 := (HX.out.m.on HB.out).cell (j := 0) rfl
  have d1 := (HX.out.n.on HB.out).cell (j := 0) rfl
  have d2 := (HX.out.i.on HB.out).cell (j := 0) rfl
  go_upto_region 3 with (go_at_call 44; refine (choose_yes R U n G _ us m near inside _ HRm.out H.out.lead hn HRm.out.row.lt HE.out).mono ?_; rintro e w2 ⟨us', l, Al, c, hch, rfl, ho, hrm, hg⟩; (have HCH := Lib.hid hch); (have HO := Lib.hid ho); (have HRm2 := Lib.hid hrm); (have HS2 := Lib.hid ((H.out.sp.on HB.out).grown hg HRm.out.row (by decide))); (have HB2 : Hid (Below W.heap.size W w2) := Lib.hid (HB.out.grown hg HB.out.size (fun k e => by cases e; exact HU.out))); clear hch ho hrm hg)
  go_wp2_with (go_at_call 45; refine (save_any R U n G A _ us' (bodyM us) _ HRm2.out HS2.out (by omega) (by omega)).mono ?_; rintro e w3 ⟨rfl, hSp, hG⟩; (have HSp := Lib.hid hSp); (have HG := Lib.hid hG); clear hSp hG)
  go_ret
  have hA : A < W.heap.size := by obtain ⟨-, ⟨cs, h2, -⟩, -⟩ := H.out.sp; exact h2.lt
  refine ⟨us', l, Al, c, HCH.out, rfl, ?_, HSp.out, grown_then (grown_of_below HB2.out _) HG.out⟩
  refine own_weak (HO.out.kept HG.out ?_) HB.out.size
  by_cases hv : (Value.slice Al l.length c).ownBlock = some A
  · exact absurd (HO.out.lt _ hv).1 (by have := HB.out.size; omega)
  · exact .inr fun e => hv e
end
end Go.Proofs.Ytibohhiebejbmaa
/- Walks: Format: the function that it guards. -/
namespace Go.Proofs.Ytibohhiebejbmaa
open Go.RowKit Go.Deep Go.Shelf
set_option linter.unusedVariables false
set_option linter.unusedSimpArgs false
set_option maxRecDepth 100000

section
variable {G A n B1 B2 : Nat} {b : List Int} {tx : Nat} {W : World}
theorem format1_no (h : Sp W G A n b) (hn : ¬ (4 ≤ n ∧ n ≤ 1536)) (hb : Bx W G tx B1 B2) : Calls Try.prog 64 #[.pointer (some ⟨B1, 0, none⟩), .pointer (some ⟨B2, 0, none⟩)] W fun e W' => e = gaveUp 1 ∧ Below W.heap.size W W' := by
  have c0 := hb.s.cell (j := 0) rfl
  have hms := meth_size G
  have hd1 : (decide ((4 : Int) ≤ (n : Int)) && decide ((n : Int) ≤ 1536)) = false := by simp; omega
  have hne0 : ∀ W : World, (binOp .neq 74 (.iface 26 (.pointer (some ⟨G, 0, none⟩))) .nilIface).run Try.prog W = .ok (.bool true) W := fun W => by kernel_rfl
  have H := Lib.hid h
  clear h hb hn
  go_enter Try.func64, Try.ntmps64
  go_wp2_with (first
    | (go_at_call 57; refine (need_ok 23 _).mono ?_; rintro e w1 ⟨rfl, hw9⟩; (have hw8 := hw9.symm); subst hw8; clear hw9)
    | (go_at_call 109; refine (size_any G A n b _ H.out).mono ?_; rintro e w1 ⟨rfl, hw9⟩; (have hw8 := hw9.symm); subst hw8; clear hw9)
    | (go_at_call 60; refine (fits_any n _).mono ?_; rintro e w1 ⟨rfl, hw9⟩; (have hw8 := hw9.symm); subst hw8; clear hw9; rw [hd1])
    | (go_at_call 57; refine (need_no 1 _).mono ?_; rintro e w1 ⟨rfl, hw9⟩; (have hw8 := hw9.symm); subst hw8; clear hw9; simp only [gaveUp]))
  exact ⟨rfl, rfl, Below.refl _ _⟩
set_option maxHeartbeats 4000000 in
theorem format1_ok (h : Sp W G A n b) (hn : 4 ≤ n) (hn2 : n ≤ 1536) (hb : Bx W G tx B1 B2) : Calls Try.prog 64 #[.pointer (some ⟨B1, 0, none⟩), .pointer (some ⟨B2, 0, none⟩)] W fun e W' => e = .returned (.tuple #[]) ∧ Sp W' G A n (bodyM (fmtM n)) ∧ W.grownBy W' (some A) := by
  have c0 := hb.s.cell (j := 0) rfl
  have hms := meth_size G
  have hd1 : (decide ((4 : Int) ≤ (n : Int)) && decide ((n : Int) ≤ 1536)) = true := by simp; omega
  have hne0 : ∀ W : World, (binOp .neq 74 (.iface 26 (.pointer (some ⟨G, 0, none⟩))) .nilIface).run Try.prog W = .ok (.bool true) W := fun W => by kernel_rfl
  have H := Lib.hid h
  have HB := Lib.hid hb
  clear h hb
  go_enter Try.func64, Try.ntmps64
  go_upto_region 2 with (first
    | (go_at_call 57; refine (need_ok 23 _).mono ?_; rintro e w1 ⟨rfl, hw9⟩; (have hw8 := hw9.symm); subst hw8; clear hw9)
    | (go_at_call 109; refine (size_any G A n b _ H.out).mono ?_; rintro e w1 ⟨rfl, hw9⟩; (have hw8 := hw9.symm); subst hw8; clear hw9)
    | (go_at_call 60; refine (fits_any n _).mono ?_; rintro e w1 ⟨rfl, hw9⟩; (have hw8 := hw9.symm); subst hw8; clear hw9; rw [hd1])
    | (go_at_call 57; refine (need_ok 1 _).mono ?_; rintro e w1 ⟨rfl, hw9⟩; (have hw8 := hw9.symm); subst hw8; clear hw9))
  have HBd := Lib.hid (below_drew1 (Below.refl W.heap.size W))
  have HS : Hid (∀ w', Below W.heap.size W w' → w'.cell? ⟨B1, 0, none⟩ = some (.iface 26 (.pointer (some ⟨G, 0, none⟩))) ∧ w'.cell? ⟨B2, 0, none⟩ = some (.int .i64 tx)) :=
    Lib.hid fun w' hw => ⟨(HB.out.s.on hw).cell rfl, (HB.out.t.on hw).cell rfl⟩
  obtain ⟨i4, h4i, h4z, h41, h4b⟩ := info_parts info4
  refine wp_region_held_drew (S := fun w' => w'.cell? ⟨B1, 0, none⟩ = some (.iface 26 (.pointer (some ⟨G, 0, none⟩))) ∧ w'.cell? ⟨B2, 0, none⟩ = some (.int .i64 tx)) (by kernel_rfl) (HS.out _ HBd.out) (fun hHeld => ?_)
  clear c0
  refine wpAnyH_take (i := 0) (v := .iface 26 (.pointer (some ⟨G, 0, none⟩))) rfl (by kernel_rfl) (by kernel_rfl) (by kernel_rfl) (fun _ _ _ h => h) (Or.inl ⟨by rfl, ?_⟩) hHeld ?_
  · intro w' hw'
    obtain ⟨k0, k1⟩ := hw'
    go_simp
  simp only [Act.put, List.getElem_toArray, List.getElem_cons_zero, List.getElem_cons_succ, List.setIfInBounds_toArray, List.set_cons_zero, List.set_cons_succ]
  refine wpAnyH_take (i := 1) (v := .int .i64 tx) rfl (by kernel_rfl) (by kernel_rfl) (by kernel_rfl) (fun _ _ _ h => h) (Or.inl ⟨by rfl, ?_⟩) hHeld ?_
  · intro w' hw'
    obtain ⟨k0, k1⟩ := hw'
    go_simp
  simp only [Act.put, List.getElem_toArray, List.getElem_cons_zero, List.getElem_cons_succ, List.setIfInBounds_toArray, List.set_cons_zero, List.set_cons_succ]
  refine wpAnyH_take (i := 2) (v := .iface 26 (.pointer (some ⟨G, 0, none⟩))) rfl (by kernel_rfl) (by kernel_rfl) (by kernel_rfl) (fun _ _ _ h => h) (Or.inl ⟨by rfl, ?_⟩) hHeld ?_
  · intro w' hw'
    obtain ⟨k0, k1⟩ := hw'
    go_simp
  simp only [Act.put, List.getElem_toArray, List.getElem_cons_zero, List.getElem_cons_succ, List.setIfInBounds_toArray, List.set_cons_zero, List.set_cons_succ]
  refine wpAnyH_ready (rs := [3]) (by kernel_rfl) (by simp) ?_
  refine AllReadyH.cons rfl (fun K hK => ?_) AllReadyH.nil
  rw [if_pos (by rfl)]
  go_simp
  refine (size_any G A n b _ (H.out.on HBd.out)).mono ?_
  rintro e w1 ⟨rfl, hw9⟩
  have hw8 := hw9.symm
  subst hw8
  clear hw9
  simp only
  refine hK.out _ _ (HS.out _ HBd.out) (fun hHeld1 => ?_)
  try simp only [Act.put, List.getElem_toArray, List.getElem_cons_zero, List.getElem_cons_succ, List.setIfInBounds_toArray, List.set_cons_zero, List.set_cons_succ]
  clear hK hHeld
  obtain ⟨wd, hwd⟩ : ∃ wd, W.drew = wd := ⟨_, rfl⟩
  rw [hwd] at HBd hHeld1 ⊢
  refine wpAnyH_ready (rs := [4]) (by kernel_rfl) (by simp) ?_
  refine AllReadyH.cons rfl (fun K2 hK2 => ?_) AllReadyH.nil
  rw [if_pos (by rfl)]
  obtain ⟨w4, hrun, hown4, hgrow4⟩ := run_make_full (P := Try.prog) wd wd.heap.size 28 4 i4 _ 1 Try.underlying28 h4i h4z h41 .i64 .i64 n (by rw [h4b]; omega) (by simp only [maxLen]; omega) (Nat.le_refl _)
  have HO4 := Lib.hid hown4
  have HB4 := Lib.hid ((Below.refl wd.heap.size wd).grown hgrow4 (Nat.le_refl _) (fun k e => by cases e))
  clear hown4 hgrow4
  have hB4 := below_then HBd.out HBd.out.size HB4.out
  go_simp
  refine hK2.out _ _ (HS.out _ hB4) (fun hHeld2 => ?_)
  try simp only [Act.put, List.getElem_toArray, List.getElem_cons_zero, List.getElem_cons_succ, List.setIfInBounds_toArray, List.set_cons_zero, List.set_cons_succ]
  refine wpAnyH_take (i := 5) (v := .agg #[.iface 26 (.pointer (some ⟨G, 0, none⟩)), .int .i64 tx, .slice (some ⟨wd.heap.size, 0, none⟩) n n]) rfl (by kernel_rfl) (by kernel_rfl) (by kernel_rfl) (fun _ _ _ h => h) (Or.inl ⟨by rfl, ?_⟩) hHeld2 ?_
  · intro w' hw'
    go_simp
  try simp only [Act.put, List.getElem_toArray, List.getElem_cons_zero, List.getElem_cons_succ, List.setIfInBounds_toArray, List.set_cons_zero, List.set_cons_succ]
  refine wpAnyH_ready (rs := [6]) (by kernel_rfl) (by simp) ?_
  refine AllReadyH.cons rfl (fun K3 hK3 => ?_) AllReadyH.nil
  rw [if_pos (by rfl)]
  go_simp
  refine hK3.out _ _ (HS.out _ (below_al hB4 _)) (fun hHeld3 => ?_)
  try simp only [Act.put, List.getElem_toArray, List.getElem_cons_zero, List.getElem_cons_succ, List.setIfInBounds_toArray, List.set_cons_zero, List.set_cons_succ]
  refine wpAnyH_take (i := 7) (v := .pointer (some ⟨w4.heap.size, 0, none⟩)) rfl (by kernel_rfl) (by kernel_rfl) (by kernel_rfl) (fun _ _ _ h => h) (Or.inl ⟨by rfl, ?_⟩) hHeld3 ?_
  · intro w' hw'
    go_simp
  try simp only [Act.put, List.getElem_toArray, List.getElem_cons_zero, List.getElem_cons_succ, List.setIfInBounds_toArray, List.set_cons_zero, List.set_cons_succ]
  refine wpAnyH_done (by kernel_rfl) ?_ _
  clear hK2 hK3 hHeld1 hHeld2 hHeld3 hrun hwd
  go_upto_region 3 with (fail)
  have hown := HO4.out
  rw [Nat.mul_one, show (Value.bool false).cells = #[.bool false] from rfl, toList_madeCells_one] at hown
  obtain ⟨hb4, -⟩ := Blk.of_own hown
  obtain ⟨R, hRe⟩ : ∃ R, w4.heap.size = R := ⟨_, rfl⟩
  obtain ⟨U, hUe⟩ : ∃ U, wd.heap.size = U := ⟨_, rfl⟩
  obtain ⟨W5, hW5⟩ : ∃ W, w4.alloc (.cells #[.iface 26 (.pointer (some ⟨G, 0, none⟩)), .int .i64 tx, .slice (some ⟨wd.heap.size, 0, none⟩) n n] 88) = W := ⟨_, rfl⟩
  have hbl : boolsV (List.replicate n false) = List.replicate n (.bool false) := by simp [boolsV]
  have HRm : Hid (Rm W5 R U n G (.int .i64 tx) (List.replicate n false)) := Lib.hid ⟨by rw [← hW5, ← hRe, ← hUe]; exact Blk.new w4 [_, _, _] 88, by rw [← hW5, ← hUe, hbl]; exact hb4.alloc _, by simp⟩
  have HB5 : Hid (Below W.heap.size W W5) := Lib.hid (by rw [← hW5]; exact below_al hB4 _)
  have HUw : Hid (W.heap.size ≤ U) := Lib.hid (by rw [← hUe]; exact HBd.out.size)
  have HS5 := Lib.hid (H.out.on HB5.out)
  rw [hW5]
  try rw [hRe]
  clear hown hb4 hRe hUe hW5 hbl hB4 HB4 HO4 HBd h4i h4z h41 h4b hms hne0 hd1
  go_wp2_with (first
    | (go_at_call 65; refine (set_any R U n G 0 3 _ _ true _ HRm.out (by omega) (by omega)).mono ?_; rintro e w6 ⟨rfl, hRm6, hG6⟩; (have HRm6 := Lib.hid hRm6); (have HS6 := Lib.hid (HS5.out.grown hG6 HRm.out.row (by decide))); (have HB6 : Hid (Below W.heap.size W w6) := Lib.hid (HB5.out.grown hG6 HB5.out.size (fun k e => by cases e; exact HUw.out))); clear hRm6 hG6)
    | (go_at_call 45; refine (save_any R U n G A _ (fmtM n) b _ HRm6.out HS6.out (by omega) (by omega)).mono ?_; rintro e w7 ⟨rfl, hSp, hG⟩; (have HSp := Lib.hid hSp); (have HG := Lib.hid hG); clear hSp hG))
  go_end0
  exact ⟨rfl, HSp.out, grown_then (grown_of_below HB6.out _) HG.out⟩
end
end Go.Proofs.Ytibohhiebejbmaa
/- Walks: Runs: the function that it guards. -/
namespace Go.Proofs.Ytibohhiebejbmaa
open Go.RowKit Go.Deep Go.Shelf
set_option linter.unusedVariables false
set_option linter.unusedSimpArgs false
set_option maxRecDepth 100000
attribute [local go_sem] Oper.semAt_some

theorem Blk.put_loop {W : World} {g l : Nat} {cs : List Value} {t : TypeId} {o : Obj} {r : Loop} (h : Blk W g cs t) (hl : W.heap[l]? = some (.loop r)) : Blk (W.putObj l o) g cs t := h.putObj (by rintro rfl; unfold Blk at h; rw [h] at hl; cases hl)
section
variable {W W' : World} {gf gt gr gu R U n G a z : Nat} {tx : Value} {us : List Bool} {u : Bool}
theorem RunsIn.put_loop {l : Nat} {o : Obj} {r : Loop} (h : RunsIn W gf gt gr gu R U n G a z tx us u) (hl : W.heap[l]? = some (.loop r)) : RunsIn (W.putObj l o) gf gt gr gu R U n G a z tx us u :=
  ⟨h.f.put_loop hl, h.t.put_loop hl, h.r.put_loop hl, h.u.put_loop hl, ⟨h.m.obj.put_loop hl, h.m.row.put_loop hl, h.m.len⟩⟩
theorem RunsIn.far32 {B : Nat} {v x : Value} (h : RunsIn W gf gt gr gu R U n G a z tx us u) (hb : Blk W B [v] 32) : RunsIn (W.setCell ⟨B, 0, none⟩ x) gf gt gr gu R U n G a z tx us u :=
  ⟨h.f.far (h.f.ne hb (by decide)) _, h.t.far (h.t.ne hb (by decide)) _, h.r.far (h.r.ne hb (by decide)) _, h.u.far (h.u.ne hb (by decide)) _, ⟨h.m.obj.far (h.m.obj.ne hb (by decide)) _, h.m.row.far (h.m.row.ne hb (by decide)) _, h.m.len⟩⟩
theorem RunsIn.own56 {base k : Nat} {v : Value} {xs : List Value} (h : RunsIn W gf gt gr gu R U n G a z tx us u) (ho : W.ownsRow base 56 2 v k xs) (hg : W.grownBy W' v.ownBlock) : RunsIn W' gf gt gr gu R U n G a z tx us u :=
  ⟨h.f.grown hg (own_ne_type ho h.f (by decide)), h.t.grown hg (own_ne_type ho h.t (by decide)), h.r.grown hg (own_ne_type ho h.r (by decide)), h.u.grown hg (own_ne_type ho h.u (by decide)), ⟨h.m.obj.grown hg (own_ne_type ho h.m.obj (by decide)), h.m.row.grown hg (own_ne_type ho h.m.row (by decide)), h.m.len⟩⟩
end
/-- Between two extents that are listed. -/
structure LJ (w : World) (B D : Nat) (rd : Loop) (gf gt gr gu R U n G a z : Nat) (tx : Value) (us : List Bool) (u : Bool) (pre : List Ext2) (W : World) : Prop where
  rec_ : W.heap[D + 1]? = some (.loop rd)
  def_ : W.heap[D]? = some (.deferred (some []))
  box : ∃ v, Blk W B [v] 32 ∧ W.ownsRow B 56 2 v pre.length (rngV pre)
  ri : RunsIn W gf gt gr gu R U n G a z tx us u
  below : Below w.heap.size w W
section
variable {w W W' : World} {B D : Nat} {rd : Loop} {gf gt gr gu R U n G a z : Nat} {tx : Value} {us : List Bool} {u : Bool} {pre : List Ext2}
theorem LJ.lt (h : LJ w B D rd gf gt gr gu R U n G a z tx us u pre W) : D + 1 < W.heap.size := (Array.getElem?_eq_some_iff.1 h.rec_).1
theorem LJ.on (h : LJ w B D rd gf gt gr gu R U n G a z tx us u pre W) (hb : Below W.heap.size W W') : LJ w B D rd gf gt gr gu R U n G a z tx us u pre W' :=
  ⟨below_heap h.rec_ hb, below_heap h.def_ hb, (by obtain ⟨v, h1, h2⟩ := h.box; exact ⟨v, h1.on hb, own_keep h2 hb⟩), h.ri.on hb, below_then h.below h.below.size hb⟩
end

set_option maxHeartbeats 8000000 in
theorem runs1_us {G A n B1 B2 B3 : Nat} {us : List Bool} {tx : Nat} {w : World} (u : Bool) (h : SU w G A n us) (hb : Bx w G tx B1 B2) (h3 : Blk w B3 [.bool u] 4) :
    Calls Try.prog 58 #[.pointer (some ⟨B1, 0, none⟩), .pointer (some ⟨B2, 0, none⟩), .pointer (some ⟨B3, 0, none⟩)] w fun e w' =>
      ∃ l Al c, RR (eqB us u) 0 n = l ∧ e = .returned (.slice Al l.length c) ∧ w'.ownsRow w.heap.size 56 2 (.slice Al l.length c) l.length (rngV l) ∧ Below w.heap.size w w' := by
  obtain ⟨i0, hi, hz0, hz1, hz2⟩ := info_parts info56
  refine (callsIn_wide (n := 9)).1 ?_
  obtain ⟨m, hm⟩ : ∃ m, 9 = m := ⟨_, rfl⟩
  have h1m : 1 ≤ m := by omega
  have h2m : 1 ≤ m - 1 := by omega
  rw [hm]
  clear hm
  obtain ⟨A9, hA⟩ : ∃ A9, RR (eqB us u) 0 n = A9 := ⟨_, rfl⟩
  rw [hA]
  have HR := Lib.hid hA
  have HAL : Hid (A9.length ≤ n) := Lib.hid (by rw [← hA]; have := RR_len (eqB us u) 0 n; omega)
  have H := Lib.hid h
  have H3 := Lib.hid h3
  have hn := h.hi
  have c0 := hb.s.cell (j := 0) rfl
  have c1 := hb.t.cell (j := 0) rfl
  clear hA h h3 hb
  refine callsIn_of_wp_marks Try.func58 rfl trivial ?_ rfl
  simp only [Try.ntmps58, List.size_toArray, List.length_cons, List.length_nil, Nat.reduceAdd, Nat.reduceSub, Array.replicate_succ, Array.replicate_zero, List.push_toArray, List.append_toArray, List.nil_append, List.cons_append]
  gi_upto_region 3 with (refine ⟨trivial, ?_⟩; gi_at_call 43; refine (callsIn_wide.2 (open_us G A n us tx _ H.out)).mono ?_; rintro e w1 ⟨R, U, rfl, hRm, hB, hR, hU⟩; (have HRm := Lib.hid hRm); (have HB := Lib.hid hB); clear hRm hB hR hU)
  obtain ⟨B, hB⟩ : ∃ B, w1.heap.size = B := ⟨_, rfl⟩
  obtain ⟨W1, hW1⟩ : ∃ W1, w1.alloc (.cells #[.slice none 0 0] 32) = W1 := ⟨_, rfl⟩
  have hb1 := one_alloc w1 (.cells #[.slice none 0 0] 32)
  have HBo : Hid (Blk W1 B [.slice none 0 0] 32) := Lib.hid (by rw [← hW1, ← hB]; exact Blk.new w1 [.slice none 0 0] 32)
  have HRm1 : Hid (Rm W1 R U n G (.int .i64 tx) us) := Lib.hid (by rw [← hW1]; exact HRm.out.on hb1)
  have HB1 : Hid (Below w.heap.size w W1) := Lib.hid (by rw [← hW1]; exact below_then HB.out HB.out.size hb1)
  have hwB : w.heap.size ≤ B := by rw [← hB]; exact HB.out.size
  try rw [hB]
  rw [hW1]
  clear hb1 hW1 hB HRm c0 c1
  have HWB := Lib.hid hwB
  obtain ⟨wd, hwd⟩ : ∃ wd, W1.drew = wd := ⟨_, rfl⟩
  have HBod : Hid (Blk wd B [.slice none 0 0] 32) := Lib.hid (by rw [← hwd]; exact HBo.out.drew)
  have HRmd : Hid (Rm wd R U n G (.int .i64 tx) us) := Lib.hid (by rw [← hwd]; exact HRm1.out.on (below_drew1 (Below.refl _ _)))
  have HBd : Hid (Below w.heap.size w wd) := Lib.hid (by rw [← hwd]; exact below_drew1 HB1.out)
  have d0 := HRmd.out.obj.cell (j := 2) rfl
  have d1 := (H3.out.on HBd.out).cell (j := 0) rfl
  refine wpIn_wide.2 ?_
  refine wp_region_still_tail 7 (by kernel_rfl) (by kernel_rfl) ?_
  change wpStill _ _ W1.drew (fun a' => wpList _ _ _ _ a' W1.drew) _ _
  rw [hwd]
  simp only [List.take_succ_cons, List.take_zero, List.drop_succ_cons, List.drop_zero]
  clear hwd HBo HRm1 HB1 hwB
  repeat still_step
  refine wpStill_nil ?_
  go_wp2_with (go_at_call 59; refine (runs59_any R 0 n u _).mono ?_; rintro e w3 ⟨rfl, hw3⟩; (have HRI := Lib.hid (show RunsIn w3 (wd.heap.size + 1) (wd.heap.size + 2) wd.heap.size (wd.heap.size + 3) R U n G 0 n (.int .i64 tx) us u by rw [hw3]; exact runs59_in HRmd.out)); (have HB34 := Lib.hid (show Below wd.heap.size wd w3 by rw [hw3]; exact below_al (below_al (below_al (one_alloc _ _) _) _) _)); clear hw3)
  obtain ⟨g0, hg0⟩ : ∃ g0, wd.heap.size = g0 := ⟨_, rfl⟩
  have HBo3 := Lib.hid (HBod.out.on HB34.out)
  have HB3 := Lib.hid (below_then HBd.out HBd.out.size HB34.out)
  rw [hg0] at HRI ⊢
  clear hg0 HB34 HBod HRmd HBd d0 d1
  gi_wp2
  obtain ⟨D, hD⟩ : ∃ D, w3.heap.size = D := ⟨_, rfl⟩
  have hBD : B < D := by rw [← hD]; exact HBo3.out.lt
  have hwD : w.heap.size ≤ D := by rw [← hD]; exact HB3.out.size
  refine wpIn_rangeFunc_X rfl h1m (gf := 79) (lb := #[.pointer (some ⟨g0 + 1, 0, none⟩), .pointer (some ⟨g0 + 2, 0, none⟩), .pointer (some ⟨g0, 0, none⟩), .pointer (some ⟨g0 + 3, 0, none⟩)]) rfl trivial (enters_of Try.func79 (by kernel_rfl) rfl) (D + 1) (by omega) ?_
  intro fn rd _ hrd
  rw [hD] at hrd ⊢
  have HRD := Lib.hid hrd
  clear hrd
  obtain ⟨W1, hW1⟩ : ∃ W1, (w3.alloc (.deferred (some []))).alloc (.loop rd) = W1 := ⟨_, rfl⟩
  have hJ0 : LJ w B D rd (g0 + 1) (g0 + 2) g0 (g0 + 3) R U n G 0 n (.int .i64 tx) us u [] W1 := by
    rw [← hW1]
    have hb0 := below_al (one_alloc w3 (.deferred (some []))) (.loop rd)
    refine ⟨?_, ?_, ⟨_, HBo3.out.on hb0, World.ownsRow_nil _ _ _ _⟩, HRI.out.on hb0, below_then HB3.out HB3.out.size hb0⟩
    · have := heap_alloc_new (w3.alloc (.deferred (some []))) (.loop rd)
      rw [World.size_alloc, hD] at this
      exact this
    · have := heap_alloc_new w3 (.deferred (some []))
      rw [hD] at this
      exact heap_al this
  rw [hW1]
  clear hW1 hD HBo3 HRI HB3
  refine (rruns1_in (m - 1) h2m (D + 1) (g0 + 1) (g0 + 2) g0 (g0 + 3) R U n G 0 n (.int .i64 tx) us u (Nat.le_refl _) (by omega) (LJ w B D rd (g0 + 1) (g0 + 2) g0 (g0 + 3) R U n G 0 n (.int .i64 tx) us u) (fun pre W W' hJ hg => hJ.on hg) (fun pre W hJ => hJ.ri) ?_ W1 hJ0).mono ?_
  · intro pre x W hJ hx hlen
    have HJ := Lib.hid hJ
    have hlt := hJ.lt
    clear hJ hJ0
    obtain ⟨k, hk⟩ : ∃ k, W.heap.size = k := ⟨_, rfl⟩
    rw [hk] at hlt
    obtain ⟨x1, x2⟩ := x
    simp only at hx ⊢
    refine yield_X3 (l := D + 1) (a₁ := ?a1) (W1 := W.alloc (.cells #[.int .i64 x1, .int .i64 x2] 56)) (K' := fun W' => LJ w B D rd (g0 + 1) (g0 + 2) g0 (g0 + 3) R U n G 0 n (.int .i64 tx) us u (pre ++ [(x1, x2)]) W') trivial HRD.out HJ.out.rec_ ?hl1 rfl ?assign ?body
    case assign =>
      intro K hK
      have HK := Lib.hid hK
      clear hK
      gi_wp2
      exact HK.out
    case hl1 => exact heap_al HJ.out.rec_
    case body =>
      intro rb hrb
      clear hrb
      obtain ⟨V, hV⟩ : ∃ V, W.alloc (.cells #[.int .i64 x1, .int .i64 x2] 56) = V := ⟨_, rfl⟩
      have hVJ : LJ w B D rd (g0 + 1) (g0 + 2) g0 (g0 + 3) R U n G 0 n (.int .i64 tx) us u pre V := by rw [← hV]; exact HJ.out.on (one_alloc _ _)
      have hVB : Blk V k [.int .i64 x1, .int .i64 x2] 56 := by rw [← hV, ← hk]; exact Blk.new W [.int .i64 x1, .int .i64 x2] 56
      have hVk : ∀ v, W.ownsRow B 56 2 v pre.length (rngV pre) → ∀ j, v.ownBlock = some j → j ≠ k := fun v ho j e => by have := (ho.lt j e).2; omega
      rw [hV]
      obtain ⟨h1, h2, ⟨v, h4, h5⟩, h6, h7⟩ := hVJ
      clear hV hk HJ
      obtain ⟨W2, hW2⟩ : ∃ W2, V.putObj (D + 1) (.loop rb) = W2 := ⟨_, rfl⟩
      have g1 : W2.heap[D + 1]? = some (.loop rb) := by rw [← hW2]; exact World.putObj_heap_same (Array.getElem?_eq_some_iff.1 h1).1
      have g2 : W2.heap[D]? = some (.deferred (some [])) := by rw [← hW2]; exact (putObj_block (by omega)).trans h2
      have g4 : Blk W2 B [v] 32 := by rw [← hW2]; exact h4.put_loop h1
      have g5 : W2.ownsRow B 56 2 v pre.length (rngV pre) := by rw [← hW2]; exact putObj_own h5 (own_not_loop h5 h1)
      have g6 : Blk W2 k [.int .i64 x1, .int .i64 x2] 56 := by rw [← hW2]; exact hVB.put_loop h1
      have g7 : Below w.heap.size w W2 := by rw [← hW2]; exact putObj_below h7 (by omega) h7.size
      have g8 : RunsIn W2 (g0 + 1) (g0 + 2) g0 (g0 + 3) R U n G 0 n (.int .i64 tx) us u := by rw [← hW2]; exact h6.put_loop h1
      rw [hW2]
      obtain ⟨Av, cv, rfl, hcv⟩ := own_is_slice g5
      obtain ⟨pl, hpl⟩ : ∃ pl, pre.length = pl := ⟨_, rfl⟩
      have HPL := Lib.hid hpl
      rw [hpl] at g4 g5 hcv hlen
      have c0 := g4.cell (j := 0) rfl
      have z0 := g4.fz
      have e0 := g6.cell (j := 0) rfl
      have e1 := g6.cell (j := 1) rfl
      have hs2 : B ≤ W2.heap.size := Nat.le_of_lt g4.lt
      have G1 := Lib.hid g1
      have G2 := Lib.hid g2
      have G4 := Lib.hid g4
      have G5 := Lib.hid g5
      have G7 := Lib.hid g7
      have G8 := Lib.hid g8
      clear hW2 h1 h2 h4 h5 h6 h7 g1 g2 g4 g5 g6 g7 g8 hVB hVk hpl
      gi_wp2_with (gi_at_builtin; refine wpListIn_append_own _ rfl _ _ 32 rfl B 56 i0 (.agg #[.int .i64 0, .int .i64 0]) 2 16 Try.underlying32 hi hz0 hz1 hz2 rfl (by decide) _ pl (rngV pre) rfl (World.ownsRow.alloc G5.out _) ⟨W2.heap.size, 0, none⟩ 1 1 [.int .i64 x1, .int .i64 x2] rfl rfl (cells_new _ _ rfl [.int .i64 x1, .int .i64 x2] _) (by simp [Value.oneCell']) (by simp only [maxLen]; omega) (by omega) (by simp; omega) ?_; intro v' w3 hown3 hgrow3 _; obtain ⟨g', cap', rfl⟩ := ownsRow_succ hown3; (have b4 := (G4.out.alloc _).grown hgrow3 (own_ne_type G5.out G4.out (by decide))); (have e4 := b4.cell (j := 0) rfl); (have f4 := b4.fz); (have HO3 := Lib.hid hown3); (have HG3 := Lib.hid hgrow3); (have H4 := Lib.hid b4); clear hown3 hgrow3 b4)
      have k1 : w3.heap[D + 1]? = some (.loop rb) := grown_keep HG3.out (heap_al G1.out) (own_not_loop G5.out G1.out)
      have k2 : w3.heap[D]? = some (.deferred (some [])) := grown_keep HG3.out (heap_al G2.out) (own_not_deferred G5.out G2.out)
      have k8 : RunsIn w3 (g0 + 1) (g0 + 2) g0 (g0 + 3) R U n G 0 n (.int .i64 tx) us u := (G8.out.on (one_alloc _ _)).own56 (World.ownsRow.alloc G5.out _) HG3.out
      have hsa : w.heap.size ≤ (W2.alloc (.cells #[.int .i64 x1, .int .i64 x2] 56)).heap.size := Nat.le_trans G7.out.size (by simp)
      have k7 : Below w.heap.size w w3 := (below_al G7.out _).grown HG3.out hsa (fun kk hk => Nat.le_trans HWB.out (G5.out.lt kk hk).1)
      obtain ⟨W9, hW9⟩ : ∃ W9, w3.setCell ⟨B, 0, none⟩ (.slice (some ⟨g', 0, none⟩) (pl + 1) cap') = W9 := ⟨_, rfl⟩
      have m1 : W9.heap[D + 1]? = some (.loop rb) := by rw [← hW9]; exact heap_far k1 (by omega)
      have m2 : W9.heap[D]? = some (.deferred (some [])) := by rw [← hW9]; exact heap_far k2 (by omega)
      have m4 : Blk W9 B [.slice (some ⟨g', 0, none⟩) (pl + 1) cap'] 32 := by rw [← hW9]; exact H4.out.set 0 _
      have m5 : W9.ownsRow B 56 2 (.slice (some ⟨g', 0, none⟩) (pl + 1) cap') (pl + 1) (rngV (pre ++ [(x1, x2)])) := by
        rw [← hW9, rngV_snoc]
        exact own_far HO3.out (own_ne_type HO3.out H4.out (by decide))
      have m7 : Below w.heap.size w W9 := by rw [← hW9]; exact below_st k7 HWB.out
      have m8 : RunsIn W9 (g0 + 1) (g0 + 2) g0 (g0 + 3) R U n G 0 n (.int .i64 tx) us u := by rw [← hW9]; exact k8.far32 H4.out
      have hlt9 := (Array.getElem?_eq_some_iff.1 m1).1
      rw [hW9]
      refine ⟨m1, ⟨World.putObj_heap_same hlt9, (putObj_block (by omega)).trans m2, ⟨.slice (some ⟨g', 0, none⟩) (pl + 1) cap', m4.put_loop m1, ?_⟩, m8.put_loop m1, putObj_below m7 (by omega) m7.size⟩⟩
      rw [List.length_append, HPL.out]
      exact putObj_own m5 (own_not_loop m5 m1)
  · rintro e W2 ⟨⟨v0, rfl⟩, hJ⟩
    rw [HR.out] at hJ
    have hend := run_endLoop (P := Try.prog) hJ.rec_ (by rw [HRD.out]; simp [recX])
    have hpd : rd.pending = none := by rw [HRD.out]; rfl
    obtain ⟨h1, h2, ⟨v, h4, h5⟩, h6, h7⟩ := hJ
    obtain ⟨Av, cv, rfl, hcv⟩ := own_is_slice h5
    obtain ⟨W4, hW4⟩ : ∃ W4, W2.putObj (D + 1) (.loop { rd with state := .exhausted }) = W4 := ⟨_, rfl⟩
    have g2 : W4.heap[D]? = some (.deferred (some [])) := by rw [← hW4]; exact (putObj_block (by omega)).trans h2
    have g4 : Blk W4 B [.slice Av A9.length cv] 32 := by rw [← hW4]; exact h4.put_loop h1
    have g5 : W4.ownsRow B 56 2 (.slice Av A9.length cv) A9.length (rngV A9) := by rw [← hW4]; exact putObj_own h5 (own_not_loop h5 h1)
    have g7 : Below w.heap.size w W4 := by rw [← hW4]; exact putObj_below h7 (by omega) h7.size
    have hend2 : (Instr.endLoop (D + 1)).run Try.prog W2 = .ok none W4 := by rw [hend, hW4, hpd]
    refine ⟨none, W4, hend2, ?_⟩
    have c0 := g4.cell (j := 0) rfl
    have G2 := Lib.hid g2
    have G5 := Lib.hid g5
    have G7 := Lib.hid g7
    clear hW4 h1 h2 h4 h5 h6 h7 g2 g4 g5 g7 hend hend2 hpd HRD hJ0
    simp only
    gi_wp2
    obtain ⟨W7, hW7⟩ : ∃ W7, W4.putObj D (.deferred none) = W7 := ⟨_, rfl⟩
    have f5 : W7.ownsRow B 56 2 (.slice Av A9.length cv) A9.length (rngV A9) := by rw [← hW7]; exact putObj_own G5.out (own_not_deferred G5.out G2.out)
    have f7 : Below w.heap.size w W7 := by rw [← hW7]; exact putObj_below G7.out hwD G7.out.size
    refine ⟨by simp, .inl ⟨D, W7, rfl, by rw [← hW7]; exact run_takeDeferred G2.out, ?_⟩⟩
    simp [LeavesInM, LeavesIn, settle, results, Try.results58, go_sem]
    exact ⟨Av, cv, ⟨rfl, rfl⟩, own_weak f5 HWB.out, f7⟩
end Go.Proofs.Ytibohhiebejbmaa
