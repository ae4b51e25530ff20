/- Walks: writer, put, end. -/
import Derived.Test.YtmlgjilflpdffaaWalkE
import Derived.Test.YtmlgjilflpdffaaPutModel
namespace Go.Proofs.Ytmlgjilflpdffaa
open Go.RowKit Go.Deep
set_option linter.unusedVariables false
set_option linter.unusedSimpArgs false

/-- The writer's four variables, from block n on, and the row of what was written. -/
structure WS (w : World) (n : Nat) (s : Wst) : Prop where
  ex : ∃ v, w.heap[n]? = some (.cells #[v] 22 (0, 0)) ∧ w.ownsRow (n + 4) 5 1 v s.out.length (nums8 s.out)
  b1 : w.heap[n + 1]? = some (.cells #[.int .i64 s.pos] 3 (0, 0))
  b2 : w.heap[n + 2]? = some (.cells #[.int .i64 s.inn] 3 (0, 0))
  b3 : w.heap[n + 3]? = some (.cells #[.int .i64 s.head] 3 (0, 0))

theorem one_cell {w : World} {b : Nat} {v : Value} {t : TypeId} (h : w.heap[b]? = some (.cells #[v] t (0, 0))) : w.cell? ⟨b, 0, none⟩ = some v ∧ w.frozen? ⟨b, 0, none⟩ = false ∧ b < w.heap.size :=
  ⟨by rw [cell_of_row _ _ _ _ _ _ h]; rfl, by simp [World.frozen?, h], (Array.getElem?_eq_some_iff.1 h).1⟩

theorem WS.below {w w' : World} {n : Nat} {s : Wst} (h : WS w n s) (hb : Below w.heap.size w w') : WS w' n s := by
  obtain ⟨⟨v, h0, h4⟩, h1, h2, h3⟩ := h
  have hl : ∀ {b : Nat} {o : Obj}, w.heap[b]? = some o → w'.heap[b]? = some o := fun {b o} hh => (hb.block b (Array.getElem?_eq_some_iff.1 hh).1).trans hh
  exact ⟨⟨v, hl h0, own_keep h4 hb⟩, hl h1, hl h2, hl h3⟩

theorem four_new (w : World) (a b c d : Obj) :
    ((((w.alloc a).alloc b).alloc c).alloc d).heap[w.heap.size]? = some a ∧ ((((w.alloc a).alloc b).alloc c).alloc d).heap[w.heap.size + 1]? = some b ∧
    ((((w.alloc a).alloc b).alloc c).alloc d).heap[w.heap.size + 2]? = some c ∧ ((((w.alloc a).alloc b).alloc c).alloc d).heap[w.heap.size + 3]? = some d := by
  have h1 := heap_alloc_new (w.alloc a) b
  have h2 := heap_alloc_new ((w.alloc a).alloc b) c
  have h3 := heap_alloc_new (((w.alloc a).alloc b).alloc c) d
  simp only [World.size_alloc] at h1 h2 h3
  refine ⟨?_, ?_, ?_, h3⟩
  · rw [heap_alloc_old _ _ (by simp only [World.size_alloc]; omega), heap_alloc_old _ _ (by simp only [World.size_alloc]; omega), heap_alloc_old _ _ (by simp only [World.size_alloc]; omega), heap_alloc_new]
  · rw [heap_alloc_old _ _ (by simp only [World.size_alloc]; omega), heap_alloc_old _ _ (by simp only [World.size_alloc]; omega), h1]
  · rw [heap_alloc_old _ _ (by simp only [World.size_alloc]; omega), h2]

set_option maxRecDepth 100000 in
set_option maxHeartbeats 1000000 in
theorem writer_any (w : World) :
    Calls Try.prog 34 #[] w fun e w' => e = .returned (.tuple #[.func (.func 48) #[] #[.pointer (some ⟨w.heap.size + 2, 0, none⟩), .pointer (some ⟨w.heap.size, 0, none⟩), .pointer (some ⟨w.heap.size + 3, 0, none⟩), .pointer (some ⟨w.heap.size + 1, 0, none⟩)], .func (.func 49) #[] #[.pointer (some ⟨w.heap.size, 0, none⟩)]]) ∧
      WS w' w.heap.size w0M ∧ Below w.heap.size w w' := by
  have hmf : ∀ (fn : Fn) (first cap : Array Value) (w : World), (Instr.makeFunc fn first cap).run Try.prog w = .ok (.func fn first cap) w := fun _ _ _ _ => rfl
  go_enter Try.func34, Try.ntmps34
  go_wp2
  go_ret2
  have hB : Below w.heap.size w ((((w.alloc (.cells #[.slice none 0 0] 22)).alloc (.cells #[.int .i64 0] 3)).alloc (.cells #[.int .i64 0] 3)).alloc (.cells #[.int .i64 0] 3)) := below_al (below_al (below_al (one_alloc _ _) _) _) _
  obtain ⟨e0, e1, e2, e3⟩ := four_new w (.cells #[.slice none 0 0] 22) (.cells #[.int .i64 0] 3) (.cells #[.int .i64 0] 3) (.cells #[.int .i64 0] 3)
  exact ⟨rfl, ⟨⟨_, e0, World.ownsRow_nil _ _ _ _⟩, e1, e2, e3⟩, hB⟩

set_option maxRecDepth 100000 in
set_option maxHeartbeats 1000000 in
theorem end_any (w : World) (n : Nat) (s : Wst) (h : WS w n s) :
    Calls Try.prog 49 #[.pointer (some ⟨n, 0, none⟩)] w fun e w' => ∃ v, e = .returned v ∧ w = w' ∧ w.ownsRow (n + 4) 5 1 v s.out.length (nums8 s.out) := by
  obtain ⟨v, h0, h4⟩ := h.ex
  have H4 := Lib.hid h4
  obtain ⟨hc0, hf0, hb0⟩ := one_cell h0
  clear h h0 h4
  go_enter Try.func49, Try.ntmps49
  go_wp2
  go_ret
  exact ⟨_, rfl, rfl, H4.out⟩

/-- A store into a block of one cell. -/
theorem one_put {w : World} {b : Nat} {v u : Value} {t : TypeId} (h : w.heap[b]? = some (.cells #[v] t (0, 0))) : (w.setCell ⟨b, 0, none⟩ u).heap[b]? = some (.cells #[u] t (0, 0)) := by
  have hb := (Array.getElem?_eq_some_iff.1 h).1
  simp only [World.setCell]
  rw [Array.getElem?_modify]
  simp [h]
theorem heap_far {w : World} {b b' : Nat} {u : Value} {o : Obj} (h : w.heap[b']? = some o) (hne : b' ≠ b) : (w.setCell ⟨b, 0, none⟩ u).heap[b']? = some o := (Below.heap_setCell w ⟨b, 0, none⟩ u b' hne).trans h

theorem own_drewN {w : World} {base : Nat} {e : TypeId} {size n m : Nat} {v : Value} {xs : List Value} (h : w.ownsRow base e size v n xs) : (w.drewN m).ownsRow base e size v n xs := h
theorem heap_al {w : World} {b : Nat} {o x : Obj} (h : w.heap[b]? = some o) : (w.alloc x).heap[b]? = some o := by
  rw [heap_alloc_old _ _ (Array.getElem?_eq_some_iff.1 h).1]; exact h
theorem grown_keep {W w3 : World} {row : Option Nat} {b : Nat} {o : Obj} (hg : W.grownBy w3 row) (h : W.heap[b]? = some o) (hrow : ∀ k, row = some k → k ≠ b) : w3.heap[b]? = some o :=
  (hg.block b (Array.getElem?_eq_some_iff.1 h).1 (fun e => hrow b e.symm rfl)).trans h

theorem pow8 (i : Int) (h0 : 0 ≤ i) (h7 : i < 8) : 1 ≤ (2 : Int) ^ i.toNat ∧ (2 : Int) ^ i.toNat ≤ 128 := by
  obtain ⟨n, rfl⟩ := Int.eq_ofNat_of_zero_le h0
  have : n = 0 ∨ n = 1 ∨ n = 2 ∨ n = 3 ∨ n = 4 ∨ n = 5 ∨ n = 6 ∨ n = 7 := by omega
  rcases this with rfl | rfl | rfl | rfl | rfl | rfl | rfl | rfl <;> decide
theorem or_head (b i : Int) (h0 : 0 ≤ i) (h7 : i < 8) (hb : 0 ≤ b) (hb1 : b < 2 ^ i.toNat) : bits .or .u8 b (2 ^ i.toNat) = b + 2 ^ i.toNat := by
  have hp := pow8 i h0 h7
  have h := bits_join .u8 8 (by decide) wraps_u8 i.toNat (2 ^ i.toNat) b (by omega) (Int.emod_self) (by omega) hb hb1 (by omega)
  have hc : bits .or .u8 b (2 ^ i.toNat) = bits .or .u8 (2 ^ i.toNat) b := by
    obtain ⟨x, hx⟩ := Int.eq_ofNat_of_zero_le hb
    obtain ⟨y, hy⟩ := Int.eq_ofNat_of_zero_le (show (0 : Int) ≤ 2 ^ i.toNat by omega)
    rw [hx, hy, (bits_nat .u8 8 (by decide) wraps_u8 x y (by omega) (by omega)).2, (bits_nat .u8 8 (by decide) wraps_u8 y x (by omega) (by omega)).2, Nat.or_comm]
  rw [hc, h]; omega

set_option maxRecDepth 100000 in
set_option maxHeartbeats 4000000 in
theorem put_any (w : World) (n : Nat) (s : Wst) (x : Tok) (q bad : Int) (h : WS w n s) (hn : n ≤ w.heap.size) (hok : Wok s) (hs : s.out.length ≤ 100000) (hv : validM x s.pos bad = .ok q) :
    Calls Try.prog 48 #[.agg #[.bool x.copy, .int .u8 x.byte, .int .i64 x.back, .int .i64 x.many], .pointer (some ⟨n + 2, 0, none⟩), .pointer (some ⟨n, 0, none⟩), .pointer (some ⟨n + 3, 0, none⟩), .pointer (some ⟨n + 1, 0, none⟩)] w fun e w' =>
      e = .returned (.tuple #[]) ∧ WS w' n (putM s x) ∧ Below n w w' := by
  obtain ⟨i5, h5i, h5z, h51, h5b⟩ := info_parts info5
  have HWS := Lib.hid h
  obtain ⟨⟨v, h0, hrow⟩, h1, h2, h3⟩ := h
  obtain ⟨A, cp, rfl, hcp, hRd, hblk⟩ := own_bytes hrow (by omega)
  clear hRd hblk
  obtain ⟨hc0, hf0, hb0⟩ := one_cell h0
  obtain ⟨hc1, hf1, hb1⟩ := one_cell h1
  obtain ⟨hc2, hf2, hb2⟩ := one_cell h2
  obtain ⟨hc3, hf3, hb3⟩ := one_cell h3
  have HR := Lib.hid hrow
  have HE := Lib.hid (And.intro h0 (And.intro h1 (And.intro h2 h3)))
  have HOK := Lib.hid hok
  have HV := Lib.hid hv
  obtain ⟨tc, tb, tk, tm⟩ := x
  clear h0 h1 h2 h3 hrow hok hv
  simp only
  have hp0 := HOK.out.p0
  have hi0 := HOK.out.i0
  have hi7 := HOK.out.i7
  go_enter Try.func48, Try.ntmps48
  go_upto_if 10 with (fail)
  go_cut [] (fun wc => Hid (WS wc n (openM s)) ∧ Hid (wc.heap[w.heap.size]? = some (.cells #[.bool tc, .int .u8 tb, .int .i64 tk, .int .i64 tm] 35 (0, 0))) ∧ Hid (Below n w wc) ∧ Hid (w.heap.size < wc.heap.size))
  case first =>
    by_cases hin : s.inn = 0
    · have hinb : (s.inn == 0) = true := by simpa using hin
      go_wp2_with (at_builtin; refine wpList_append_own _ rfl (.tmp 13) (.tmp 14) 22 rfl (n + 4) 5 i5 _ 1 1 Try.underlying22 h5i h5z h51 h5b rfl (by decide) _ s.out.length (nums8 s.out) rfl (by repeat (first | exact HR.out | apply World.ownsRow.alloc | (refine ownsRow_setCell_below ?_ (by simp) _))) ⟨w.heap.size + 1, 0, none⟩ 1 1 [.int .u8 0] rfl rfl (cell_new1 _ _ (by simp) _ _) (by simp [Value.oneCell']) (by simp only [maxLen]; omega) (by omega) (by simp; omega) ?_; intro v3 w3 hown3 hgrow3 _; obtain ⟨g3, cap3, rfl⟩ := ownsRow_succ hown3; obtain ⟨gc0, gf0⟩ := grown_block hgrow3 n (by simp; omega) (fun k hk => by have := (HR.out.lt k hk).1; omega))
      obtain ⟨e0, e1, e2, e3⟩ := HE.out
      have f1 := grown_keep hgrow3 (heap_al (heap_al (heap_far e1 (by omega)))) (fun k hk => by have := (HR.out.lt k hk).1; omega)
      have f2 := grown_keep hgrow3 (heap_al (heap_al (heap_far e2 (by omega)))) (fun k hk => by have := (HR.out.lt k hk).1; omega)
      have f3 := grown_keep hgrow3 (heap_al (heap_al (one_put e3))) (fun k hk => by have := (HR.out.lt k hk).1; omega)
      have f0 := grown_keep hgrow3 (heap_al (heap_al (heap_far e0 (by omega)))) (fun k hk => by have := (HR.out.lt k hk).1; omega)
      have fx := grown_keep hgrow3 (heap_al (heap_alloc_new _ _)) (fun k hk => by have := (HR.out.lt k hk).2; simp; omega)
      simp only [World.size_setCell] at fx
      go_meet
      case rel =>
        refine ⟨Lib.hid ?_, Lib.hid (heap_far fx (by omega)), Lib.hid ?_, Lib.hid ?_⟩
        · unfold openM
          rw [if_pos hin]
          exact ⟨⟨_, one_put f0, by rw [List.length_append, nums8_snoc]; exact own_st hown3 (by simp)⟩, heap_far f1 (by omega), heap_far f2 (by omega), heap_far f3 (by omega)⟩
        · exact ((((Below.refl n w).setCell (p := ⟨n + 3, 0, none⟩) (by simp) _).alloc (by simp; omega) _).alloc (by simp; omega) _).grown hgrow3 (by simp; omega) (fun k hk => by have := (HR.out.lt k hk).1; omega) |>.setCell (p := ⟨n, 0, none⟩) (Nat.le_refl _) _
        · have := hgrow3.size
          simp at this ⊢
          omega
    · go_wp2
      go_meet
      case rel => exact ⟨Lib.hid (by have hop : openM s = s := by unfold openM; rw [if_neg hin]
                                     rw [hop]; exact HWS.out.below (one_alloc _ _)), Lib.hid (heap_alloc_new _ _), Lib.hid ((Below.refl n w).alloc hn _), Lib.hid (by simp)⟩
  case rest =>
    obtain ⟨HWS1, HX, HBW, HLT⟩ := hcut
    have hop := open_ok HOK.out
    obtain ⟨s1, hs1⟩ : ∃ s1, openM s = s1 := ⟨_, rfl⟩
    have hpos1 : s1.pos = s.pos := by rw [← hs1]; unfold openM; split <;> rfl
    have hlen1 : s1.out.length ≤ 100001 := by
      rw [← hs1]
      unfold openM
      split
      · simp only [List.length_append, List.length_cons, List.length_nil]; omega
      · omega
    have HPUT : Hid (putM s ⟨tc, tb, tk, tm⟩ = laidM s1 ⟨tc, tb, tk, tm⟩) := Lib.hid (by unfold putM; rw [hs1])
    rw [hs1] at HWS1 hop
    have HV1 : Hid (validM ⟨tc, tb, tk, tm⟩ s1.pos bad = .ok q) := Lib.hid (by rw [hpos1]; exact HV.out)
    have hbn : n ≤ wc.heap.size := by have := HLT.out; omega
    clear hs1 hpos1 hc0 hf0 hc1 hf1 hc2 hf2 hc3 hf3 HE HOK HV HWS HR hb0 hb1 hb2 hb3 hp0 hi0 hi7 hcp
    obtain ⟨nb, hnb⟩ : ∃ nb, w.heap.size = nb := ⟨_, rfl⟩
    rw [hnb] at HX HLT ⊢
    obtain ⟨⟨v, h0, hrow⟩, h1, h2, h3⟩ := HWS1.out
    obtain ⟨A, cp, rfl, hcp, hRd, hblk⟩ := own_bytes hrow (by omega)
    obtain ⟨hc0, hf0, hb0⟩ := one_cell h0
    obtain ⟨hc1, hf1, hb1⟩ := one_cell h1
    obtain ⟨hc2, hf2, hb2⟩ := one_cell h2
    obtain ⟨hc3, hf3, hb3⟩ := one_cell h3
    have HE := Lib.hid (And.intro h0 (And.intro h1 (And.intro h2 h3)))
    have HR := Lib.hid hrow
    obtain ⟨hp0, hi0, hi7, hh0, hhl, hv0, hv1⟩ := hop
    have hx0 : wc.cell? ⟨nb, 0, none⟩ = some (.bool tc) := by rw [cell_of_row _ _ _ _ _ _ HX.out]; rfl
    have hx1 : wc.cell? ⟨nb, 1, none⟩ = some (.int .u8 tb) := by rw [cell_of_row _ _ _ _ _ _ HX.out]; rfl
    have hx2 : wc.cell? ⟨nb, 2, none⟩ = some (.int .i64 tk) := by rw [cell_of_row _ _ _ _ _ _ HX.out]; rfl
    have hx3 : wc.cell? ⟨nb, 3, none⟩ = some (.int .i64 tm) := by rw [cell_of_row _ _ _ _ _ _ HX.out]; rfl
    have hnbl := HLT.out
    clear h0 h1 h2 h3 hrow
    cases tc with
    | false =>
      clear hx2 hx3 hRd hblk
      have hps : s1.pos ≤ 3744 := by
        have h1 := HV1.out
        unfold validM at h1
        simp only [if_true] at h1
        repeat' split at h1
        all_goals first | (cases h1; done) | (cases h1; omega)
      have HV2 := Lib.hid (And.intro hv0 hv1)
      clear hv0 hv1
      go_wp2_with (at_builtin; refine wpList_append_own _ rfl (.tmp 53) (.tmp 56) 22 rfl (n + 4) 5 i5 _ 1 1 Try.underlying22 h5i h5z h51 h5b rfl (by decide) _ s1.out.length (nums8 s1.out) rfl (by repeat (first | exact HR.out | apply World.ownsRow.alloc | (refine ownsRow_setCell_below ?_ (by simp) _))) ⟨wc.heap.size, 0, none⟩ 1 1 [.int .u8 tb] rfl rfl (cell_new1 _ _ (by simp) _ _) (by simp [Value.oneCell']) (by simp only [maxLen]; omega) (by omega) (by simp; omega) ?_; intro v3 w3 hown3 hgrow3 _; obtain ⟨g3, cap3, rfl⟩ := ownsRow_succ hown3; obtain ⟨gc0, gf0⟩ := grown_block hgrow3 n (by simp; omega) (fun k hk => by have := (HR.out.lt k hk).1; omega); obtain ⟨gc1, gf1⟩ := grown_block hgrow3 (n + 1) (by simp; omega) (fun k hk => by have := (HR.out.lt k hk).1; omega); obtain ⟨gc2, gf2⟩ := grown_block hgrow3 (n + 2) (by simp; omega) (fun k hk => by have := (HR.out.lt k hk).1; omega))
      obtain ⟨e0, e1, e2, e3⟩ := HE.out
      have f0 := grown_keep hgrow3 (heap_al e0) (fun k hk => by have := (HR.out.lt k hk).1; omega)
      have f1 := grown_keep hgrow3 (heap_al e1) (fun k hk => by have := (HR.out.lt k hk).1; omega)
      have f2 := grown_keep hgrow3 (heap_al e2) (fun k hk => by have := (HR.out.lt k hk).1; omega)
      have f3 := grown_keep hgrow3 (heap_al e3) (fun k hk => by have := (HR.out.lt k hk).1; omega)
      have fb : Below n w w3 := (HBW.out.alloc (by have := HBW.out.size; omega) _).grown hgrow3 (by have := HBW.out.size; simp; omega) (fun k hk => by have := (HR.out.lt k hk).1; omega)
      go_end0
      refine ⟨rfl, ?_, by repeat (first | exact fb | (refine Below.setCell ?_ (by simp) _))⟩
      rw [HPUT.out]
      simp only [laidM, Bool.false_eq_true, if_false]
      exact ⟨⟨_, by repeat (first | exact f0 | (refine heap_far ?_ (by omega)) | apply one_put), by rw [List.length_append, nums8_snoc]; repeat (first | exact hown3 | (refine own_st ?_ (by simp)))⟩,
        by repeat (first | exact f1 | (refine heap_far ?_ (by omega)) | apply one_put), by repeat (first | exact f2 | (refine heap_far ?_ (by omega)) | apply one_put), by repeat (first | exact f3 | (refine heap_far ?_ (by omega)) | apply one_put)⟩
    | true =>
      have hz : 1 ≤ tk ∧ tk ≤ s1.pos ∧ 3 ≤ tm ∧ tm ≤ reach s1.pos ∧ s1.pos + tm ≤ 3744 := by
        have h1 := HV1.out
        unfold validM at h1
        simp only [Bool.true_eq_false, if_false] at h1
        repeat' split at h1
        all_goals first | (cases h1; done) | (cases h1; omega)
      obtain ⟨hk1, hk2, hm3, hmr, hpm⟩ := hz
      have hps : s1.pos ≤ 3744 := by omega
      have hgp := gap_pow s1.pos
      have hg := gap_bd s1.pos
      have hw := widN_bd s1.pos
      obtain ⟨G, hG⟩ : ∃ G, gap s1.pos = G := ⟨_, rfl⟩
      have hreach : tm ≤ G + 2 := by rw [← hG]; exact hmr
      have hkG : 0 ≤ (tk - 1) * G ∧ (tk - 1) * G + tm - 3 ≤ 65535 := by
        rw [← hG]
        exact cpy_bd s1.pos tk tm (by omega) hk1 hk2 hmr
      have HG := Lib.hid hG
      rw [hG] at hgp hg
      clear hG hmr
      go_wp2_with (first | (go_at_call 31; refine (shape_any _ _ (by omega)).mono ?_; rintro e w' ⟨rfl, ⟨m, rfl⟩⟩))
      go_quiet (fail)
      go_wp2
      obtain ⟨ad, rfl, hcell⟩ := hRd.at_ s1.head.toNat (by omega)
      obtain ⟨had, hab, has⟩ := hblk ad rfl
      obtain ⟨ab, ao, asp⟩ := ad
      simp only at had hab has
      subst had has
      rw [Addr.add_lit, Nat.zero_add] at hcell
      have hfz := HR.out.frozenAt s1.head.toNat
      obtain ⟨hb, hhb⟩ : ∃ hb, s1.out.getD s1.head.toNat 0 = hb := ⟨_, rfl⟩
      rw [hhb] at hcell hv0 hv1
      have hp2 := pow8 s1.inn hi0 hi7
      have hor := or_head hb s1.inn hi0 hi7 hv0 hv1
      have hwr : IntKind.u8.wrap (2 ^ s1.inn.toNat) = 2 ^ s1.inn.toNat := by rw [IntKind.wrap_u8]; omega
      have hne : ab ≠ n ∧ ab ≠ n + 1 ∧ ab ≠ n + 2 ∧ ab ≠ n + 3 := by omega
      have HH := Lib.hid hhb
      clear hhb hRd hblk
      go_region
      have hst := (HR.out : (wc.drewN (m + nq + 1)).ownsRow _ _ _ _ _ _).stored s1.head.toNat (.int .u8 (hb + 2 ^ s1.inn.toNat))
      obtain ⟨o4, ho4⟩ : ∃ o4, s1.out.set s1.head.toNat (hb + 2 ^ s1.inn.toNat) = o4 := ⟨_, rfl⟩
      have ho4l : Hid (s1.out.length = o4.length) := Lib.hid (by rw [← ho4]; simp)
      obtain ⟨W4, hW4⟩ : ∃ W4, (wc.drewN (m + nq + 1)).setCell ⟨ab, s1.head.toNat, none⟩ (.int .u8 (hb + 2 ^ s1.inn.toNat)) = W4 := ⟨_, rfl⟩
      have hfar : ∀ b, b ≠ ab → W4.heap[b]? = wc.heap[b]? := fun b hne => by rw [← hW4]; exact Below.heap_setCell _ _ _ _ hne
      have hs4 : W4.heap.size = wc.heap.size := by rw [← hW4]; simp
      have HR4 : Hid (W4.ownsRow (n + 4) 5 1 (.slice (some ⟨ab, 0, none⟩) s1.out.length cp) s1.out.length (nums8 o4)) := Lib.hid (by
        rw [← ho4, ← hW4]
        have e : nums8 (s1.out.set s1.head.toNat (hb + 2 ^ s1.inn.toNat)) = (nums8 s1.out).set s1.head.toNat (.int .u8 (hb + 2 ^ s1.inn.toNat)) := by simp [nums8, List.map_set]
        rw [e]
        exact hst.1)
      obtain ⟨e0, e1, e2, e3⟩ := HE.out
      have hab2 : nb ≠ ab := own_ne_type HR.out HX.out (by decide) ab rfl |>.symm
      have d0 := (hfar n (by omega)).trans e0
      have d1 := (hfar (n + 1) (by omega)).trans e1
      have d2 := (hfar (n + 2) (by omega)).trans e2
      have d3 := (hfar (n + 3) (by omega)).trans e3
      have dx := (hfar nb hab2).trans HX.out
      have HB4 : Hid (Below n w W4) := Lib.hid (by rw [← hW4]; exact (below_drewN HBW.out _).setCell (by simp; omega) _)
      rw [hW4]
      have HO4 := Lib.hid ho4
      clear hst ho4 hW4 hfar hc0 hf0 hb0 hc1 hf1 hb1 hc2 hf2 hb2 hc3 hf3 hb3 hx0 hx1 hx2 hx3 e0 e1 e2 e3 HE hcell hfz hor hwr hv0 hv1 HR
      obtain ⟨hc0, hf0, hb0⟩ := one_cell d0
      obtain ⟨hc1, hf1, hb1⟩ := one_cell d1
      obtain ⟨hc2, hf2, hb2⟩ := one_cell d2
      have hx3 : W4.cell? ⟨nb, 3, none⟩ = some (.int .i64 tm) := by rw [cell_of_row _ _ _ _ _ _ dx]; rfl
      have hnb4 : nb < W4.heap.size := by omega
      have HE := Lib.hid (And.intro d0 (And.intro d1 (And.intro d2 d3)))
      have HX4 := Lib.hid dx
      have HS4 := Lib.hid hs4
      clear d0 d1 d2 d3 dx hs4
      go_wp2_with (at_builtin; refine wpList_append_own _ rfl (.tmp 41) (.tmp 47) 22 rfl (n + 4) 5 i5 _ 1 1 Try.underlying22 h5i h5z h51 h5b rfl (by decide) _ s1.out.length (nums8 o4) rfl (by repeat (first | exact HR4.out | apply World.ownsRow.alloc)) ⟨W4.heap.size, 0, none⟩ 2 2 [.int .u8 (((tk - 1) * G + tm - 3) % 256), .int .u8 (((tk - 1) * G + tm - 3) / 256)] rfl rfl (cells_new _ _ (by simp) [.int .u8 (((tk - 1) * G + tm - 3) % 256), .int .u8 (((tk - 1) * G + tm - 3) / 256)] _) (by simp [Value.oneCell']) (by simp only [maxLen]; omega) (by omega) (by simp; omega) ?_; intro v3 w3 hown3 hgrow3 _; obtain ⟨g3, cap3, rfl⟩ := ownsRow_succ hown3; obtain ⟨gc0, gf0⟩ := grown_block hgrow3 n (by simp; omega) (fun k hk => by have := (HR4.out.lt k hk).1; omega); obtain ⟨gc1, gf1⟩ := grown_block hgrow3 (n + 1) (by simp; omega) (fun k hk => by have := (HR4.out.lt k hk).1; omega); obtain ⟨gc2, gf2⟩ := grown_block hgrow3 (n + 2) (by simp; omega) (fun k hk => by have := (HR4.out.lt k hk).1; omega); obtain ⟨gcx, gfx⟩ := grown_block hgrow3 nb (by simp; omega) (fun k hk => own_ne_type HR4.out HX4.out (by decide) k hk))
      obtain ⟨e0, e1, e2, e3⟩ := HE.out
      have f0 := grown_keep hgrow3 (heap_al e0) (fun k hk => by have := (HR4.out.lt k hk).1; omega)
      have f1 := grown_keep hgrow3 (heap_al e1) (fun k hk => by have := (HR4.out.lt k hk).1; omega)
      have f2 := grown_keep hgrow3 (heap_al e2) (fun k hk => by have := (HR4.out.lt k hk).1; omega)
      have f3 := grown_keep hgrow3 (heap_al e3) (fun k hk => by have := (HR4.out.lt k hk).1; omega)
      have fb : Below n w w3 := (HB4.out.alloc (by have := HB4.out.size; omega) _).grown hgrow3 (by have := HB4.out.size; simp; omega) (fun k hk => by have := (HR4.out.lt k hk).1; omega)
      go_end0
      refine ⟨rfl, ?_, by repeat (first | exact fb | (refine Below.setCell ?_ (by simp) _))⟩
      rw [HPUT.out]
      simp only [laidM, if_true]
      rw [HH.out, HO4.out, HG.out]
      exact ⟨⟨_, by repeat (first | exact f0 | (refine heap_far ?_ (by omega)) | apply one_put), by rw [List.length_append, nums8_append, ← ho4l.out]; repeat (first | exact hown3 | (refine own_st ?_ (by simp)))⟩,
        by repeat (first | exact f1 | (refine heap_far ?_ (by omega)) | apply one_put), by repeat (first | exact f2 | (refine heap_far ?_ (by omega)) | apply one_put), by repeat (first | exact f3 | (refine heap_far ?_ (by omega)) | apply one_put)⟩
end Go.Proofs.Ytmlgjilflpdffaa
