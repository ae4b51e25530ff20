/- Walks: guarded, at any function value. -/
import Derived.Test.YtibohhiebejbmaaGo
import Derived.Sort.CutIn
import Derived.Shelf.Abstract
import Derived.Test.YtibohhiebejbmaaGc
namespace Go.Proofs.Ytibohhiebejbmaa
open Go.RowKit Go.Deep Go.Shelf
set_option linter.unusedVariables false
set_option linter.unusedSimpArgs false
set_option maxRecDepth 100000

/-- What is left when some cells of a guarded frame are written. -/
structure Far (W w' : World) : Prop where
  size : W.heap.size ≤ w'.heap.size
  blk : ∀ g cs t, t ≠ 32 → t ≠ 35 → t ≠ 3 → t ≠ 4 → Blk W g cs t → Blk w' g cs t
  own : ∀ base n v xs, W.ownsRow base 56 2 v n xs → w'.ownsRow base 56 2 v n xs
theorem Far.refl (W : World) : Far W W := ⟨Nat.le_refl _, fun _ _ _ _ _ _ _ h => h, fun _ _ _ _ h => h⟩
theorem Far.trans {W W1 W2 : World} (h : Far W W1) (k : Far W1 W2) : Far W W2 :=
  ⟨Nat.le_trans h.size k.size, fun g cs t h1 h2 h3 h4 hb => k.blk g cs t h1 h2 h3 h4 (h.blk g cs t h1 h2 h3 h4 hb), fun b n v xs ho => k.own b n v xs (h.own b n v xs ho)⟩
theorem Far.below {W w' : World} (h : Below W.heap.size W w') : Far W w' := ⟨h.size, fun g cs t _ _ _ _ hb => hb.on h, fun b n v xs ho => own_keep ho h⟩
theorem Far.set {W : World} {B t : Nat} {v u : Value} (h : Blk W B [v] t) (ht : t = 32 ∨ t = 35 ∨ t = 3 ∨ t = 4) : Far W (W.setCell ⟨B, 0, none⟩ u) := by
  refine ⟨by rw [World.size_setCell]; exact Nat.le_refl _, fun g cs t' h1 h2 h3 h4 hb => hb.far (p := ⟨B, 0, none⟩) (hb.ne h (by rintro rfl; rcases ht with h9 | h9 | h9 | h9 <;> contradiction)) u, fun b n v' xs ho => own_far ho ?_⟩
  exact own_ne_type ho h (by rintro rfl; rcases ht with h9 | h9 | h9 | h9 <;> revert h9 <;> decide)
theorem Far.drew (W : World) : Far W W.drew := .below (below_drew1 (Below.refl _ _))
theorem Sp.far {W W' : World} {G A n : Nat} {b : List Int} (h : Sp W G A n b) (hb : Far W W') : Sp W' G A n b := by
  obtain ⟨⟨bad, h1⟩, ⟨cs, h2, h3, h4⟩, h5, h6⟩ := h
  refine ⟨⟨bad, hb.blk _ _ _ (by decide) (by decide) (by decide) (by decide) h1⟩, ⟨cs, hb.blk _ _ _ (by decide) (by decide) (by decide) (by decide) h2, h3, fun v hv => ?_⟩, h5, h6⟩
  rcases h4 v hv with h | ⟨g, h, k⟩
  · exact Or.inl h
  · exact Or.inr ⟨g, h, hb.blk _ _ _ (by decide) (by decide) (by decide) (by decide) k⟩
/-- The world in which a guarded frame calls. -/
def gW (t : Nat) (z : Value) (w : World) : World := (w.alloc (.cells #[z] t)).alloc (.cells #[.int .i64 0] 35)

set_option maxHeartbeats 8000000 in
theorem guarded41_any (F : Nat) (caps : Array Value) (hF : ∀ (args : Array Value) (w : World), (callFunc F args).run Try.prog w = .ok (.enter F args) w) (w : World) (row : Option Nat) (hrow : ∀ k, row = some k → k < w.heap.size) (R : Ending → World → Prop)
    (hc : Calls Try.prog F caps (gW 32 (.slice none 0 0) w) R)
    (hR : ∀ e W', R e W' → (gW 32 (.slice none 0 0) w).grownBy W' row ∧ ((∃ A n c, e = .returned (.slice A n c)) ∨ ∃ k, e = gaveUp k)) :
    Calls Try.prog 41 #[.func (.func F) #[] caps] w fun x w' => ∃ e W', R e W' ∧ Far W' w' ∧ w.grownBy w' row ∧
      ((∃ A n c, e = .returned (.slice A n c) ∧ x = .returned (.tuple #[.slice A n c, .int .i64 0])) ∨ ∃ k, e = gaveUp k ∧ x = .returned (.tuple #[.slice none 0 0, .int .i64 k])) := by
  refine (callsIn_wide (n := 4)).1 ?_
  have HC := Lib.hid hc
  have HR := Lib.hid hR
  have HROW := Lib.hid hrow
  clear hc hR hrow
  refine callsIn_of_wp_marks Try.func41 rfl trivial ?_ rfl
  simp only [Try.ntmps41, List.size_toArray, List.length_cons, List.length_nil, Nat.reduceAdd, Nat.reduceSub, Array.replicate_succ, Array.replicate_zero, List.push_toArray, List.append_toArray, List.nil_append, List.cons_append]
  obtain ⟨B, hB⟩ : ∃ B, w.heap.size = B := ⟨_, rfl⟩
  have HB := Lib.hid hB
  gi_upto_region 2 with (fail)
  obtain ⟨W0, hW0⟩ : ∃ W, (w.alloc (.cells #[.slice none 0 0] 32)).alloc (.cells #[.int .i64 0] 35) = W := ⟨_, rfl⟩
  have K1 : Hid (Blk W0 B [.slice none 0 0] 32) := Lib.hid (by rw [← hW0, ← hB]; exact (Blk.new w [_] _).alloc _)
  have K2 : Hid (Blk W0 (B + 1) [.int .i64 0] 35) := Lib.hid (by
    have h := Blk.new (w.alloc (.cells #[.slice none 0 0] 32)) [.int .i64 0] 35
    rw [World.size_alloc, hB] at h
    rw [← hW0]
    exact h)
  have HB0 : Hid (Below w.heap.size w W0) := Lib.hid (by rw [← hW0]; exact below_al (one_alloc _ _) _)
  have HC0 : Hid (Calls Try.prog F caps W0 R) := Lib.hid (by rw [← hW0]; exact HC.out)
  have HR0 : Hid (∀ e W', R e W' → W0.grownBy W' row ∧ ((∃ A n c, e = .returned (.slice A n c)) ∨ ∃ k, e = gaveUp k)) := Lib.hid (by rw [← hW0]; exact HR.out)
  rw [hW0]
  clear hW0 hB HC HR
  gi_wp2_with (fail)
  refine ⟨trivial, (callsIn_wide.2 HC0.out).mono ?_⟩
  intro e W' hr
  have HRW := Lib.hid hr
  obtain ⟨hg, hcase⟩ := HR0.out e W' hr
  have HG := Lib.hid hg
  have hne1 : ∀ k, row = some k → k ≠ B := fun k hk => by have := HROW.out k hk; rw [HB.out] at this; omega
  have hne2 : ∀ k, row = some k → k ≠ B + 1 := fun k hk => by have := HROW.out k hk; rw [HB.out] at this; omega
  have K1' : Hid (Blk W' B [.slice none 0 0] 32) := Lib.hid (K1.out.grown hg hne1)
  have K2' : Hid (Blk W' (B + 1) [.int .i64 0] 35) := Lib.hid (K2.out.grown hg hne2)
  have HGW : Hid (w.grownBy W' row) := Lib.hid (grown_then (grown_of_below HB0.out _) hg)
  have k1 := K1'.out.cell (j := 0) rfl
  have k2 := K2'.out.cell (j := 0) rfl
  have f1 := K1'.out.fz
  have f2 := K2'.out.fz
  have eg := enters_of Try.func66 (by kernel_rfl) rfl
  clear hr hg hne1 hne2
  rcases hcase with ⟨A, n, c, rfl⟩ | ⟨k, rfl⟩
  · simp only
    gi_wp2
    obtain ⟨W6, hW6⟩ : ∃ W, (W'.setCell ⟨B, 0, none⟩ (.slice A n c)).setCell ⟨B + 1, 0, none⟩ (.int .i64 0) = W := ⟨_, rfl⟩
    have q1 : Blk (W'.setCell ⟨B, 0, none⟩ (.slice A n c)) (B + 1) [.int .i64 0] 35 := K2'.out.far (by simp) _
    have M1 : Blk W6 B [.slice A n c] 32 := by rw [← hW6]; exact (K1'.out.set 0 _).far (by simp) _
    have M2 : Blk W6 (B + 1) [.int .i64 0] 35 := by rw [← hW6]; exact q1.set 0 _
    have MF : Hid (Far W' W6) := Lib.hid (by rw [← hW6]; exact (Far.set K1'.out (by decide)).trans (Far.set q1 (by decide)))
    have MG : Hid (w.grownBy W6 row) := Lib.hid (by rw [← hW6]; exact grown_own (grown_own HGW.out (grown_set _ _ _ _) (by rw [HB.out]; exact Nat.le_refl _)) (grown_set _ _ _ _) (by rw [HB.out]; omega))
    rw [hW6]
    clear hW6 k1 k2 f1 f2 q1
    have d0 := M1.cell (j := 0) rfl
    have d1 := M2.cell (j := 0) rfl
    refine ⟨by simp, .inr ⟨fun _ => by omega, .func 66, #[.pointer (some ⟨B, 0, none⟩), .pointer (some ⟨B + 1, 0, none⟩)], 66, #[.pointer (some ⟨B, 0, none⟩), .pointer (some ⟨B + 1, 0, none⟩)], rfl, by simp [invoke, go_sem, eg], fun _ _ => trivial, ?_⟩⟩
    refine (guard66_idle 3 _ _ W6).mono ?_
    rintro e u' w' ⟨rfl, rfl, rfl⟩
    have hres : (results Try.f41 #[.func (.func F) #[] caps, undef, .pointer (some ⟨B, 0, none⟩), .pointer (some ⟨B + 1, 0, none⟩), .func (.func 66) #[] #[.pointer (some ⟨B, 0, none⟩), .pointer (some ⟨B + 1, 0, none⟩)], .func (.func F) #[] caps, .slice A n c]).run Try.prog w' = .ok (.tuple #[.slice A n c, .int .i64 0]) w' := by
      simp [results, Try.results41, go_sem, d0, d1]
    refine ⟨_, hres, _, W', HRW.out, MF.out, MG.out, .inl ⟨A, n, c, rfl, rfl⟩⟩
  · simp only [gaveUp]
    gi_wp2
    refine ⟨by simp, .inr ⟨fun _ => by omega, .func 66, #[.pointer (some ⟨B, 0, none⟩), .pointer (some ⟨B + 1, 0, none⟩)], 66, #[.pointer (some ⟨B, 0, none⟩), .pointer (some ⟨B + 1, 0, none⟩)], rfl, by simp [invoke, go_sem, eg], fun _ _ => trivial, ?_⟩⟩
    refine (guard66_panicking 3 B (B + 1) (.slice none 0 0) (.int .i64 0) k [] W' K1'.out K2'.out).mono ?_
    rintro e u' w' ⟨rfl, rfl, W9, hb9, hw9⟩
    have p1 : Blk W9 B [.slice none 0 0] 32 := K1'.out.on hb9
    have p2 : Blk W9 (B + 1) [.int .i64 0] 35 := K2'.out.on hb9
    have q1 : Blk (W9.setCell ⟨B, 0, none⟩ (.slice none 0 0)) (B + 1) [.int .i64 0] 35 := p2.far (by simp) _
    have M1 : Blk w' B [.slice none 0 0] 32 := by rw [hw9]; exact Blk.drew ((p1.set 0 _).far (by simp) _)
    have M2 : Blk w' (B + 1) [.int .i64 k] 35 := by rw [hw9]; exact Blk.drew (q1.set 0 _)
    have MF : Far W' w' := by rw [hw9]; exact (((Far.below hb9).trans (Far.set p1 (by decide))).trans (Far.set q1 (by decide))).trans (Far.drew _)
    have MG : w.grownBy w' row := by
      rw [hw9]
      exact grown_then (grown_own (grown_own (grown_then HGW.out (grown_of_below hb9 _)) (grown_set _ _ _ _) (by rw [HB.out]; exact Nat.le_refl _)) (grown_set _ _ _ _) (by rw [HB.out]; omega)) (grown_of_below (below_drew1 (Below.refl _ _)) _)
    have d0 := M1.cell (j := 0) rfl
    have d1 := M2.cell (j := 0) rfl
    have hres : (results Try.f41 #[.func (.func F) #[] caps, undef, .pointer (some ⟨B, 0, none⟩), .pointer (some ⟨B + 1, 0, none⟩), .func (.func 66) #[] #[.pointer (some ⟨B, 0, none⟩), .pointer (some ⟨B + 1, 0, none⟩)], .func (.func F) #[] caps, undef]).run Try.prog w' = .ok (.tuple #[.slice none 0 0, .int .i64 k]) w' := by
      simp [results, Try.results41, go_sem, d0, d1]
    refine ⟨_, hres, _, W', HRW.out, MF, MG, .inr ⟨k, rfl, rfl⟩⟩

set_option maxHeartbeats 8000000 in
theorem guarded52_any (F : Nat) (caps : Array Value) (hF : ∀ (args : Array Value) (w : World), (callFunc F args).run Try.prog w = .ok (.enter F args) w) (w : World) (row : Option Nat) (hrow : ∀ k, row = some k → k < w.heap.size) (R : Ending → World → Prop)
    (hc : Calls Try.prog F caps (gW 3 (.int .i64 0) w) R)
    (hR : ∀ e W', R e W' → (gW 3 (.int .i64 0) w).grownBy W' row ∧ ((∃ z, e = .returned (.int .i64 z)) ∨ ∃ k, e = gaveUp k)) :
    Calls Try.prog 52 #[.func (.func F) #[] caps] w fun x w' => ∃ e W', R e W' ∧ Far W' w' ∧ w.grownBy w' row ∧
      ((∃ z, e = .returned (.int .i64 z) ∧ x = .returned (.tuple #[.int .i64 z, .int .i64 0])) ∨ ∃ k, e = gaveUp k ∧ x = .returned (.tuple #[.int .i64 0, .int .i64 k])) := by
  refine (callsIn_wide (n := 4)).1 ?_
  have HC := Lib.hid hc
  have HR := Lib.hid hR
  have HROW := Lib.hid hrow
  clear hc hR hrow
  refine callsIn_of_wp_marks Try.func52 rfl trivial ?_ rfl
  simp only [Try.ntmps52, List.size_toArray, List.length_cons, List.length_nil, Nat.reduceAdd, Nat.reduceSub, Array.replicate_succ, Array.replicate_zero, List.push_toArray, List.append_toArray, List.nil_append, List.cons_append]
  obtain ⟨B, hB⟩ : ∃ B, w.heap.size = B := ⟨_, rfl⟩
  have HB := Lib.hid hB
  gi_upto_region 2 with (fail)
  obtain ⟨W0, hW0⟩ : ∃ W, (w.alloc (.cells #[.int .i64 0] 3)).alloc (.cells #[.int .i64 0] 35) = W := ⟨_, rfl⟩
  have K1 : Hid (Blk W0 B [.int .i64 0] 3) := Lib.hid (by rw [← hW0, ← hB]; exact (Blk.new w [_] _).alloc _)
  have K2 : Hid (Blk W0 (B + 1) [.int .i64 0] 35) := Lib.hid (by
    have h := Blk.new (w.alloc (.cells #[.int .i64 0] 3)) [.int .i64 0] 35
    rw [World.size_alloc, hB] at h
    rw [← hW0]
    exact h)
  have HB0 : Hid (Below w.heap.size w W0) := Lib.hid (by rw [← hW0]; exact below_al (one_alloc _ _) _)
  have HC0 : Hid (Calls Try.prog F caps W0 R) := Lib.hid (by rw [← hW0]; exact HC.out)
  have HR0 : Hid (∀ e W', R e W' → W0.grownBy W' row ∧ ((∃ z, e = .returned (.int .i64 z)) ∨ ∃ k, e = gaveUp k)) := Lib.hid (by rw [← hW0]; exact HR.out)
  rw [hW0]
  clear hW0 hB HC HR
  gi_wp2_with (fail)
  refine ⟨trivial, (callsIn_wide.2 HC0.out).mono ?_⟩
  intro e W' hr
  have HRW := Lib.hid hr
  obtain ⟨hg, hcase⟩ := HR0.out e W' hr
  have HG := Lib.hid hg
  have hne1 : ∀ k, row = some k → k ≠ B := fun k hk => by have := HROW.out k hk; rw [HB.out] at this; omega
  have hne2 : ∀ k, row = some k → k ≠ B + 1 := fun k hk => by have := HROW.out k hk; rw [HB.out] at this; omega
  have K1' : Hid (Blk W' B [.int .i64 0] 3) := Lib.hid (K1.out.grown hg hne1)
  have K2' : Hid (Blk W' (B + 1) [.int .i64 0] 35) := Lib.hid (K2.out.grown hg hne2)
  have HGW : Hid (w.grownBy W' row) := Lib.hid (grown_then (grown_of_below HB0.out _) hg)
  have k1 := K1'.out.cell (j := 0) rfl
  have k2 := K2'.out.cell (j := 0) rfl
  have f1 := K1'.out.fz
  have f2 := K2'.out.fz
  have eg := enters_of Try.func77 (by kernel_rfl) rfl
  clear hr hg hne1 hne2
  rcases hcase with ⟨z, rfl⟩ | ⟨k, rfl⟩
  · simp only
    gi_wp2
    obtain ⟨W6, hW6⟩ : ∃ W, (W'.setCell ⟨B, 0, none⟩ (.int .i64 z)).setCell ⟨B + 1, 0, none⟩ (.int .i64 0) = W := ⟨_, rfl⟩
    have q1 : Blk (W'.setCell ⟨B, 0, none⟩ (.int .i64 z)) (B + 1) [.int .i64 0] 35 := K2'.out.far (by simp) _
    have M1 : Blk W6 B [.int .i64 z] 3 := by rw [← hW6]; exact (K1'.out.set 0 _).far (by simp) _
    have M2 : Blk W6 (B + 1) [.int .i64 0] 35 := by rw [← hW6]; exact q1.set 0 _
    have MF : Hid (Far W' W6) := Lib.hid (by rw [← hW6]; exact (Far.set K1'.out (by decide)).trans (Far.set q1 (by decide)))
    have MG : Hid (w.grownBy W6 row) := Lib.hid (by rw [← hW6]; exact grown_own (grown_own HGW.out (grown_set _ _ _ _) (by rw [HB.out]; exact Nat.le_refl _)) (grown_set _ _ _ _) (by rw [HB.out]; omega))
    rw [hW6]
    clear hW6 k1 k2 f1 f2 q1
    have d0 := M1.cell (j := 0) rfl
    have d1 := M2.cell (j := 0) rfl
    refine ⟨by simp, .inr ⟨fun _ => by omega, .func 77, #[.pointer (some ⟨B, 0, none⟩), .pointer (some ⟨B + 1, 0, none⟩)], 77, #[.pointer (some ⟨B, 0, none⟩), .pointer (some ⟨B + 1, 0, none⟩)], rfl, by simp [invoke, go_sem, eg], fun _ _ => trivial, ?_⟩⟩
    refine (guard77_idle 3 _ _ W6).mono ?_
    rintro e u' w' ⟨rfl, rfl, rfl⟩
    have hres : (results Try.f52 #[.func (.func F) #[] caps, undef, .pointer (some ⟨B, 0, none⟩), .pointer (some ⟨B + 1, 0, none⟩), .func (.func 77) #[] #[.pointer (some ⟨B, 0, none⟩), .pointer (some ⟨B + 1, 0, none⟩)], .func (.func F) #[] caps, .int .i64 z]).run Try.prog w' = .ok (.tuple #[.int .i64 z, .int .i64 0]) w' := by
      simp [results, Try.results52, go_sem, d0, d1]
    refine ⟨_, hres, _, W', HRW.out, MF.out, MG.out, .inl ⟨z, rfl, rfl⟩⟩
  · simp only [gaveUp]
    gi_wp2
    refine ⟨by simp, .inr ⟨fun _ => by omega, .func 77, #[.pointer (some ⟨B, 0, none⟩), .pointer (some ⟨B + 1, 0, none⟩)], 77, #[.pointer (some ⟨B, 0, none⟩), .pointer (some ⟨B + 1, 0, none⟩)], rfl, by simp [invoke, go_sem, eg], fun _ _ => trivial, ?_⟩⟩
    refine (guard77_panicking 3 B (B + 1) (.int .i64 0) (.int .i64 0) k [] W' K1'.out K2'.out).mono ?_
    rintro e u' w' ⟨rfl, rfl, W9, hb9, hw9⟩
    have p1 : Blk W9 B [.int .i64 0] 3 := K1'.out.on hb9
    have p2 : Blk W9 (B + 1) [.int .i64 0] 35 := K2'.out.on hb9
    have q1 : Blk (W9.setCell ⟨B, 0, none⟩ (.int .i64 0)) (B + 1) [.int .i64 0] 35 := p2.far (by simp) _
    have M1 : Blk w' B [.int .i64 0] 3 := by rw [hw9]; exact Blk.drew ((p1.set 0 _).far (by simp) _)
    have M2 : Blk w' (B + 1) [.int .i64 k] 35 := by rw [hw9]; exact Blk.drew (q1.set 0 _)
    have MF : Far W' w' := by rw [hw9]; exact (((Far.below hb9).trans (Far.set p1 (by decide))).trans (Far.set q1 (by decide))).trans (Far.drew _)
    have MG : w.grownBy w' row := by
      rw [hw9]
      exact grown_then (grown_own (grown_own (grown_then HGW.out (grown_of_below hb9 _)) (grown_set _ _ _ _) (by rw [HB.out]; exact Nat.le_refl _)) (grown_set _ _ _ _) (by rw [HB.out]; omega)) (grown_of_below (below_drew1 (Below.refl _ _)) _)
    have d0 := M1.cell (j := 0) rfl
    have d1 := M2.cell (j := 0) rfl
    have hres : (results Try.f52 #[.func (.func F) #[] caps, undef, .pointer (some ⟨B, 0, none⟩), .pointer (some ⟨B + 1, 0, none⟩), .func (.func 77) #[] #[.pointer (some ⟨B, 0, none⟩), .pointer (some ⟨B + 1, 0, none⟩)], .func (.func F) #[] caps, undef]).run Try.prog w' = .ok (.tuple #[.int .i64 0, .int .i64 k]) w' := by
      simp [results, Try.results52, go_sem, d0, d1]
    refine ⟨_, hres, _, W', HRW.out, MF, MG, .inr ⟨k, rfl, rfl⟩⟩

set_option maxHeartbeats 8000000 in
theorem guarded55_any (F : Nat) (caps : Array Value) (hF : ∀ (args : Array Value) (w : World), (callFunc F args).run Try.prog w = .ok (.enter F args) w) (w : World) (row : Option Nat) (hrow : ∀ k, row = some k → k < w.heap.size) (R : Ending → World → Prop)
    (hc : Calls Try.prog F caps (gW 4 (.bool false) w) R)
    (hR : ∀ e W', R e W' → (gW 4 (.bool false) w).grownBy W' row ∧ ((∃ b, e = .returned (.bool b)) ∨ ∃ k, e = gaveUp k)) :
    Calls Try.prog 55 #[.func (.func F) #[] caps] w fun x w' => ∃ e W', R e W' ∧ Far W' w' ∧ w.grownBy w' row ∧
      ((∃ b, e = .returned (.bool b) ∧ x = .returned (.tuple #[.bool b, .int .i64 0])) ∨ ∃ k, e = gaveUp k ∧ x = .returned (.tuple #[.bool false, .int .i64 k])) := by
  refine (callsIn_wide (n := 4)).1 ?_
  have HC := Lib.hid hc
  have HR := Lib.hid hR
  have HROW := Lib.hid hrow
  clear hc hR hrow
  refine callsIn_of_wp_marks Try.func55 rfl trivial ?_ rfl
  simp only [Try.ntmps55, List.size_toArray, List.length_cons, List.length_nil, Nat.reduceAdd, Nat.reduceSub, Array.replicate_succ, Array.replicate_zero, List.push_toArray, List.append_toArray, List.nil_append, List.cons_append]
  obtain ⟨B, hB⟩ : ∃ B, w.heap.size = B := ⟨_, rfl⟩
  have HB := Lib.hid hB
  gi_upto_region 2 with (fail)
  obtain ⟨W0, hW0⟩ : ∃ W, (w.alloc (.cells #[.bool false] 4)).alloc (.cells #[.int .i64 0] 35) = W := ⟨_, rfl⟩
  have K1 : Hid (Blk W0 B [.bool false] 4) := Lib.hid (by rw [← hW0, ← hB]; exact (Blk.new w [_] _).alloc _)
  have K2 : Hid (Blk W0 (B + 1) [.int .i64 0] 35) := Lib.hid (by
    have h := Blk.new (w.alloc (.cells #[.bool false] 4)) [.int .i64 0] 35
    rw [World.size_alloc, hB] at h
    rw [← hW0]
    exact h)
  have HB0 : Hid (Below w.heap.size w W0) := Lib.hid (by rw [← hW0]; exact below_al (one_alloc _ _) _)
  have HC0 : Hid (Calls Try.prog F caps W0 R) := Lib.hid (by rw [← hW0]; exact HC.out)
  have HR0 : Hid (∀ e W', R e W' → W0.grownBy W' row ∧ ((∃ b, e = .returned (.bool b)) ∨ ∃ k, e = gaveUp k)) := Lib.hid (by rw [← hW0]; exact HR.out)
  rw [hW0]
  clear hW0 hB HC HR
  gi_wp2_with (fail)
  refine ⟨trivial, (callsIn_wide.2 HC0.out).mono ?_⟩
  intro e W' hr
  have HRW := Lib.hid hr
  obtain ⟨hg, hcase⟩ := HR0.out e W' hr
  have HG := Lib.hid hg
  have hne1 : ∀ k, row = some k → k ≠ B := fun k hk => by have := HROW.out k hk; rw [HB.out] at this; omega
  have hne2 : ∀ k, row = some k → k ≠ B + 1 := fun k hk => by have := HROW.out k hk; rw [HB.out] at this; omega
  have K1' : Hid (Blk W' B [.bool false] 4) := Lib.hid (K1.out.grown hg hne1)
  have K2' : Hid (Blk W' (B + 1) [.int .i64 0] 35) := Lib.hid (K2.out.grown hg hne2)
  have HGW : Hid (w.grownBy W' row) := Lib.hid (grown_then (grown_of_below HB0.out _) hg)
  have k1 := K1'.out.cell (j := 0) rfl
  have k2 := K2'.out.cell (j := 0) rfl
  have f1 := K1'.out.fz
  have f2 := K2'.out.fz
  have eg := enters_of Try.func78 (by kernel_rfl) rfl
  clear hr hg hne1 hne2
  rcases hcase with ⟨b, rfl⟩ | ⟨k, rfl⟩
  · simp only
    gi_wp2
    obtain ⟨W6, hW6⟩ : ∃ W, (W'.setCell ⟨B, 0, none⟩ (.bool b)).setCell ⟨B + 1, 0, none⟩ (.int .i64 0) = W := ⟨_, rfl⟩
    have q1 : Blk (W'.setCell ⟨B, 0, none⟩ (.bool b)) (B + 1) [.int .i64 0] 35 := K2'.out.far (by simp) _
    have M1 : Blk W6 B [.bool b] 4 := by rw [← hW6]; exact (K1'.out.set 0 _).far (by simp) _
    have M2 : Blk W6 (B + 1) [.int .i64 0] 35 := by rw [← hW6]; exact q1.set 0 _
    have MF : Hid (Far W' W6) := Lib.hid (by rw [← hW6]; exact (Far.set K1'.out (by decide)).trans (Far.set q1 (by decide)))
    have MG : Hid (w.grownBy W6 row) := Lib.hid (by rw [← hW6]; exact grown_own (grown_own HGW.out (grown_set _ _ _ _) (by rw [HB.out]; exact Nat.le_refl _)) (grown_set _ _ _ _) (by rw [HB.out]; omega))
    rw [hW6]
    clear hW6 k1 k2 f1 f2 q1
    have d0 := M1.cell (j := 0) rfl
    have d1 := M2.cell (j := 0) rfl
    refine ⟨by simp, .inr ⟨fun _ => by omega, .func 78, #[.pointer (some ⟨B, 0, none⟩), .pointer (some ⟨B + 1, 0, none⟩)], 78, #[.pointer (some ⟨B, 0, none⟩), .pointer (some ⟨B + 1, 0, none⟩)], rfl, by simp [invoke, go_sem, eg], fun _ _ => trivial, ?_⟩⟩
    refine (guard78_idle 3 _ _ W6).mono ?_
    rintro e u' w' ⟨rfl, rfl, rfl⟩
    have hres : (results Try.f55 #[.func (.func F) #[] caps, undef, .pointer (some ⟨B, 0, none⟩), .pointer (some ⟨B + 1, 0, none⟩), .func (.func 78) #[] #[.pointer (some ⟨B, 0, none⟩), .pointer (some ⟨B + 1, 0, none⟩)], .func (.func F) #[] caps, .bool b]).run Try.prog w' = .ok (.tuple #[.bool b, .int .i64 0]) w' := by
      simp [results, Try.results55, go_sem, d0, d1]
    refine ⟨_, hres, _, W', HRW.out, MF.out, MG.out, .inl ⟨b, rfl, rfl⟩⟩
  · simp only [gaveUp]
    gi_wp2
    refine ⟨by simp, .inr ⟨fun _ => by omega, .func 78, #[.pointer (some ⟨B, 0, none⟩), .pointer (some ⟨B + 1, 0, none⟩)], 78, #[.pointer (some ⟨B, 0, none⟩), .pointer (some ⟨B + 1, 0, none⟩)], rfl, by simp [invoke, go_sem, eg], fun _ _ => trivial, ?_⟩⟩
    refine (guard78_panicking 3 B (B + 1) (.bool false) (.int .i64 0) k [] W' K1'.out K2'.out).mono ?_
    rintro e u' w' ⟨rfl, rfl, W9, hb9, hw9⟩
    have p1 : Blk W9 B [.bool false] 4 := K1'.out.on hb9
    have p2 : Blk W9 (B + 1) [.int .i64 0] 35 := K2'.out.on hb9
    have q1 : Blk (W9.setCell ⟨B, 0, none⟩ (.bool false)) (B + 1) [.int .i64 0] 35 := p2.far (by simp) _
    have M1 : Blk w' B [.bool false] 4 := by rw [hw9]; exact Blk.drew ((p1.set 0 _).far (by simp) _)
    have M2 : Blk w' (B + 1) [.int .i64 k] 35 := by rw [hw9]; exact Blk.drew (q1.set 0 _)
    have MF : Far W' w' := by rw [hw9]; exact (((Far.below hb9).trans (Far.set p1 (by decide))).trans (Far.set q1 (by decide))).trans (Far.drew _)
    have MG : w.grownBy w' row := by
      rw [hw9]
      exact grown_then (grown_own (grown_own (grown_then HGW.out (grown_of_below hb9 _)) (grown_set _ _ _ _) (by rw [HB.out]; exact Nat.le_refl _)) (grown_set _ _ _ _) (by rw [HB.out]; omega)) (grown_of_below (below_drew1 (Below.refl _ _)) _)
    have d0 := M1.cell (j := 0) rfl
    have d1 := M2.cell (j := 0) rfl
    have hres : (results Try.f55 #[.func (.func F) #[] caps, undef, .pointer (some ⟨B, 0, none⟩), .pointer (some ⟨B + 1, 0, none⟩), .func (.func 78) #[] #[.pointer (some ⟨B, 0, none⟩), .pointer (some ⟨B + 1, 0, none⟩)], .func (.func F) #[] caps, undef]).run Try.prog w' = .ok (.tuple #[.bool false, .int .i64 k]) w' := by
      simp [results, Try.results55, go_sem, d0, d1]
    refine ⟨_, hres, _, W', HRW.out, MF, MG, .inr ⟨k, rfl, rfl⟩⟩

end Go.Proofs.Ytibohhiebejbmaa
/- Walks: open in one contract; the runs of a table. -/
namespace Go.Proofs.Ytibohhiebejbmaa
open Go.RowKit Go.Deep Go.Shelf
set_option linter.unusedVariables false
set_option linter.unusedSimpArgs false
set_option maxRecDepth 100000
attribute [local go_sem] Oper.semAt_some

/-- A right bitmap of n pages. -/
structure OkB (b : List Int) (n : Nat) : Prop where
  lo : 4 ≤ n
  hi : n ≤ 1536
  b0 : bitB b 0 = true
  b1 : bitB b 1 = true
  b2 : bitB b 2 = true
  out : ∀ i, n ≤ i → i < 3744 → bitB b i = false
theorem run_end (f : Nat → Bool) (z : Nat) : ∀ (k a : Nat), a + k = z → 0 < k → f a = true → ∃ e, a < e ∧ e ≤ z ∧ (∀ j, a ≤ j → j < e → f j = true) ∧ (e = z ∨ f e = false)
  | 0, a, h, h0, hf => by omega
  | k + 1, a, h, h0, hf => by
    by_cases hk : 0 < k
    · cases h2 : f (a + 1) with
      | false => exact ⟨a + 1, by omega, by omega, fun j h3 h4 => by rw [show j = a by omega]; exact hf, .inr h2⟩
      | true =>
        obtain ⟨e, h3, h4, h5, h6⟩ := run_end f z k (a + 1) (by omega) hk h2
        refine ⟨e, by omega, h4, fun j h7 h8 => ?_, h6⟩
        by_cases hj : j = a
        · rw [hj]; exact hf
        · exact h5 j (by omega) h8
    · exact ⟨a + 1, by omega, by omega, fun j h3 h4 => by rw [show j = a by omega]; exact hf, .inl (by omega)⟩
theorem OkB.runs {b : List Int} {n : Nat} (h : OkB b n) : ∃ k rest, RR (bitB b) 0 3744 = (0, k) :: rest ∧ 3 ≤ k ∧ ∀ x ∈ (0, k) :: rest, x.1 + x.2 ≤ n := by
  obtain ⟨e, h1, h2, h3, h4⟩ := run_end (bitB b) 3744 3744 0 (by omega) (by omega) h.b0
  have hR := RR_run (bitB b) h1 h2 h3 h4
  rw [Nat.sub_zero] at hR
  refine ⟨e, _, hR, ?_, ?_⟩
  · by_cases he1 : e = 1
    · subst he1; rcases h4 with h | h5; omega; rw [h.b1] at h5; cases h5
    · by_cases he2 : e = 2
      · subst he2; rcases h4 with h | h5; omega; rw [h.b2] at h5; cases h5
      · omega
  · intro x hx
    rw [← hR] at hx
    have h5 := RR_in _ _ _ x hx
    have h6 := (RR_mem (bitB b) 0 3744 (x.1 + x.2 - 1)).1 ⟨x, hx, by omega, by omega⟩
    by_cases h7 : n ≤ x.1 + x.2 - 1
    · have := h.out _ h7 h6.2.1
      rw [h6.2.2] at this; cases this
    · omega
theorem okB_of {b : List Int} {n k : Nat} {rest : List (Nat × Nat)} (hn : 4 ≤ n) (hn2 : n ≤ 1536) (hR : RR (bitB b) 0 3744 = (0, k) :: rest) (hk : 3 ≤ k) (hall : ∀ x ∈ (0, k) :: rest, x.1 + x.2 ≤ n) : OkB b n := by
  have hm : ∀ i, i < 3 → bitB b i = true := fun i hi => ((RR_mem (bitB b) 0 3744 i).1 ⟨(0, k), by rw [hR]; exact List.mem_cons_self, by simp, by simp; omega⟩).2.2
  refine ⟨hn, hn2, hm 0 (by omega), hm 1 (by omega), hm 2 (by omega), fun i h1 h2 => ?_⟩
  cases hb : bitB b i with
  | false => rfl
  | true =>
    obtain ⟨x, hx, h3, h4⟩ := (RR_mem (bitB b) 0 3744 i).2 ⟨by omega, h2, hb⟩
    rw [hR] at hx
    have := hall x hx
    omega

theorem open_good (G A n : Nat) (b : List Int) (tx : Nat) (w : World) (h : Sp w G A n b) (hk : OkB b n) :
    Calls Try.prog 43 #[.iface 26 (.pointer (some ⟨G, 0, none⟩)), .int .i64 tx] w fun e w' => ∃ R U, e = .returned (.pointer (some ⟨R, 0, none⟩)) ∧ Rm w' R U n G (.int .i64 tx) (usM b n) ∧ Below w.heap.size w w' ∧ w.heap.size ≤ R ∧ w.heap.size ≤ U := by
  obtain ⟨k, rest, h1, h2, h3⟩ := hk.runs
  exact callsIn_wide.1 (open_ok 8 (Nat.le_refl _) G A n b tx w h hk.lo hk.hi k rest h1 h2 h3)
/-- What open gives up with. -/
def openE (n : Nat) : Int := if n ≤ 1 then 24 else 9
theorem open_bad (G A n : Nat) (b : List Int) (tx : Nat) (w : World) (h : Sp w G A n b) (hn : n ≤ 1000000) (hk : ¬ OkB b n) :
    Calls Try.prog 43 #[.iface 26 (.pointer (some ⟨G, 0, none⟩)), .int .i64 tx] w fun e w' => e = gaveUp (openE n) ∧ Below w.heap.size w w' := by
  by_cases h1 : n ≤ 1
  · rw [show openE n = 24 from if_pos h1]
    exact callsIn_wide.1 (open_small 8 (Nat.le_refl _) G A n b tx w h h1)
  rw [show openE n = 9 from if_neg h1]
  by_cases h2 : 4 ≤ n ∧ n ≤ 1536
  · cases hR : RR (bitB b) 0 3744 with
    | nil => exact callsIn_wide.1 (open_none 8 (Nat.le_refl _) G A n b tx w h h2.1 h2.2 hR)
    | cons x rest =>
      obtain ⟨s, k⟩ := x
      by_cases hs : s = 0
      · subst hs
        by_cases h3 : 3 ≤ k
        · by_cases h4 : ∀ x ∈ (0, k) :: rest, x.1 + x.2 ≤ n
          · exact absurd (okB_of h2.1 h2.2 hR h3 h4) hk
          · refine callsIn_wide.1 (open_beyond 8 (Nat.le_refl _) G A n b tx w h h2.1 h2.2 k rest hR h3 ?_)
            rw [Classical.not_forall] at h4
            obtain ⟨x, h5⟩ := h4
            rw [Classical.not_imp] at h5
            exact ⟨x, h5.1, by omega⟩
        · exact callsIn_wide.1 (open_short 8 (Nat.le_refl _) G A n b tx w h h2.1 h2.2 k rest hR (by omega))
      · exact callsIn_wide.1 (open_late 8 (Nat.le_refl _) G A n b tx w h h2.1 h2.2 s k rest hR hs)
  · exact callsIn_wide.1 (open_misfit 8 (Nat.le_refl _) G A n b tx w h (by omega) h2 hn)

/-- Where a table says u. -/
def eqB (us : List Bool) (u : Bool) (i : Nat) : Bool := us.getD i false == u
/-- What a table that is ranged over needs. -/
structure RunsIn (W : World) (gf gt gr gu R U n G a z : Nat) (tx : Value) (us : List Bool) (u : Bool) : Prop where
  f : Blk W gf [.int .i64 a] 3
  t : Blk W gt [.int .i64 z] 3
  r : Blk W gr [.pointer (some ⟨R, 0, none⟩)] 76
  u : Blk W gu [.bool u] 4
  m : Rm W R U n G tx us
theorem RunsIn.on {W W' : World} {gf gt gr gu R U n G a z : Nat} {tx : Value} {us : List Bool} {u : Bool} (h : RunsIn W gf gt gr gu R U n G a z tx us u) (hb : Below W.heap.size W W') : RunsIn W' gf gt gr gu R U n G a z tx us u :=
  ⟨h.f.on hb, h.t.on hb, h.r.on hb, h.u.on hb, h.m.on hb⟩

set_option maxHeartbeats 8000000 in
theorem rruns1_in (m : Nat) (hm : 1 ≤ m) (l gf gt gr gu R U n G a z : Nat) (tx : Value) (us : List Bool) (u : Bool) (hto : z ≤ n) (hn : n ≤ 1000000) (J : List (Nat × Nat) → World → Prop)
    (hJ : ∀ pre W W', J pre W → Below W.heap.size W W' → J pre W') (hJb : ∀ pre W, J pre W → RunsIn W gf gt gr gu R U n G a z tx us u)
    (hY : ∀ pre (x : Nat × Nat) W, J pre W → x.1 + x.2 ≤ z → pre.length < z → YieldAt Fence.wide (m - 1) Try.prog l #[.agg #[.int .i64 x.1, .int .i64 x.2]] W fun e W' => e = .returned (.bool true) ∧ J (pre ++ [x]) W')
    (W : World) (h0 : J [] W) :
    CallsIn Fence.wide m Try.prog 79 #[.func (.yield l) #[] #[], .pointer (some ⟨gf, 0, none⟩), .pointer (some ⟨gt, 0, none⟩), .pointer (some ⟨gr, 0, none⟩), .pointer (some ⟨gu, 0, none⟩)] W fun e W' => (∃ v, e = .returned v) ∧ J (RR (eqB us u) a z) W' := by
  obtain ⟨A, hA⟩ : ∃ A, RR (eqB us u) a z = A := ⟨_, rfl⟩
  rw [hA]
  have HAL : Hid (A.length ≤ z - a) := Lib.hid (by rw [← hA]; exact RR_len _ _ _)
  have HA : Hid (([] : List (Nat × Nat)) ++ RR (eqB us u) a z = A) := Lib.hid (by rw [List.nil_append]; exact hA)
  have HJ0 := Lib.hid h0
  have HJG := Lib.hid hJ
  have HJB := Lib.hid hJb
  have HHY := Lib.hid hY
  have HLN : Hid (us.length = n) := Lib.hid (hJb _ _ h0).m.len
  have p0 := (hJb _ _ h0).f.cell (j := 0) rfl
  clear hA h0 hJ hJb hY
  refine callsIn_of_wp Try.func79 rfl trivial ?_ rfl
  simp only [Try.ntmps79, List.size_toArray, List.length_cons, List.length_nil, Nat.reduceAdd, Nat.reduceSub, Array.replicate_succ, Array.replicate_zero, List.push_toArray, List.append_toArray, List.nil_append, List.cons_append]
  gi_wp2
  clear p0
  gi_loopg [6] (z + 1) (fun kq v wr => ∃ (i : Nat) (pre : List (Nat × Nat)), v = .int .i64 i ∧ a ≤ i ∧ z - i < kq ∧ Hid (pre ++ RR (eqB us u) i z = A) ∧ Hid (J pre wr))
  case atStart => exact ⟨a, [], by simp, by omega, by omega, HA, HJ0⟩
  case round =>
    clear HA HJ0
    obtain ⟨i, pre, rfl, hi, hkq, HA, HJ⟩ := hrel
    have hbi := HJB.out pre _ HJ.out
    have c0 := hbi.t.cell (j := 0) rfl
    by_cases hlt : i < z
    · have hlti : (i : Int) < (z : Int) := by omega
      clear hbi
      gi_wp2
      clear c0
      gi_loopg [7] (z - i) (fun k2 v wr => ∃ e : Nat, v = .int .i64 e ∧ i ≤ e ∧ e ≤ z ∧ z - e ≤ k2 ∧ Hid (∀ j, i ≤ j → j < e → eqB us u j = true) ∧ Hid (J pre wr))
      case atStart => exact ⟨i, rfl, by omega, by omega, by omega, Lib.hid fun j h1 h2 => by omega, HJ⟩
      case round =>
        clear HJ
        obtain ⟨e, rfl, hie, he, hk2, HE, HJ⟩ := hrel
        have hbi := HJB.out pre _ HJ.out
        have c0 := hbi.t.cell (j := 0) rfl
        have c1 := hbi.r.cell (j := 0) rfl
        have c2 := hbi.u.cell (j := 0) rfl
        have c3 := hbi.m.obj.cell (j := 2) rfl
        by_cases hlt2 : e < z
        · have hlti2 : (e : Int) < (z : Int) := by omega
          have hltn : (e : Int) < (n : Int) := by omega
          have c4 := hbi.m.row.cell (j := e) (boolsV_get (by rw [hbi.m.len]; omega))
          have hei : IntKind.i64.wrap ((e : Int) + 1) = ((e + 1 : Nat) : Int) := i64_is (by omega) (by omega)
          by_cases hbit : us.getD e false = u
          · rw [hbit] at c4
            have HBIT : Hid (eqB us u e = true) := Lib.hid (by unfold eqB; rw [hbit]; simp)
            clear hbit hbi
            gi_wp2
            refine wpIn_wide.2 ?_
            go_region
            all_goals gi_wp2
            gi_roundg (z - (e + 1))
            case measure => omega
            case rel => exact ⟨e + 1, by simp, by omega, by omega, by omega, Lib.hid fun j h1 h2 => by by_cases hj : j = e; (rw [hj]; exact HBIT.out); exact HE.out j h1 (by omega), Lib.hid (HJG.out pre _ _ HJ.out (below_drew1 (Below.refl _ _)))⟩
          · have hbit2 : us.getD e false = !u := by cases h9 : us.getD e false <;> cases u <;> simp_all
            have HBIT : Hid (eqB us u e = false) := Lib.hid (by unfold eqB; rw [hbit2]; cases u <;> rfl)
            rw [hbit2] at c4
            clear hbit hbi hbit2 hei
            have HJ5 := Lib.hid (HJG.out pre _ _ HJ.out (below_drew1 (Below.refl wr.heap.size wr)))
            by_cases hie2 : i < e
            · have HA2 : Hid ((pre ++ [(i, e - i)]) ++ RR (eqB us u) e z = A) := Lib.hid (by have h9 := HA.out; rw [RR_run (eqB us u) hie2 he HE.out (.inr HBIT.out)] at h9; simpa using h9)
              have hlen8 : pre.length < z := by
                have h7 := HA2.out
                have h8 := HAL.out
                rw [← h7] at h8
                simp only [List.length_append, List.length_cons, List.length_nil] at h8
                omega
              have hie3 : (i : Int) < (e : Int) := by omega
              have hsub : (e : Int) - (i : Int) = ((e - i : Nat) : Int) := by omega
              obtain ⟨fn, tmps, assign, body, hy, hRR⟩ := HHY.out pre (i, e - i) wr.drew HJ5.out (by show i + (e - i) ≤ z; omega) hlen8
              have hy2 : (Instr.yield l #[.agg #[.int .i64 i, .int .i64 ((e : Int) - (i : Int))]]).run Try.prog wr.drew = .ok (.round l fn tmps assign body) wr.drew := by rw [hsub]; exact hy
              have HRR := Lib.hid hRR
              have hmx : max (e : Int) ((i : Int) + 1) = ((e : Nat) : Int) := by omega
              clear hRR hy hsub
              gi_wp2
              refine wpIn_wide.2 ?_
              go_region
              all_goals gi_wp2
              refine HRR.out.mono ?_
              rintro e6 W6 ⟨rfl, hJ6⟩
              have HJ6 := Lib.hid hJ6
              clear hJ6 hy2 HRR
              gi_wp2
              gi_roundg (z - e + 1)
              case measure => omega
              case rel => exact ⟨e, pre ++ [(i, e - i)], by simp, by omega, by omega, HA2, HJ6⟩
            · have hee : e = i := by omega
              subst hee
              have HA2 : Hid (pre ++ RR (eqB us u) (e + 1) z = A) := Lib.hid (by have h9 := HA.out; rw [RR_false (eqB us u) hlt2 HBIT.out] at h9; exact h9)
              have hmx : max (e : Int) ((e : Int) + 1) = ((e + 1 : Nat) : Int) := by omega
              have hei : IntKind.i64.wrap ((e : Int) + 1) = ((e + 1 : Nat) : Int) := i64_is (by omega) (by omega)
              gi_wp2
              refine wpIn_wide.2 ?_
              go_region
              all_goals gi_wp2
              refine ⟨by simp, ?_⟩
              go_at_K
              gi_wp2
              gi_roundg (z - (e + 1) + 1)
              case measure => omega
              case rel => exact ⟨e + 1, pre, by simp, by omega, by omega, HA2, HJ5⟩
        · have hez : e = z := by omega
          have hlti2 : ¬ (e : Int) < (z : Int) := by omega
          have HEZ : Hid (e = z ∨ eqB us u e = false) := Lib.hid (.inl hez)
          clear hbi c1 c2 c3 hez
          have HJ5 := Lib.hid (HJG.out pre _ _ HJ.out (below_drew1 (Below.refl wr.heap.size wr)))
          by_cases hie2 : i < e
          · have HA2 : Hid ((pre ++ [(i, e - i)]) ++ RR (eqB us u) e z = A) := Lib.hid (by have h9 := HA.out; rw [RR_run (eqB us u) hie2 he HE.out HEZ.out] at h9; simpa using h9)
            have hlen8 : pre.length < z := by
              have h7 := HA2.out
              have h8 := HAL.out
              rw [← h7] at h8
              simp only [List.length_append, List.length_cons, List.length_nil] at h8
              omega
            have hie3 : (i : Int) < (e : Int) := by omega
            have hsub : (e : Int) - (i : Int) = ((e - i : Nat) : Int) := by omega
            obtain ⟨fn, tmps, assign, body, hy, hRR⟩ := HHY.out pre (i, e - i) wr.drew HJ5.out (by show i + (e - i) ≤ z; omega) hlen8
            have hy2 : (Instr.yield l #[.agg #[.int .i64 i, .int .i64 ((e : Int) - (i : Int))]]).run Try.prog wr.drew = .ok (.round l fn tmps assign body) wr.drew := by rw [hsub]; exact hy
            have HRR := Lib.hid hRR
            have hmx : max (e : Int) ((i : Int) + 1) = ((e : Nat) : Int) := by omega
            clear hRR hy hsub
            gi_wp2
            refine wpIn_wide.2 ?_
            go_region
            all_goals gi_wp2
            refine HRR.out.mono ?_
            rintro e6 W6 ⟨rfl, hJ6⟩
            have HJ6 := Lib.hid hJ6
            clear hJ6 hy2 HRR
            gi_wp2
            gi_roundg (z - e + 1)
            case measure => omega
            case rel => exact ⟨e, pre ++ [(i, e - i)], by simp, by omega, by omega, HA2, HJ6⟩
          · have hee : e = i := by omega
            subst hee
            omega
    · have hlti : ¬ (i : Int) < (z : Int) := by omega
      have HA2 : Hid (pre = A) := Lib.hid (by have h9 := HA.out; rw [RR_none _ (by omega)] at h9; simpa using h9)
      clear hbi
      gi_wp2
      go_end0
      exact ⟨⟨_, rfl⟩, by rw [← HA2.out]; exact HJ.out⟩
/-- The method runs: a function value over the cells of its own variables. -/
theorem runs59_any (R a z : Nat) (u : Bool) (w : World) : Calls Try.prog 59 #[.pointer (some ⟨R, 0, none⟩), .int .i64 a, .int .i64 z, .bool u] w fun e w' =>
    e = .returned (.func (.func 79) #[] #[.pointer (some ⟨w.heap.size + 1, 0, none⟩), .pointer (some ⟨w.heap.size + 2, 0, none⟩), .pointer (some ⟨w.heap.size, 0, none⟩), .pointer (some ⟨w.heap.size + 3, 0, none⟩)]) ∧
    w' = (((w.alloc (.cells #[.pointer (some ⟨R, 0, none⟩)] 76)).alloc (.cells #[.int .i64 a] 3)).alloc (.cells #[.int .i64 z] 3)).alloc (.cells #[.bool u] 4) := by
  go_enter Try.func59, Try.ntmps59
  go_wp2
  go_ret
  exact ⟨rfl, rfl⟩
theorem runs59_in {R U n G a z : Nat} {tx : Value} {us : List Bool} {u : Bool} {w : World} (h : Rm w R U n G tx us) :
    RunsIn ((((w.alloc (.cells #[.pointer (some ⟨R, 0, none⟩)] 76)).alloc (.cells #[.int .i64 a] 3)).alloc (.cells #[.int .i64 z] 3)).alloc (.cells #[.bool u] 4)) (w.heap.size + 1) (w.heap.size + 2) w.heap.size (w.heap.size + 3) R U n G a z tx us u := by
  refine ⟨?_, ?_, ?_, ?_, ?_⟩
  · have h := Blk.new (w.alloc (.cells #[.pointer (some ⟨R, 0, none⟩)] 76)) [.int .i64 a] 3
    rw [World.size_alloc] at h
    exact (h.alloc _).alloc _
  · have h := Blk.new ((w.alloc (.cells #[.pointer (some ⟨R, 0, none⟩)] 76)).alloc (.cells #[.int .i64 a] 3)) [.int .i64 z] 3
    rw [World.size_alloc, World.size_alloc] at h
    exact h.alloc _
  · exact (((Blk.new w [.pointer (some ⟨R, 0, none⟩)] 76).alloc _).alloc _).alloc _
  · have h := Blk.new (((w.alloc (.cells #[.pointer (some ⟨R, 0, none⟩)] 76)).alloc (.cells #[.int .i64 a] 3)).alloc (.cells #[.int .i64 z] 3)) [.bool u] 4
    rw [World.size_alloc, World.size_alloc, World.size_alloc] at h
    exact h
  · exact h.on (below_al (below_al (below_al (one_alloc _ _) _) _) _)
end Go.Proofs.Ytibohhiebejbmaa
/- Walks: best, at any list of extents and any way to compare. -/
namespace Go.Proofs.Ytibohhiebejbmaa
open Go.RowKit Go.Deep Go.Shelf
set_option linter.unusedVariables false
set_option linter.unusedSimpArgs false
set_option maxRecDepth 100000
attribute [local go_sem] Oper.semAt_some

abbrev Ext2 := Nat × Nat
/-- One extent more is looked at. -/
def bestStep (bt : Ext2 → Ext2 → Bool) (s : Ext2 × Bool) (x : Ext2) : Ext2 × Bool := if !s.2 || bt x s.1 then (x, true) else s
/-- The best of extents, and whether there is one. -/
def bestS (bt : Ext2 → Ext2 → Bool) (l : List Ext2) : Ext2 × Bool := l.foldl (bestStep bt) ((0, 0), false)
theorem bestS_snoc (bt : Ext2 → Ext2 → Bool) (l : List Ext2) (x : Ext2) : bestS bt (l ++ [x]) = bestStep bt (bestS bt l) x := by simp [bestS]

/-- Between two extents. -/
structure BJ (w : World) (B : Nat) (rd : Loop) (F : Nat) (caps : Array Value) (bt : Ext2 → Ext2 → Bool) (pre : List Ext2) (W : World) : Prop where
  rec_ : W.heap[B + 4]? = some (.loop rd)
  def_ : W.heap[B + 3]? = some (.deferred (some []))
  box : Blk W B [.func (.func F) #[] caps] 110
  out : Blk W (B + 1) [.int .i64 (bestS bt pre).1.1, .int .i64 (bestS bt pre).1.2] 56
  is : Blk W (B + 2) [.bool (bestS bt pre).2] 4
  below : Below B w W
theorem BJ.lt {w W : World} {B : Nat} {rd : Loop} {F : Nat} {caps : Array Value} {bt : Ext2 → Ext2 → Bool} {pre : List Ext2} (h : BJ w B rd F caps bt pre W) : B + 4 < W.heap.size := (Array.getElem?_eq_some_iff.1 h.rec_).1
theorem BJ.on {w W W' : World} {B : Nat} {rd : Loop} {F : Nat} {caps : Array Value} {bt : Ext2 → Ext2 → Bool} {pre : List Ext2} (h : BJ w B rd F caps bt pre W) (hb : Below W.heap.size W W') : BJ w B rd F caps bt pre W' :=
  ⟨below_heap h.rec_ hb, below_heap h.def_ hb, h.box.on hb, h.out.on hb, h.is.on hb, below_then h.below (by have := h.lt; omega) hb⟩
theorem Blk.putObj {W : World} {g l : Nat} {cs : List Value} {t : TypeId} {o : Obj} (h : Blk W g cs t) (hne : g ≠ l) : Blk (W.putObj l o) g cs t := (putObj_block hne).trans h

theorem bj_done {w W : World} {B : Nat} {rd rb : Loop} {F : Nat} {caps : Array Value} {bt : Ext2 → Ext2 → Bool} {pre : List Ext2} {o1 o2 : Nat} {is : Bool} (g1 : W.heap[B + 4]? = some (.loop rb)) (g2 : W.heap[B + 3]? = some (.deferred (some [])))
    (g3 : Blk W B [.func (.func F) #[] caps] 110) (g4 : Blk W (B + 1) [.int .i64 o1, .int .i64 o2] 56) (g5 : Blk W (B + 2) [.bool is] 4) (g7 : Below B w W) (hs : bestS bt pre = ((o1, o2), is)) : BJ w B rd F caps bt pre (W.putObj (B + 4) (.loop rd)) := by
  have hlt := (Array.getElem?_eq_some_iff.1 g1).1
  refine ⟨World.putObj_heap_same hlt, (putObj_block (by omega)).trans g2, g3.putObj (by omega), ?_, ?_, putObj_below g7 (by omega) (by omega)⟩
  · rw [hs]; exact g4.putObj (by omega)
  · rw [hs]; exact g5.putObj (by omega)
theorem bj_put {w W : World} {B : Nat} {rb : Loop} {F : Nat} {caps : Array Value} {c1 c2 c3 v1 v2 v3 : Value} (g1 : W.heap[B + 4]? = some (.loop rb)) (g2 : W.heap[B + 3]? = some (.deferred (some [])))
    (g3 : Blk W B [.func (.func F) #[] caps] 110) (g4 : Blk W (B + 1) [c1, c2] 56) (g5 : Blk W (B + 2) [c3] 4) (g7 : Below B w W) {X : World} (hX : ((W.setCell ⟨B + 1, 0, none⟩ v1).setCell ⟨B + 1, 1, none⟩ v2).setCell ⟨B + 2, 0, none⟩ v3 = X) :
    X.heap[B + 4]? = some (.loop rb) ∧ X.heap[B + 3]? = some (.deferred (some [])) ∧ Blk X B [.func (.func F) #[] caps] 110 ∧ Blk X (B + 1) [v1, v2] 56 ∧ Blk X (B + 2) [v3] 4 ∧ Below B w X := by
  subst hX
  refine ⟨heap_far (heap_far' (heap_far g1 (by omega)) (by simp)) (by omega), heap_far (heap_far' (heap_far g2 (by omega)) (by simp)) (by omega), ((g3.far (by simp) _).far (by simp) _).far (by simp) _, (g4.two).far (by simp) _, ?_, ?_⟩
  · exact ((g5.far (by simp) _).far (by simp) _).set 0 _
  · exact ((g7.setCell (by simp) _).setCell (by simp) _).setCell (by simp) _

set_option maxHeartbeats 8000000 in
theorem best_any (F : Nat) (caps : Array Value) (hF : ∀ (args : Array Value) (w : World), (callFunc F args).run Try.prog w = .ok (.enter F args) w) (bt : Ext2 → Ext2 → Bool)
    (gf gt gr gu R U n G a z : Nat) (tx : Value) (us : List Bool) (u : Bool) (hto : z ≤ n) (hn : n ≤ 1000000) (w : World) (h : RunsIn w gf gt gr gu R U n G a z tx us u)
    (hbt : ∀ (x y : Ext2) W, Below w.heap.size w W → Calls Try.prog F (#[.agg #[.int .i64 x.1, .int .i64 x.2], .agg #[.int .i64 y.1, .int .i64 y.2]] ++ caps) W fun e W' => e = .returned (.bool (bt x y)) ∧ Below W.heap.size W W') :
    Calls Try.prog 71 #[.func (.func 79) #[] #[.pointer (some ⟨gf, 0, none⟩), .pointer (some ⟨gt, 0, none⟩), .pointer (some ⟨gr, 0, none⟩), .pointer (some ⟨gu, 0, none⟩)], .func (.func F) #[] caps] w fun e w' =>
      ∃ x1 x2 is, bestS bt (RR (eqB us u) a z) = ((x1, x2), is) ∧ e = .returned (.tuple #[.agg #[.int .i64 (x1 : Nat), .int .i64 (x2 : Nat)], .bool is]) ∧ Below w.heap.size w w' := by
  refine (callsIn_wide (n := 9)).1 ?_
  obtain ⟨m, hm⟩ : ∃ m, 9 = m := ⟨_, rfl⟩
  have h1m : 1 ≤ m := by omega
  have h2m : 1 ≤ m - 1 := by omega
  have h3m : 1 ≤ m - 1 - 1 := by omega
  have h4m : 1 ≤ m - 1 - 1 - 1 := by omega
  rw [hm]
  clear hm
  obtain ⟨A, hA⟩ : ∃ A, RR (eqB us u) a z = A := ⟨_, rfl⟩
  rw [hA]
  have HR := Lib.hid hA
  have H := Lib.hid h
  have HBT := Lib.hid hbt
  clear hA h hbt
  refine callsIn_of_wp_marks Try.func71 rfl trivial ?_ rfl
  simp only [Try.ntmps71, List.size_toArray, List.length_cons, List.length_nil, Nat.reduceAdd, Nat.reduceSub, Array.replicate_succ, Array.replicate_zero, List.push_toArray, List.append_toArray, List.nil_append, List.cons_append]
  gi_wp2
  obtain ⟨W0, hW0⟩ : ∃ W0, ((w.alloc (.cells #[.func (.func F) #[] caps] 110)).alloc (.cells #[.int .i64 0, .int .i64 0] 56)).alloc (.cells #[.bool false] 4) = W0 := ⟨_, rfl⟩
  have hsz : W0.heap.size = w.heap.size + 3 := by rw [← hW0]; simp
  obtain ⟨B, hB⟩ : ∃ B, w.heap.size = B := ⟨_, rfl⟩
  have HB := Lib.hid hB
  have hb0 : Blk W0 B [.func (.func F) #[] caps] 110 := by rw [← hW0, ← hB]; exact ((Blk.new w [_] _).alloc _).alloc _
  have hb1 : Blk W0 (B + 1) [.int .i64 0, .int .i64 0] 56 := by
    have h := Blk.new (w.alloc (.cells #[.func (.func F) #[] caps] 110)) [.int .i64 0, .int .i64 0] 56
    rw [World.size_alloc, hB] at h
    rw [← hW0]; exact h.alloc _
  have hb2 : Blk W0 (B + 2) [.bool false] 4 := by
    have h := Blk.new ((w.alloc (.cells #[.func (.func F) #[] caps] 110)).alloc (.cells #[.int .i64 0, .int .i64 0] 56)) [.bool false] 4
    rw [World.size_alloc, World.size_alloc, hB] at h
    rw [← hW0]; exact h
  have hbw : Below w.heap.size w W0 := by rw [← hW0]; exact below_al (below_al (one_alloc _ _) _) _
  have HI : Hid (∀ W, Below w.heap.size w W → RunsIn W gf gt gr gu R U n G a z tx us u) := Lib.hid fun W hbe => H.out.on hbe
  try rw [hW0]
  rw [hB] at hsz hbw HI ⊢
  have HBT2 : Hid (∀ (x y : Ext2) W, Below B w W → Calls Try.prog F (#[.agg #[.int .i64 x.1, .int .i64 x.2], .agg #[.int .i64 y.1, .int .i64 y.2]] ++ caps) W fun e W' => e = .returned (.bool (bt x y)) ∧ Below W.heap.size W W') := Lib.hid (by rw [← hB]; exact HBT.out)
  clear hW0 hB HBT
  refine wpIn_rangeFunc_X rfl h1m (gf := 79) (lb := #[.pointer (some ⟨gf, 0, none⟩), .pointer (some ⟨gt, 0, none⟩), .pointer (some ⟨gr, 0, none⟩), .pointer (some ⟨gu, 0, none⟩)]) rfl trivial (enters_of Try.func79 (by kernel_rfl) rfl) (B + 4) (by omega) ?_
  intro fn rd _ hrd
  rw [hsz] at hrd ⊢
  have HRD := Lib.hid hrd
  clear hrd
  obtain ⟨W1, hW1⟩ : ∃ W1, (W0.alloc (.deferred (some []))).alloc (.loop rd) = W1 := ⟨_, rfl⟩
  have hJ0 : BJ w B rd F caps bt [] W1 := by
    rw [← hW1]
    refine ⟨?_, ?_, (hb0.alloc _).alloc _, (hb1.alloc _).alloc _, (hb2.alloc _).alloc _, (hbw.alloc (by omega) _).alloc (by simp; omega) _⟩
    · have := heap_alloc_new (W0.alloc (.deferred (some []))) (.loop rd)
      rw [World.size_alloc, hsz] at this
      exact this
    · have := heap_alloc_new W0 (.deferred (some []))
      rw [hsz] at this
      exact heap_al this
  rw [hW1]
  clear hW1 hb0 hb1 hb2 hbw hsz
  refine (rruns1_in (m - 1) h2m (B + 4) gf gt gr gu R U n G a z tx us u hto hn (BJ w B rd F caps bt) (fun pre W W' hJ hg => hJ.on hg) (fun pre W hJ => HI.out W hJ.below) ?_ W1 hJ0).mono ?_
  · intro pre x W hJ hx hlen
    have HJ := Lib.hid hJ
    have hlt := hJ.lt
    clear hJ hJ0
    obtain ⟨k, hn⟩ : ∃ k, W.heap.size = k := ⟨_, rfl⟩
    rw [hn] at hlt
    obtain ⟨x1, x2⟩ := x
    simp only at hx ⊢
    refine yield_X3 (l := B + 4) (a₁ := ?a1) (W1 := W.alloc (.cells #[.int .i64 x1, .int .i64 x2] 56)) (K' := fun W' => BJ w B rd F caps bt (pre ++ [(x1, x2)]) W') trivial HRD.out HJ.out.rec_ ?hl1 rfl ?assign ?body
    case assign =>
      intro K hK
      have HK := Lib.hid hK
      clear hK
      gi_wp2
      exact HK.out
    case hl1 => exact heap_al HJ.out.rec_
    case body =>
      intro rb hrb
      clear hrb
      obtain ⟨V, hV⟩ : ∃ V, W.alloc (.cells #[.int .i64 x1, .int .i64 x2] 56) = V := ⟨_, rfl⟩
      have hVJ : BJ w B rd F caps bt pre V := by rw [← hV]; exact HJ.out.on (one_alloc _ _)
      have hVB : Blk V k [.int .i64 x1, .int .i64 x2] 56 := by rw [← hV, ← hn]; exact Blk.new W [.int .i64 x1, .int .i64 x2] 56
      rw [hV]
      clear hV hn HJ
      obtain ⟨h1, h2, h3, h4, h5, h7⟩ := hVJ
      obtain ⟨W2, hW2⟩ : ∃ W2, V.putObj (B + 4) (.loop rb) = W2 := ⟨_, rfl⟩
      have g1 : W2.heap[B + 4]? = some (.loop rb) := by rw [← hW2]; exact World.putObj_heap_same (Array.getElem?_eq_some_iff.1 h1).1
      have g2 : W2.heap[B + 3]? = some (.deferred (some [])) := by rw [← hW2]; exact (putObj_block (by omega)).trans h2
      have g3 : Blk W2 B [.func (.func F) #[] caps] 110 := by rw [← hW2]; exact h3.putObj (by omega)
      have hst := bestS_snoc bt pre (x1, x2)
      obtain ⟨⟨⟨o1, o2⟩, is⟩, hs⟩ : ∃ s, bestS bt pre = s := ⟨_, rfl⟩
      rw [hs] at h4 h5 hst
      simp only at h4 h5
      have g4 : Blk W2 (B + 1) [.int .i64 o1, .int .i64 o2] 56 := by rw [← hW2]; exact h4.putObj (by omega)
      have g5 : Blk W2 (B + 2) [.bool is] 4 := by rw [← hW2]; exact h5.putObj (by omega)
      have g6 : Blk W2 k [.int .i64 x1, .int .i64 x2] 56 := by rw [← hW2]; exact hVB.putObj (by omega)
      have g7 : Below B w W2 := by rw [← hW2]; exact putObj_below h7 (by omega) (by have := (Array.getElem?_eq_some_iff.1 h1).1; omega)
      rw [hW2]
      clear hW2 h1 h2 h3 h4 h5 h7 hVB hs
      have c0 := g3.cell (j := 0) rfl
      have c1 := g4.cell (j := 0) rfl
      have c2 := g4.cell (j := 1) rfl
      have c3 := g5.cell (j := 0) rfl
      have c4 := g6.cell (j := 0) rfl
      have c5 := g6.cell (j := 1) rfl
      have z1 := g4.fz
      have z2 := g5.fz
      have G1 := Lib.hid g1
      have G2 := Lib.hid g2
      have G3 := Lib.hid g3
      have G4 := Lib.hid g4
      have G5 := Lib.hid g5
      have G7 := Lib.hid g7
      have G6 := Lib.hid g6
      have HST := Lib.hid hst
      clear g1 g2 g3 g4 g5 g6 g7 hst
      cases is with
      | false =>
        gi_wp2
        refine ⟨by simp, ?_⟩
        go_at_K
        gi_wp2
        obtain ⟨X, hX⟩ : ∃ X, ((W2.setCell ⟨B + 1, 0, none⟩ (.int .i64 x1)).setCell ⟨B + 1, 1, none⟩ (.int .i64 x2)).setCell ⟨B + 2, 0, none⟩ (.bool true) = X := ⟨_, rfl⟩
        obtain ⟨q1, q2, q3, q4, q5, q7⟩ := bj_put G1.out G2.out G3.out G4.out G5.out G7.out hX
        rw [hX]
        exact ⟨q1, bj_done q1 q2 q3 q4 q5 q7 HST.out⟩
      | true =>
        have hcall := HBT2.out (x1, x2) (o1, o2) W2 G7.out
        gi_wp2_with (fail)
        refine ⟨trivial, (CallsIn.inRound (B + 4) (callsIn_wide.2 hcall)).mono ?_⟩
        rintro e W3 ⟨rfl, hB3⟩
        have g1 := below_heap G1.out hB3
        have g2 := below_heap G2.out hB3
        have g3 := G3.out.on hB3
        have g4 := G4.out.on hB3
        have g5 := G5.out.on hB3
        have g6 := G6.out.on hB3
        have g7 := below_then G7.out (by have := (Array.getElem?_eq_some_iff.1 G1.out).1; omega) hB3
        clear c0 c1 c2 c3 c4 c5 z1 z2 hcall
        have c4 := g6.cell (j := 0) rfl
        have c5 := g6.cell (j := 1) rfl
        have c1 := g4.cell (j := 0) rfl
        have c2 := g4.cell (j := 1) rfl
        have c3 := g5.cell (j := 0) rfl
        have z1 := g4.fz
        have z2 := g5.fz
        have G1 := Lib.hid g1
        have G2 := Lib.hid g2
        have G3 := Lib.hid g3
        have G4 := Lib.hid g4
        have G5 := Lib.hid g5
        have G7 := Lib.hid g7
        have HST2 := Lib.hid (show bestS bt (pre ++ [(x1, x2)]) = if bt (x1, x2) (o1, o2) then ((x1, x2), true) else ((o1, o2), true) from HST.out)
        clear g1 g2 g3 g4 g5 g6 g7 hB3 HST
        cases hbx : bt (x1, x2) (o1, o2) with
        | true =>
          have HST3 := Lib.hid (show bestS bt (pre ++ [(x1, x2)]) = ((x1, x2), true) by rw [HST2.out, if_pos hbx])
          clear HST2 hbx
          simp only
          gi_wp2
          obtain ⟨X, hX⟩ : ∃ X, ((W3.setCell ⟨B + 1, 0, none⟩ (.int .i64 x1)).setCell ⟨B + 1, 1, none⟩ (.int .i64 x2)).setCell ⟨B + 2, 0, none⟩ (.bool true) = X := ⟨_, rfl⟩
          obtain ⟨q1, q2, q3, q4, q5, q7⟩ := bj_put G1.out G2.out G3.out G4.out G5.out G7.out hX
          rw [hX]
          exact ⟨q1, bj_done q1 q2 q3 q4 q5 q7 HST3.out⟩
        | false =>
          have HST3 := Lib.hid (show bestS bt (pre ++ [(x1, x2)]) = ((o1, o2), true) by rw [HST2.out, if_neg (by rw [hbx]; simp)])
          clear HST2 hbx
          simp only
          gi_wp2
          exact ⟨G1.out, bj_done G1.out G2.out G3.out G4.out G5.out G7.out HST3.out⟩
  · rintro e W2 ⟨⟨v0, rfl⟩, hJ⟩
    rw [HR.out] at hJ
    have hend := run_endLoop (P := Try.prog) hJ.rec_ (by rw [HRD.out]; simp [recX])
    have hpd : rd.pending = none := by rw [HRD.out]; rfl
    obtain ⟨h1, h2, h3, h4, h5, h7⟩ := hJ
    obtain ⟨⟨⟨o1, o2⟩, is⟩, hs⟩ : ∃ s, bestS bt A = s := ⟨_, rfl⟩
    rw [hs] at h4 h5
    simp only at h4 h5
    have HSS := Lib.hid hs
    obtain ⟨W4, hW4⟩ : ∃ W4, W2.putObj (B + 4) (.loop { rd with state := .exhausted }) = W4 := ⟨_, rfl⟩
    have g2 : W4.heap[B + 3]? = some (.deferred (some [])) := by rw [← hW4]; exact (putObj_block (by omega)).trans h2
    have g4 : Blk W4 (B + 1) [.int .i64 o1, .int .i64 o2] 56 := by rw [← hW4]; exact h4.putObj (by omega)
    have g5 : Blk W4 (B + 2) [.bool is] 4 := by rw [← hW4]; exact h5.putObj (by omega)
    have g7 : Below B w W4 := by rw [← hW4]; exact putObj_below h7 (by omega) (by have := (Array.getElem?_eq_some_iff.1 h1).1; omega)
    have hend2 : (Instr.endLoop (B + 4)).run Try.prog W2 = .ok none W4 := by rw [hend, hW4, hpd]
    refine ⟨none, W4, hend2, ?_⟩
    have c1 := g4.cell (j := 0) rfl
    have c2 := g4.cell (j := 1) rfl
    have c3 := g5.cell (j := 0) rfl
    have z1 := g4.fz
    have z2 := g5.fz
    have G2 := Lib.hid g2
    have G4 := Lib.hid g4
    have G5 := Lib.hid g5
    have G7 := Lib.hid g7
    clear hW4 h1 h2 h3 h4 h5 h7 g2 g4 g5 g7 hend hend2 hpd HRD hJ0 hs
    simp only
    gi_wp2
    refine wpIn_wide.2 ?_
    go_region
    all_goals gi_wp2
    obtain ⟨W5, hW5⟩ : ∃ W5, (((W4.setCell ⟨B + 1, 0, none⟩ (.int .i64 o1)).setCell ⟨B + 1, 1, none⟩ (.int .i64 o2)).setCell ⟨B + 1 + 1, 0, none⟩ (.bool is)) = W5 := ⟨_, rfl⟩
    have d2 : W5.heap[B + 3]? = some (.deferred (some [])) := by rw [← hW5]; exact heap_far (heap_far' (heap_far G2.out (by omega)) (by simp)) (by omega)
    have d4 : Blk W5 (B + 1) [.int .i64 o1, .int .i64 o2] 56 := by rw [← hW5]; exact (G4.out.two).far (by simp) _
    have d5 : Blk W5 (B + 2) [.bool is] 4 := by rw [← hW5]; exact ((G5.out.far (by simp) _).far (by simp) _).set 0 _
    have d7 : Below B w W5 := by rw [← hW5]; exact ((G7.out.setCell (by simp) _).setCell (by simp) _).setCell (by simp; omega) _
    rw [hW5]
    obtain ⟨W6, hW6⟩ : ∃ W6, W5.drew = W6 := ⟨_, rfl⟩
    have e2 : W6.heap[B + 3]? = some (.deferred (some [])) := by rw [← hW6]; exact d2
    have e4 : Blk W6 (B + 1) [.int .i64 o1, .int .i64 o2] 56 := by rw [← hW6]; exact d4.drew
    have e5 : Blk W6 (B + 2) [.bool is] 4 := by rw [← hW6]; exact d5.drew
    have e7 : Below B w W6 := by rw [← hW6]; exact below_drew1 d7
    rw [hW6]
    clear hW5 hW6 d2 d4 d5 d7 c1 c2 c3 z1 z2
    obtain ⟨W7, hW7⟩ : ∃ W7, W6.putObj (B + 3) (.deferred none) = W7 := ⟨_, rfl⟩
    have f4 : Blk W7 (B + 1) [.int .i64 o1, .int .i64 o2] 56 := by rw [← hW7]; exact e4.putObj (by omega)
    have f5 : Blk W7 (B + 2) [.bool is] 4 := by rw [← hW7]; exact e5.putObj (by omega)
    have f7 : Below B w W7 := by rw [← hW7]; exact putObj_below e7 (by omega) (by have := e4.lt; omega)
    refine ⟨by simp, .inl ⟨B + 3, W7, rfl, by rw [← hW7]; exact run_takeDeferred e2, ?_⟩⟩
    have c1 := f4.cell (j := 0) rfl
    have c2 := f4.cell (j := 1) rfl
    have c3 := f5.cell (j := 0) rfl
    simp [LeavesInM, LeavesIn, settle, results, Try.results71, go_sem, c1, c2, c3]
    rw [HB.out]
    have hss := HSS.out
    cases is
    · exact ⟨o1, o2, .inl ⟨hss, ⟨⟨rfl, rfl⟩, rfl⟩, f7⟩⟩
    · exact ⟨o1, o2, .inr ⟨hss, ⟨⟨rfl, rfl⟩, rfl⟩, f7⟩⟩
end Go.Proofs.Ytibohhiebejbmaa
/- Walks: the closures of choose. -/
namespace Go.Proofs.Ytibohhiebejbmaa
open Go.RowKit Go.Deep Go.Shelf
set_option linter.unusedVariables false
set_option linter.unusedSimpArgs false
set_option maxRecDepth 100000

theorem first_any (x y : Ext2) (w : World) : Calls Try.prog 72 (#[.agg #[.int .i64 x.1, .int .i64 x.2], .agg #[.int .i64 y.1, .int .i64 y.2]] ++ #[]) w fun e w' => e = .returned (.bool ((fun _ _ => false) x y)) ∧ Below w.heap.size w w' := by
  simp only [List.append_toArray, List.append_nil]
  go_enter Try.func72, Try.ntmps72
  go_wp2
  go_ret
  exact ⟨rfl, below_al (one_alloc _ _) _⟩
/-- Which of two extents is better for k pages. -/
def btM (k : Nat) (x y : Ext2) : Bool := if k ≤ x.2 ∧ k ≤ y.2 then decide (x.2 < y.2) else decide (y.2 < x.2)
set_option maxHeartbeats 4000000 in
theorem better_any (M k : Nat) (x y : Ext2) (w : World) (h : Blk w M [.int .i64 k] 3) : Calls Try.prog 73 (#[.agg #[.int .i64 x.1, .int .i64 x.2], .agg #[.int .i64 y.1, .int .i64 y.2]] ++ #[.pointer (some ⟨M, 0, none⟩)]) w fun e w' => e = .returned (.bool (btM k x y)) ∧ Below w.heap.size w w' := by
  obtain ⟨x1, x2⟩ := x
  obtain ⟨y1, y2⟩ := y
  have c0 := ((h.alloc (.cells #[.int .i64 x1, .int .i64 x2] 56)).alloc (.cells #[.int .i64 y1, .int .i64 y2] 56)).cell (j := 0) rfl
  have hB := below_al (one_alloc w (.cells #[.int .i64 x1, .int .i64 x2] 56)) (.cells #[.int .i64 y1, .int .i64 y2] 56)
  have HB := Lib.hid hB
  unfold btM
  clear h hB
  by_cases h1 : k ≤ x2
  · have h1i : (k : Int) ≤ (x2 : Int) := by omega
    by_cases h2 : k ≤ y2
    · have h2i : (k : Int) ≤ (y2 : Int) := by omega
      simp only [List.append_toArray, List.cons_append, List.nil_append, h1, h2, and_self, if_true]
      clear h1 h2
      go_enter Try.func73, Try.ntmps73
      go_wp2
      go_ret
      exact ⟨by simp, HB.out⟩
    · have h2i : ¬ (k : Int) ≤ (y2 : Int) := by omega
      simp only [List.append_toArray, List.cons_append, List.nil_append, h1, h2, and_false, if_false]
      clear h1 h2
      go_enter Try.func73, Try.ntmps73
      go_wp2
      go_ret
      exact ⟨by simp, HB.out⟩
  · have h1i : ¬ (k : Int) ≤ (x2 : Int) := by omega
    simp only [List.append_toArray, List.cons_append, List.nil_append, h1, false_and, if_false]
    clear h1
    go_enter Try.func73, Try.ntmps73
    go_wp2
    go_ret
    exact ⟨by simp, HB.out⟩

/-- What choose holds: the room, how many pages lack, what was taken. -/
structure CI (w : World) (B R U n G : Nat) (tx : Value) (k : Nat) (us : List Bool) (l : List Ext2) (W : World) : Prop where
  r : Blk W B [.pointer (some ⟨R, 0, none⟩)] 76
  mb : Blk W (B + 1) [.int .i64 k] 3
  ob : ∃ v, Blk W (B + 2) [v] 32 ∧ W.ownsRow B 56 2 v l.length (rngV l)
  rm : Rm W R U n G tx us
  gr : w.grownBy W (some U)
  lt : B ≤ W.heap.size
theorem CI.on {w W W' : World} {B R U n G k : Nat} {tx : Value} {us : List Bool} {l : List Ext2} (h : CI w B R U n G tx k us l W) (hb : Below W.heap.size W W') : CI w B R U n G tx k us l W' :=
  ⟨h.r.on hb, h.mb.on hb, (by obtain ⟨v, h1, h2⟩ := h.ob; exact ⟨v, h1.on hb, own_keep h2 hb⟩), h.rm.on hb, grown_then h.gr (grown_of_below hb _), Nat.le_trans h.lt hb.size⟩

theorem grown_maybe {W W1 W2 : World} {row r' : Option Nat} (h : W.grownBy W1 row) (k : W1.grownBy W2 r') (hg : ∀ g, r' = some g → W.heap.size ≤ g) : W.grownBy W2 row :=
  ⟨k.os.trans h.os, k.tape.trans h.tape, k.output.trans h.output, Nat.le_trans h.size k.size, fun i hi hr => (k.block i (Nat.lt_of_lt_of_le hi h.size) (fun e => by have := hg i e.symm; omega)).trans (h.block i hi hr)⟩
theorem CI.setU {w W W' : World} {B R U n G k : Nat} {tx : Value} {us us' : List Bool} {l : List Ext2} (h : CI w B R U n G tx k us l W) (hU : U < B) (hg : W.grownBy W' (some U)) (hrm : Rm W' R U n G tx us') : CI w B R U n G tx k us' l W' := by
  obtain ⟨v, h1, h2⟩ := h.ob
  refine ⟨h.r.grown hg (fun j e => by cases e; omega), h.mb.grown hg (fun j e => by cases e; omega), ⟨v, h1.grown hg (fun j e => by cases e; omega), h2.kept hg ?_⟩, hrm, grown_then h.gr hg, Nat.le_trans h.lt hg.size⟩
  by_cases hv : v.ownBlock = some U
  · exact absurd (h2.lt _ hv).1 (by omega)
  · exact .inr fun e => hv e
theorem CI.push {w W w4 : World} {B R U n G k k' : Nat} {tx v v' : Value} {us : List Bool} {l : List Ext2} {x : Ext2} {o : Obj} (h : CI w B R U n G tx k us l W) (hw : w.heap.size = B) (hv : Blk W (B + 2) [v] 32) (hvo : W.ownsRow B 56 2 v l.length (rngV l))
    (hg : (W.alloc o).grownBy w4 v.ownBlock) (ho : w4.ownsRow B 56 2 v' (l.length + 1) (rngV (l ++ [x]))) : CI w B R U n G tx k' us (l ++ [x]) ((w4.setCell ⟨B + 2, 0, none⟩ v').setCell ⟨B + 1, 0, none⟩ (.int .i64 k')) := by
  have a1 : Blk w4 B _ 76 := (h.r.alloc o).grown hg (own_ne_type hvo h.r (by decide))
  have a2 : Blk w4 (B + 1) _ 3 := (h.mb.alloc o).grown hg (own_ne_type hvo h.mb (by decide))
  have a3 : Blk w4 (B + 2) _ 32 := (hv.alloc o).grown hg (own_ne_type hvo hv (by decide))
  have a4 : Blk w4 R _ 88 := (h.rm.obj.alloc o).grown hg (own_ne_type hvo h.rm.obj (by decide))
  have a5 : Blk w4 U _ 4 := (h.rm.row.alloc o).grown hg (own_ne_type hvo h.rm.row (by decide))
  have n4 : R ≠ B + 2 := a4.ne a3 (by decide)
  have n5 : U ≠ B + 2 := a5.ne a3 (by decide)
  have n6 : R ≠ B + 1 := a4.ne a2 (by decide)
  have n7 : U ≠ B + 1 := a5.ne a2 (by decide)
  refine ⟨(a1.far (by simp) _).far (by simp) _, (a2.far (by simp) _).set 0 _, ⟨v', (a3.set 0 _).far (by simp) _, ?_⟩, ⟨(a4.far n4 _).far n6 _, (a5.far n5 _).far n7 _, h.rm.len⟩, ?_, ?_⟩
  · rw [List.length_append]
    refine own_far (own_far ho (own_ne_type ho a3 (by decide))) ?_
    exact own_ne_type ho a2 (by decide)
  · refine grown_own (grown_own (grown_maybe (grown_then h.gr (grown_of_below (one_alloc W o) _)) hg (fun g e => by rw [hw]; exact (hvo.lt _ e).1)) (grown_set _ _ _ _) (by omega)) (grown_set _ _ _ _) (by omega)
  · rw [World.size_setCell, World.size_setCell]
    exact Nat.le_trans h.lt (Nat.le_trans (by simp) hg.size)

set_option maxHeartbeats 8000000 in
theorem take_any (w : World) (B R U n G k : Nat) (tx : Value) (us : List Bool) (l : List Ext2) (x1 x2 mn : Nat) (hw : w.heap.size = B) (hU : U < B) (hmn : min x2 k = mn) (hx : x1 + mn ≤ n) (hn : n ≤ 1000000) (hl : l.length < 1000000) (hk : k ≤ 1000000) (W : World) (h : CI w B R U n G tx k us l W) :
    Calls Try.prog 70 #[.agg #[.int .i64 x1, .int .i64 x2], .pointer (some ⟨B + 1, 0, none⟩), .pointer (some ⟨B, 0, none⟩), .pointer (some ⟨B + 2, 0, none⟩)] W fun e W' =>
      e = .returned (.tuple #[]) ∧ CI w B R U n G tx (k - mn) (setR us x1 mn true) (l ++ [(x1, mn)]) W' := by
  obtain ⟨i0, hi, hz0, hz1, hz2⟩ := info_parts info56
  have hmi : (if k < x2 then (k : Int) else (x2 : Int)) = (mn : Int) := by split <;> omega
  have hmk : mn ≤ k := by omega
  have hsub : (k : Int) - (mn : Int) = ((k - mn : Nat) : Int) := by omega
  obtain ⟨ll, hll⟩ : ∃ ll, l.length = ll := ⟨_, rfl⟩
  rw [hll] at hl
  have HLL := Lib.hid hll
  have H := Lib.hid h
  have HW := Lib.hid hw
  have c0 := (h.mb.alloc (.cells #[.int .i64 x1, .int .i64 x2] 56)).cell (j := 0) rfl
  have hbW : B + 1 ≠ W.heap.size := by have := h.mb.lt; omega
  obtain ⟨v, hv1, hv2⟩ := h.ob
  rw [hll] at hv2
  obtain ⟨Av, cv, rfl, hcv⟩ := own_is_slice hv2
  have HVX := Lib.hid (fun j e => (hv2.lt j e).2)
  have HV1 := Lib.hid hv1
  have HV2 := Lib.hid hv2
  clear h hmn hw hll hv1 hv2
  go_enter Try.func70, Try.ntmps70
  go_upto_region 2 with (fail)
  obtain ⟨X, hX⟩ : ∃ X, W.heap.size = X := ⟨_, rfl⟩
  obtain ⟨W2, hW2⟩ : ∃ W2, W.alloc (.cells #[.int .i64 x1, .int .i64 mn] 56) = W2 := ⟨_, rfl⟩
  try rw [hmi]
  have hbX : Below W.heap.size W W2 := by rw [← hW2]; exact one_alloc _ _
  have HX2 : Hid (Blk W2 X [.int .i64 x1, .int .i64 mn] 56) := Lib.hid (by rw [← hW2, ← hX]; exact Blk.new W [.int .i64 x1, .int .i64 mn] 56)
  have HC2 := Lib.hid (H.out.on hbX)
  have HV1 := Lib.hid (HV1.out.on hbX)
  have HV2 := Lib.hid (own_keep HV2.out hbX)
  have HVX : Hid (∀ j, (Value.slice Av ll cv).ownBlock = some j → j < X) := Lib.hid (by rw [← hX]; exact HVX.out)
  have HVB : Hid (∀ j, (Value.slice Av ll cv).ownBlock = some j → B ≤ j) := Lib.hid (fun j e => (HV2.out.lt j e).1)
  rw [hW2]
  try rw [hX]
  have c1 := HX2.out.cell (j := 0) rfl
  have c2 := HX2.out.cell (j := 1) rfl
  have c3 := HC2.out.r.cell (j := 0) rfl
  clear hW2 hX hbX c0 hbW H
  go_upto_region 3 with (go_at_call 65; refine (set_any R U n G x1 mn tx us true _ HC2.out.rm hn hx).mono ?_; rintro e w3 ⟨rfl, hrm, hg⟩; (have HC3 := Lib.hid (HC2.out.setU hU hg hrm)); (have HX3 := Lib.hid (HX2.out.grown hg (fun j e => by cases e; exact HC2.out.rm.row.ne HX2.out (by decide)))); (have HV1 := Lib.hid (HV1.out.grown hg (fun j e => by cases e; omega))); (have HV3 := Lib.hid (HV2.out.kept hg (.inr (fun e => absurd (HVB.out U e) (by omega))))); clear hrm hg)
  have d1 := HX3.out.cell (j := 0) rfl
  have d2 := HX3.out.cell (j := 1) rfl
  have d3 := HV1.out.cell (j := 0) rfl
  have hB3 : B ≤ w3.heap.size := HC3.out.lt
  clear c1 c2 c3
  go_wp2_with (at_builtin; refine wpList_append_own _ rfl _ _ 32 rfl B 56 i0 (.agg #[.int .i64 0, .int .i64 0]) 2 16 Try.underlying32 hi hz0 hz1 hz2 rfl (by decide) _ ll (rngV l) rfl (World.ownsRow.alloc HV3.out _) ⟨w3.heap.size, 0, none⟩ 1 1 [.int .i64 x1, .int .i64 mn] rfl rfl (cells_new _ _ rfl [.int .i64 x1, .int .i64 mn] _) (by simp [Value.oneCell']) (by simp only [maxLen]; omega) (by omega) (by simp; omega) ?_; intro v' w4 hown4 hgrow4 _; obtain ⟨g', cap', rfl⟩ := ownsRow_succ hown4; (have HO4 := Lib.hid hown4); (have HG4 := Lib.hid hgrow4); (have a1 := (HC3.out.mb.alloc _).grown hgrow4 (own_ne_type HV3.out HC3.out.mb (by decide))); (have a2 := (HV1.out.alloc _).grown hgrow4 (own_ne_type HV3.out HV1.out (by decide))); (have a3 := (HX3.out.alloc _).grown hgrow4 (fun j e => by have := HVX.out j e; omega)); (have e0 := a1.cell (j := 0) rfl); (have e1 := a3.cell (j := 0) rfl); (have e2 := a3.cell (j := 1) rfl); (have f1 := a1.fz); (have f2 := a2.fz); (have e4 := a2.cell (j := 0) rfl); (have hXB : X ≠ B + 2 := a3.ne a2 (by decide)); (have hXB1 : X ≠ B + 1 := a3.ne a1 (by decide)); clear hown4 hgrow4 a1 a2 a3)
  go_end0
  have hv3 := HV3.out
  rw [← HLL.out] at hv3
  have ho4 := HO4.out
  rw [← rngV_snoc l (x1, mn), ← HLL.out] at ho4
  exact ⟨rfl, HC3.out.push HW.out (by rw [HLL.out]; exact HV1.out) hv3 (by rw [HLL.out]; exact HG4.out) (by rw [← HLL.out]; exact ho4)⟩
end Go.Proofs.Ytibohhiebejbmaa
/- Plain: what choose computes. -/
namespace Go.Proofs.Ytibohhiebejbmaa
open Go.RowKit Go.Deep Go.Shelf
set_option linter.unusedVariables false
set_option linter.unusedSimpArgs false

theorem bestS_cons (bt : Ext2 → Ext2 → Bool) : ∀ (l : List Ext2) (y : Ext2), ∃ x, (l.foldl (bestStep bt) (y, true)) = (x, true) ∧ (x = y ∨ x ∈ l)
  | [], y => ⟨y, rfl, .inl rfl⟩
  | a :: t, y => by
    rw [List.foldl_cons]
    unfold bestStep
    simp only [Bool.not_true, Bool.false_or]
    cases hb : bt a y with
    | true =>
      obtain ⟨x, h1, h2⟩ := bestS_cons bt t a
      refine ⟨x, h1, .inr ?_⟩
      rcases h2 with rfl | h2
      · exact List.mem_cons_self
      · exact List.mem_cons_of_mem _ h2
    | false =>
      obtain ⟨x, h1, h2⟩ := bestS_cons bt t y
      refine ⟨x, h1, ?_⟩
      rcases h2 with h2 | h2
      · exact .inl h2
      · exact .inr (List.mem_cons_of_mem _ h2)
theorem bestS_mem (bt : Ext2 → Ext2 → Bool) {l : List Ext2} (h : l ≠ []) : (bestS bt l).2 = true ∧ (bestS bt l).1 ∈ l := by
  cases l with
  | nil => exact absurd rfl h
  | cons a t =>
    obtain ⟨x, h1, h2⟩ := bestS_cons bt t a
    have h3 : bestS bt (a :: t) = (x, true) := h1
    rw [h3]
    refine ⟨rfl, ?_⟩
    rcases h2 with rfl | h2
    · exact List.mem_cons_self
    · exact List.mem_cons_of_mem _ h2
theorem bestS_nil (bt : Ext2 → Ext2 → Bool) : bestS bt [] = ((0, 0), false) := rfl

theorem freeM_set : ∀ (us : List Bool) (i : Nat), i < us.length → us.getD i false = false → freeM (us.set i true) + 1 = freeM us
  | [], i, h, _ => by simp at h
  | x :: t, 0, h, h2 => by
    have : x = false := by simpa using h2
    subst this
    simp [freeM]
  | x :: t, i + 1, h, h2 => by
    have ih := freeM_set t i (by simpa using h) (by simpa using h2)
    unfold freeM at ih ⊢
    simp only [List.set_cons_succ, List.countP_cons]
    omega
theorem freeM_setR (us : List Bool) (p : Nat) : ∀ (m : Nat), p + m ≤ us.length → (∀ i, p ≤ i → i < p + m → us.getD i false = false) → freeM (setR us p m true) + m = freeM us
  | 0, h, hf => by rw [setR_none]; rfl
  | m + 1, h, hf => by
    have ih := freeM_setR us p m (by omega) (fun i h1 h2 => hf i h1 (by omega))
    rw [← setR_step us p m true (by omega)]
    have h1 : (setR us p m true).getD (p + m) false = false := by
      rw [setR_get (by omega), if_neg (by omega)]
      exact hf _ (by omega) (by omega)
    have := freeM_set (setR us p m true) (p + m) (by rw [setR_len]; omega) h1
    omega
theorem free_some {us : List Bool} (h : 1 ≤ freeM us) : ∃ i, i < us.length ∧ us.getD i false = false := by
  unfold freeM at h
  obtain ⟨a, h1, h2⟩ := List.countP_pos_iff.1 (show 0 < us.countP fun x => !x by omega)
  obtain ⟨i, h3, h4⟩ := List.mem_iff_getElem.1 h1
  refine ⟨i, h3, ?_⟩
  rw [List.getD_eq_getElem?_getD, List.getElem?_eq_getElem h3, h4]
  simpa using h2

/-- The extents of free pages. -/
def frees (us : List Bool) (a z : Nat) : List Ext2 := RR (eqB us false) a z
theorem frees_in {us : List Bool} {a z : Nat} {x : Ext2} (h : x ∈ frees us a z) : a ≤ x.1 ∧ 1 ≤ x.2 ∧ x.1 + x.2 ≤ z ∧ ∀ i, x.1 ≤ i → i < x.1 + x.2 → us.getD i false = false := by
  have h1 := RR_in _ _ _ x h
  have h2 : a < z := by
    rcases Nat.lt_or_ge a z with h3 | h3
    · exact h3
    · unfold frees at h
      rw [RR_none _ h3] at h
      cases h
  refine ⟨h1.1, h1.2.1, h1.2.2 h2, fun i h3 h4 => ?_⟩
  have := ((RR_mem (eqB us false) a z i).1 ⟨x, h, h3, h4⟩).2.2
  simpa [eqB] using this
theorem frees_some {us : List Bool} {a z i : Nat} (h1 : a ≤ i) (h2 : i < z) (h : us.getD i false = false) : frees us a z ≠ [] := by
  obtain ⟨x, hx, -⟩ := (RR_mem (eqB us false) a z i).2 ⟨h1, h2, by simp only [eqB, h]; rfl⟩
  intro e
  unfold frees at e
  rw [e] at hx
  cases hx
/-- The extent of which some pages are taken next. -/
def pickM (us : List Bool) (n k : Nat) (inside : Bool) : Ext2 :=
  if (bestS (btM k) (if inside then frees us 3 (3 + n / 8) else frees us (3 + n / 8) n)).2 then (bestS (btM k) (if inside then frees us 3 (3 + n / 8) else frees us (3 + n / 8) n)).1
  else (bestS (btM k) (if inside then frees us (3 + n / 8) n else frees us 3 (3 + n / 8))).1
/-- A bitmap of which the first three pages are used. -/
structure Lead (us : List Bool) (n : Nat) : Prop where
  len : us.length = n
  lo : 4 ≤ n
  low : ∀ i, i < 3 → us.getD i false = true
theorem Lead.set {us : List Bool} {n p m : Nat} (h : Lead us n) : Lead (setR us p m true) n := by
  refine ⟨by rw [setR_len]; exact h.len, h.lo, fun i hi => ?_⟩
  rw [setR_get (by have := h.len; have := h.lo; omega)]
  split
  · rfl
  · exact h.low i hi
theorem pick_in {us : List Bool} {n k : Nat} {inside : Bool} (h : Lead us n) (hk : 1 ≤ freeM us) : 3 ≤ (pickM us n k inside).1 ∧ 1 ≤ (pickM us n k inside).2 ∧ (pickM us n k inside).1 + (pickM us n k inside).2 ≤ n ∧
    ∀ i, (pickM us n k inside).1 ≤ i → i < (pickM us n k inside).1 + (pickM us n k inside).2 → us.getD i false = false := by
  have hz : 3 + n / 8 ≤ n := by have := h.lo; omega
  have hL : ∀ x ∈ frees us 3 (3 + n / 8), 3 ≤ x.1 ∧ 1 ≤ x.2 ∧ x.1 + x.2 ≤ n ∧ ∀ i, x.1 ≤ i → i < x.1 + x.2 → us.getD i false = false := fun x hx => by
    have := frees_in hx
    exact ⟨this.1, this.2.1, by omega, this.2.2.2⟩
  have hR : ∀ x ∈ frees us (3 + n / 8) n, 3 ≤ x.1 ∧ 1 ≤ x.2 ∧ x.1 + x.2 ≤ n ∧ ∀ i, x.1 ≤ i → i < x.1 + x.2 → us.getD i false = false := fun x hx => by
    have := frees_in hx
    exact ⟨by omega, this.2.1, this.2.2.1, this.2.2.2⟩
  have hne : frees us 3 (3 + n / 8) ≠ [] ∨ frees us (3 + n / 8) n ≠ [] := by
    obtain ⟨i, h1, h2⟩ := free_some hk
    have h3 : ¬ i < 3 := fun h4 => by rw [h.low i h4] at h2; cases h2
    rw [h.len] at h1
    by_cases h5 : i < 3 + n / 8
    · exact .inl (frees_some (by omega) h5 h2)
    · exact .inr (frees_some (by omega) h1 h2)
  generalize hA : frees us 3 (3 + n / 8) = A at *
  generalize hB : frees us (3 + n / 8) n = B at *
  have key : ∀ (X Y : List Ext2), (X ≠ [] ∨ Y ≠ []) → (if (bestS (btM k) X).2 then (bestS (btM k) X).1 else (bestS (btM k) Y).1) ∈ X ++ Y := by
    intro X Y hxy
    by_cases hX : X = []
    · subst hX
      rw [bestS_nil]
      have := (bestS_mem (btM k) (hxy.resolve_left (fun h => h rfl))).2
      simpa using this
    · have := bestS_mem (btM k) hX
      rw [if_pos this.1]
      exact List.mem_append_left _ this.2
  have hall : ∀ x ∈ A ++ B, 3 ≤ x.1 ∧ 1 ≤ x.2 ∧ x.1 + x.2 ≤ n ∧ ∀ i, x.1 ≤ i → i < x.1 + x.2 → us.getD i false = false := fun x hx => (List.mem_append.1 hx).elim (hL x) (hR x)
  have hp : pickM us n k inside ∈ A ++ B := by
    unfold pickM
    rw [hA, hB]
    cases inside with
    | true => exact key A B hne
    | false =>
      have := key B A hne.symm
      simp only [Bool.false_eq_true, if_false]
      exact List.mem_append.2 ((List.mem_append.1 this).symm)
  exact hall _ hp
/-- The rounds of choose. -/
def chLoop (n : Nat) (inside : Bool) : Nat → List Bool → Nat → List Ext2 → List Bool × List Ext2
  | 0, us, k, l => (us, l)
  | f + 1, us, k, l => if k = 0 then (us, l) else chLoop n inside f (setR us (pickM us n k inside).1 (min (pickM us n k inside).2 k) true) (k - min (pickM us n k inside).2 k) (l ++ [((pickM us n k inside).1, min (pickM us n k inside).2 k)])
theorem chLoop_done (n : Nat) (inside : Bool) (f : Nat) (us : List Bool) (l : List Ext2) : chLoop n inside f us 0 l = (us, l) := by
  cases f with
  | zero => rfl
  | succ f => simp [chLoop]
theorem chLoop_step {n f k : Nat} {inside : Bool} {us : List Bool} {l : List Ext2} (hk : k ≠ 0) : chLoop n inside (f + 1) us k l = chLoop n inside f (setR us (pickM us n k inside).1 (min (pickM us n k inside).2 k) true) (k - min (pickM us n k inside).2 k) (l ++ [((pickM us n k inside).1, min (pickM us n k inside).2 k)]) := by
  simp [chLoop, hk]
/-- The run at near, if there is one. -/
def nearM (us : List Bool) (n near : Nat) : Ext2 := (bestS (fun _ _ => false) (frees us near n)).1
/-- What choose chooses, and the table behind it. -/
def chooseM (us : List Bool) (n m : Nat) (near : Int) (inside : Bool) : List Bool × List Ext2 :=
  if 3 ≤ near ∧ us.getD near.toNat false = false then
    chLoop n inside m (setR us (nearM us n near.toNat).1 (min (nearM us n near.toNat).2 m) true) (m - min (nearM us n near.toNat).2 m) [((nearM us n near.toNat).1, min (nearM us n near.toNat).2 m)]
  else chLoop n inside m us m []
theorem near_in {us : List Bool} {n near : Nat} (h1 : near < n) (h2 : us.getD near false = false) : near ≤ (nearM us n near).1 ∧ 1 ≤ (nearM us n near).2 ∧ (nearM us n near).1 + (nearM us n near).2 ≤ n ∧ ∀ i, (nearM us n near).1 ≤ i → i < (nearM us n near).1 + (nearM us n near).2 → us.getD i false = false :=
  frees_in (bestS_mem (fun _ _ => false) (frees_some (Nat.le_refl _) h1 h2)).2
end Go.Proofs.Ytibohhiebejbmaa
