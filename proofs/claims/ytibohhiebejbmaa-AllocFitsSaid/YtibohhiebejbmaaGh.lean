/- Walks: plain, at any function value; the exported functions that only read. -/
import Derived.Test.YtibohhiebejbmaaGg
import Derived.Test.YtibohhiebejbmaaGf
import Derived.Test.YtibohhiebejbmaaPAllocActsx14
import Derived.Test.YtibohhiebejbmaaPAllocActsx2
namespace Go.Proofs.Ytibohhiebejbmaa
open Go.RowKit Go.Deep Go.Shelf
set_option linter.unusedVariables false
set_option linter.unusedSimpArgs false
set_option maxRecDepth 100000

theorem gW_below (t : TypeId) (z : Value) (w : World) : Below w.heap.size w (gW t z w) := below_al (one_alloc _ _) _
theorem gW_size (t : TypeId) (z : Value) (w : World) : w.heap.size ≤ (gW t z w).heap.size := (gW_below t z w).size
theorem Bx.on {W W' : World} {G tx B1 B2 : Nat} (h : Bx W G tx B1 B2) (hb : Below W.heap.size W W') : Bx W' G tx B1 B2 := ⟨h.s.on hb, h.t.on hb⟩
theorem Cx.on {W W' : World} {m near : Int} {inside : Bool} {B3 B4 B5 : Nat} (h : Cx W m near inside B3 B4 B5) (hb : Below W.heap.size W W') : Cx W' m near inside B3 B4 B5 := ⟨h.m.on hb, h.n.on hb, h.i.on hb⟩
theorem Bx.new (w : World) (G tx : Nat) : Bx ((w.alloc (.cells #[.iface 26 (.pointer (some ⟨G, 0, none⟩))] 74)).alloc (.cells #[.int .i64 tx] 3)) G tx w.heap.size (w.heap.size + 1) := by
  refine ⟨(Blk.new w [_] _).alloc _, ?_⟩
  have h := Blk.new (w.alloc (.cells #[.iface 26 (.pointer (some ⟨G, 0, none⟩))] 74)) [.int .i64 tx] 3
  rw [World.size_alloc] at h
  exact h
theorem Blk.next (w : World) (k : Nat) (v : Value) (t : TypeId) (h : w.heap.size = k) : Blk (w.alloc (.cells #[v] t)) k [v] t := by rw [← h]; exact Blk.new w [v] t
section
variable {P : Program}
theorem ent42 : ∀ (args : Array Value) (w : World), (callFunc 42 args).run Try.prog w = .ok (.enter 42 args) w := enters_of Try.func42 (by kernel_rfl) rfl
theorem ent49 : ∀ (args : Array Value) (w : World), (callFunc 49 args).run Try.prog w = .ok (.enter 49 args) w := enters_of Try.func49 (by kernel_rfl) rfl
theorem ent51 : ∀ (args : Array Value) (w : World), (callFunc 51 args).run Try.prog w = .ok (.enter 51 args) w := enters_of Try.func51 (by kernel_rfl) rfl
theorem ent53 : ∀ (args : Array Value) (w : World), (callFunc 53 args).run Try.prog w = .ok (.enter 53 args) w := enters_of Try.func53 (by kernel_rfl) rfl
theorem ent56 : ∀ (args : Array Value) (w : World), (callFunc 56 args).run Try.prog w = .ok (.enter 56 args) w := enters_of Try.func56 (by kernel_rfl) rfl
theorem ent58 : ∀ (args : Array Value) (w : World), (callFunc 58 args).run Try.prog w = .ok (.enter 58 args) w := enters_of Try.func58 (by kernel_rfl) rfl
theorem ent62 : ∀ (args : Array Value) (w : World), (callFunc 62 args).run Try.prog w = .ok (.enter 62 args) w := enters_of Try.func62 (by kernel_rfl) rfl
theorem ent63 : ∀ (args : Array Value) (w : World), (callFunc 63 args).run Try.prog w = .ok (.enter 63 args) w := enters_of Try.func63 (by kernel_rfl) rfl
theorem ent64 : ∀ (args : Array Value) (w : World), (callFunc 64 args).run Try.prog w = .ok (.enter 64 args) w := enters_of Try.func64 (by kernel_rfl) rfl
theorem ent75 : ∀ (args : Array Value) (w : World), (callFunc 75 args).run Try.prog w = .ok (.enter 75 args) w := enters_of Try.func75 (by kernel_rfl) rfl
end

theorem plain1_any (F : Nat) (caps : Array Value) (hF : ∀ (args : Array Value) (w : World), (callFunc F args).run Try.prog w = .ok (.enter F args) w) (B : Nat) (W : World) (hb : Blk W B [.func (.func F) #[] caps] 1) (R : Ending → World → Prop)
    (hc : Calls Try.prog F caps W R) (hR : ∀ e W', R e W' → e = .returned (.tuple #[]) ∨ ∃ k, e = gaveUp k) :
    Calls Try.prog 75 #[.pointer (some ⟨B, 0, none⟩)] W fun x W' => ∃ e, R e W' ∧ ((e = .returned (.tuple #[]) ∧ x = .returned (.bool true)) ∨ ∃ k, e = gaveUp k ∧ x = gaveUp k) := by
  have c0 := hb.cell (j := 0) rfl
  have HC := Lib.hid hc
  have HR := Lib.hid hR
  clear hb hc hR
  go_enter Try.func75, Try.ntmps75
  go_wp2_with (fail)
  refine HC.out.mono ?_
  intro e W' hr
  have HRW := Lib.hid hr
  rcases HR.out e W' hr with rfl | ⟨k, rfl⟩
  · clear hr
    simp only
    go_wp2
    go_ret
    exact ⟨_, HRW.out, .inl ⟨rfl, rfl⟩⟩
  · clear hr
    simp only [gaveUp]
    go_wp2
    exact ⟨rfl, _, HRW.out, .inr ⟨k, rfl, rfl⟩⟩
/-- The world in which plain's function is called. -/
def pW (F : Nat) (caps : Array Value) (w : World) : World := gW 4 (.bool false) (w.alloc (.cells #[.func (.func F) #[] caps] 1))
theorem pW_below (F : Nat) (caps : Array Value) (w : World) : Below w.heap.size w (pW F caps w) := below_then (one_alloc _ _) (by simp) (gW_below _ _ _)
theorem plain_any (F : Nat) (caps : Array Value) (hF : ∀ (args : Array Value) (w : World), (callFunc F args).run Try.prog w = .ok (.enter F args) w) (w : World) (row : Option Nat) (hrow : ∀ k, row = some k → k < w.heap.size) (R : Ending → World → Prop)
    (hc : Calls Try.prog F caps (pW F caps w) R) (hR : ∀ e W', R e W' → (pW F caps w).grownBy W' row ∧ (e = .returned (.tuple #[]) ∨ ∃ k, e = gaveUp k)) :
    Calls Try.prog 48 #[.func (.func F) #[] caps] w fun x w' => ∃ e W', R e W' ∧ Far W' w' ∧ w.grownBy w' row ∧ ((e = .returned (.tuple #[]) ∧ x = .returned (.int .i64 0)) ∨ ∃ k, e = gaveUp k ∧ x = .returned (.int .i64 k)) := by
  obtain ⟨W0, hW0⟩ : ∃ W0, w.alloc (.cells #[.func (.func F) #[] caps] 1) = W0 := ⟨_, rfl⟩
  have hpw : pW F caps w = gW 4 (.bool false) W0 := by rw [← hW0]; rfl
  have hB0 : Blk W0 w.heap.size [.func (.func F) #[] caps] 1 := by rw [← hW0]; exact Blk.new w [_] _
  have hb : Below w.heap.size w W0 := by rw [← hW0]; exact one_alloc _ _
  rw [hpw] at hc hR
  have HG : Hid (Calls Try.prog 55 #[.func (.func 75) #[] #[.pointer (some ⟨w.heap.size, 0, none⟩)]] W0 fun x w' => ∃ e W' bb k, R e W' ∧ Far W' w' ∧ W0.grownBy w' row ∧ x = .returned (.tuple #[.bool bb, .int .i64 k]) ∧ ((e = .returned (.tuple #[]) ∧ k = 0) ∨ e = gaveUp k)) := Lib.hid (by
    refine (guarded55_any 75 #[.pointer (some ⟨w.heap.size, 0, none⟩)] ent75 W0 row (fun k hk => Nat.lt_of_lt_of_le (hrow k hk) hb.size) (fun x W' => ∃ e, R e W' ∧ ((e = .returned (.tuple #[]) ∧ x = .returned (.bool true)) ∨ ∃ k, e = gaveUp k ∧ x = gaveUp k))
      (plain1_any F caps hF w.heap.size _ (hB0.on (gW_below _ _ _)) R hc (fun e W' hr => (hR e W' hr).2)) ?_).mono ?_
    · rintro x W' ⟨e, hr, h | ⟨k, h1, h2⟩⟩
      · exact ⟨(hR e W' hr).1, .inl ⟨true, h.2⟩⟩
      · exact ⟨(hR e W' hr).1, .inr ⟨k, h2⟩⟩
    · rintro x w' ⟨x0, W', ⟨e, hr, hcase⟩, hfar, hg, hx⟩
      rcases hcase with ⟨he, hx0⟩ | ⟨k, he, hx0⟩
      · rcases hx with ⟨b, hb1, hb2⟩ | ⟨k, hk1, hk2⟩
        · rw [hx0] at hb1
          cases hb1
          exact ⟨e, W', _, _, hr, hfar, hg, hb2, .inl ⟨he, rfl⟩⟩
        · rw [hx0] at hk1
          cases hk1
      · rcases hx with ⟨b, hb1, hb2⟩ | ⟨k', hk1, hk2⟩
        · rw [hx0] at hb1
          cases hb1
        · rw [hx0] at hk1
          cases hk1
          exact ⟨e, W', _, _, hr, hfar, hg, hk2, .inr he⟩)
  have HB := Lib.hid hb
  clear hc hR hpw hB0 hb hrow
  go_enter Try.func48, Try.ntmps48
  go_wp2_with (go_at_call 55; refine HG.out.mono ?_; rintro x w1 ⟨e, W', bb, k, hr, hfar, hg, rfl, hx⟩; (have HRR := Lib.hid hr); (have HF2 := Lib.hid hfar); (have HGR := Lib.hid (grown_then (grown_of_below HB.out _) hg)); (have HX := Lib.hid hx); clear hr hfar hg hx)
  go_ret
  refine ⟨e, W', HRR.out, HF2.out, HGR.out, ?_⟩
  rcases HX.out with ⟨h1, h2⟩ | h1
  · exact .inl ⟨h1, by rw [h2]; rfl⟩
  · exact .inr ⟨k, h1, rfl⟩

section
variable {G A n : Nat} {us : List Bool} {b : List Int} {tx : Nat} {w : World}
/-- Two boxes are made. -/
def bW (G tx : Nat) (w : World) : World := (w.alloc (.cells #[.iface 26 (.pointer (some ⟨G, 0, none⟩))] 74)).alloc (.cells #[.int .i64 tx] 3)
theorem bW_below (G tx : Nat) (w : World) : Below w.heap.size w (bW G tx w) := below_al (one_alloc _ _) _
theorem bW_bx (G tx : Nat) (w : World) : Bx (bW G tx w) G tx w.heap.size (w.heap.size + 1) := Bx.new w G tx
theorem bW_size (G tx : Nat) (w : World) : (bW G tx w).heap.size = w.heap.size + 2 := by simp [bW]

end
end Go.Proofs.Ytibohhiebejbmaa
/- Walks: the exported functions that only read. -/
namespace Go.Proofs.Ytibohhiebejbmaa
open Go.RowKit Go.Deep Go.Shelf
set_option linter.unusedVariables false
set_option linter.unusedSimpArgs false
set_option maxRecDepth 100000

theorem rd52_ok (F : Nat) (caps : Array Value) (hF : ∀ (args : Array Value) (w : World), (callFunc F args).run Try.prog w = .ok (.enter F args) w) (W0 : World) (z : Int)
    (hc : Calls Try.prog F caps (gW 3 (.int .i64 0) W0) fun e W' => e = .returned (.int .i64 z) ∧ Below (gW 3 (.int .i64 0) W0).heap.size (gW 3 (.int .i64 0) W0) W') :
    Calls Try.prog 52 #[.func (.func F) #[] caps] W0 fun x w' => x = .returned (.tuple #[.int .i64 z, .int .i64 0]) ∧ Below W0.heap.size W0 w' := by
  refine (guarded52_any F caps hF W0 none (fun k hk => by cases hk) _ hc ?_).mono ?_
  · rintro e W' ⟨rfl, hB⟩
    exact ⟨grown_of_below hB _, .inl ⟨_, rfl⟩⟩
  · rintro x w' ⟨e, W', ⟨rfl, hB⟩, hfar, hg, ⟨y, h1, h2⟩ | ⟨k, h1, h2⟩⟩
    · cases h1
      exact ⟨h2, grown_below hg⟩
    · cases h1
theorem rd55_ok (F : Nat) (caps : Array Value) (hF : ∀ (args : Array Value) (w : World), (callFunc F args).run Try.prog w = .ok (.enter F args) w) (W0 : World) (z : Bool)
    (hc : Calls Try.prog F caps (gW 4 (.bool false) W0) fun e W' => e = .returned (.bool z) ∧ Below (gW 4 (.bool false) W0).heap.size (gW 4 (.bool false) W0) W') :
    Calls Try.prog 55 #[.func (.func F) #[] caps] W0 fun x w' => x = .returned (.tuple #[.bool z, .int .i64 0]) ∧ Below W0.heap.size W0 w' := by
  refine (guarded55_any F caps hF W0 none (fun k hk => by cases hk) _ hc ?_).mono ?_
  · rintro e W' ⟨rfl, hB⟩
    exact ⟨grown_of_below hB _, .inl ⟨_, rfl⟩⟩
  · rintro x w' ⟨e, W', ⟨rfl, hB⟩, hfar, hg, ⟨y, h1, h2⟩ | ⟨k, h1, h2⟩⟩
    · cases h1
      exact ⟨h2, grown_below hg⟩
    · cases h1
theorem rd52_no (F : Nat) (caps : Array Value) (hF : ∀ (args : Array Value) (w : World), (callFunc F args).run Try.prog w = .ok (.enter F args) w) (W0 : World) (k : Int)
    (hc : Calls Try.prog F caps (gW 3 (.int .i64 0) W0) fun e W' => e = gaveUp k ∧ Below (gW 3 (.int .i64 0) W0).heap.size (gW 3 (.int .i64 0) W0) W') :
    Calls Try.prog 52 #[.func (.func F) #[] caps] W0 fun x w' => x = .returned (.tuple #[.int .i64 0, .int .i64 k]) ∧ Below W0.heap.size W0 w' := by
  refine (guarded52_any F caps hF W0 none (fun k hk => by cases hk) _ hc ?_).mono ?_
  · rintro e W' ⟨rfl, hB⟩
    exact ⟨grown_of_below hB _, .inr ⟨_, rfl⟩⟩
  · rintro x w' ⟨e, W', ⟨rfl, hB⟩, hfar, hg, h0⟩
    rcases h0 with h0 | ⟨k', h1, h2⟩
    · simp [gaveUp] at h0
    · cases h1
      exact ⟨h2, grown_below hg⟩
theorem rd55_no (F : Nat) (caps : Array Value) (hF : ∀ (args : Array Value) (w : World), (callFunc F args).run Try.prog w = .ok (.enter F args) w) (W0 : World) (k : Int)
    (hc : Calls Try.prog F caps (gW 4 (.bool false) W0) fun e W' => e = gaveUp k ∧ Below (gW 4 (.bool false) W0).heap.size (gW 4 (.bool false) W0) W') :
    Calls Try.prog 55 #[.func (.func F) #[] caps] W0 fun x w' => x = .returned (.tuple #[.bool false, .int .i64 k]) ∧ Below W0.heap.size W0 w' := by
  refine (guarded55_any F caps hF W0 none (fun k hk => by cases hk) _ hc ?_).mono ?_
  · rintro e W' ⟨rfl, hB⟩
    exact ⟨grown_of_below hB _, .inr ⟨_, rfl⟩⟩
  · rintro x w' ⟨e, W', ⟨rfl, hB⟩, hfar, hg, h0⟩
    rcases h0 with h0 | ⟨k', h1, h2⟩
    · simp [gaveUp] at h0
    · cases h1
      exact ⟨h2, grown_below hg⟩
theorem rd41_no (F : Nat) (caps : Array Value) (hF : ∀ (args : Array Value) (w : World), (callFunc F args).run Try.prog w = .ok (.enter F args) w) (W0 : World) (k : Int)
    (hc : Calls Try.prog F caps (gW 32 (.slice none 0 0) W0) fun e W' => e = gaveUp k ∧ Below (gW 32 (.slice none 0 0) W0).heap.size (gW 32 (.slice none 0 0) W0) W') :
    Calls Try.prog 41 #[.func (.func F) #[] caps] W0 fun x w' => x = .returned (.tuple #[.slice none 0 0, .int .i64 k]) ∧ Below W0.heap.size W0 w' := by
  refine (guarded41_any F caps hF W0 none (fun k hk => by cases hk) _ hc ?_).mono ?_
  · rintro e W' ⟨rfl, hB⟩
    exact ⟨grown_of_below hB _, .inr ⟨_, rfl⟩⟩
  · rintro x w' ⟨e, W', ⟨rfl, hB⟩, hfar, hg, h0⟩
    rcases h0 with h0 | ⟨k', h1, h2⟩
    · simp [gaveUp] at h0
    · cases h1
      exact ⟨h2, grown_below hg⟩
theorem rd41_row (F : Nat) (caps : Array Value) (hF : ∀ (args : Array Value) (w : World), (callFunc F args).run Try.prog w = .ok (.enter F args) w) (W0 : World) (C : List Ext2 → Prop)
    (hc : Calls Try.prog F caps (gW 32 (.slice none 0 0) W0) fun e W' => ∃ l Al c, C l ∧ e = .returned (.slice Al l.length c) ∧ W'.ownsRow (gW 32 (.slice none 0 0) W0).heap.size 56 2 (.slice Al l.length c) l.length (rngV l) ∧ Below (gW 32 (.slice none 0 0) W0).heap.size (gW 32 (.slice none 0 0) W0) W') :
    Calls Try.prog 41 #[.func (.func F) #[] caps] W0 fun x w' => ∃ l Al c, C l ∧ x = .returned (.tuple #[.slice Al l.length c, .int .i64 0]) ∧ w'.ownsRow W0.heap.size 56 2 (.slice Al l.length c) l.length (rngV l) ∧ Below W0.heap.size W0 w' := by
  refine (guarded41_any F caps hF W0 none (fun k hk => by cases hk) _ hc ?_).mono ?_
  · rintro e W' ⟨l, Al, c, h1, rfl, h3, hB⟩
    exact ⟨grown_of_below hB _, .inl ⟨_, _, _, rfl⟩⟩
  · rintro x w' ⟨e, W', ⟨l, Al, c, h1, rfl, h3, hB⟩, hfar, hg, h0⟩
    rcases h0 with ⟨A', n', c', h4, h5⟩ | ⟨k, h4, h5⟩
    · cases h4
      exact ⟨l, Al, c, h1, h5, own_weak (hfar.own _ _ _ _ h3) (gW_size _ _ _), grown_below hg⟩
    · simp [gaveUp] at h4
theorem rdp_ok (F : Nat) (caps : Array Value) (hF : ∀ (args : Array Value) (w : World), (callFunc F args).run Try.prog w = .ok (.enter F args) w) (W0 : World)
    (hc : Calls Try.prog F caps (pW F caps W0) fun e W' => e = .returned (.tuple #[]) ∧ Below (pW F caps W0).heap.size (pW F caps W0) W') :
    Calls Try.prog 48 #[.func (.func F) #[] caps] W0 fun x w' => x = .returned (.int .i64 0) ∧ Below W0.heap.size W0 w' := by
  refine (plain_any F caps hF W0 none (fun k hk => by cases hk) _ hc ?_).mono ?_
  · rintro e W' ⟨rfl, hB⟩
    exact ⟨grown_of_below hB _, .inl rfl⟩
  · rintro x w' ⟨e, W', ⟨rfl, hB⟩, hfar, hg, h0⟩
    rcases h0 with ⟨-, h5⟩ | ⟨k, h4, h5⟩
    · exact ⟨h5, grown_below hg⟩
    · simp [gaveUp] at h4
theorem rdp_no (F : Nat) (caps : Array Value) (hF : ∀ (args : Array Value) (w : World), (callFunc F args).run Try.prog w = .ok (.enter F args) w) (W0 : World) (k : Int)
    (hc : Calls Try.prog F caps (pW F caps W0) fun e W' => e = gaveUp k ∧ Below (pW F caps W0).heap.size (pW F caps W0) W') :
    Calls Try.prog 48 #[.func (.func F) #[] caps] W0 fun x w' => x = .returned (.int .i64 k) ∧ Below W0.heap.size W0 w' := by
  refine (plain_any F caps hF W0 none (fun k hk => by cases hk) _ hc ?_).mono ?_
  · rintro e W' ⟨rfl, hB⟩
    exact ⟨grown_of_below hB _, .inr ⟨_, rfl⟩⟩
  · rintro x w' ⟨e, W', ⟨rfl, hB⟩, hfar, hg, h0⟩
    rcases h0 with ⟨h4, h5⟩ | ⟨k', h4, h5⟩
    · simp [gaveUp] at h4
    · cases h4
      exact ⟨h5, grown_below hg⟩
/-- A third box is made. -/
def b3W (G tx : Nat) (v : Value) (t : TypeId) (w : World) : World := (bW G tx w).alloc (.cells #[v] t)
theorem b3W_below (G tx : Nat) (v : Value) (t : TypeId) (w : World) : Below w.heap.size w (b3W G tx v t w) := below_al (bW_below G tx w) _
theorem b3W_bx (G tx : Nat) (v : Value) (t : TypeId) (w : World) : Bx (b3W G tx v t w) G tx w.heap.size (w.heap.size + 1) := (bW_bx G tx w).on (one_alloc _ _)
theorem b3W_3 (G tx : Nat) (v : Value) (t : TypeId) (w : World) : Blk (b3W G tx v t w) (w.heap.size + 2) [v] t := Blk.next _ _ v t (bW_size G tx w)
theorem b3W_size (G tx : Nat) (v : Value) (t : TypeId) (w : World) : (b3W G tx v t w).heap.size = w.heap.size + 3 := by simp [b3W, bW]
/-- Five boxes are made. -/
def b5W (G tx : Nat) (m near : Int) (inside : Bool) (w : World) : World := ((b3W G tx (.int .i64 m) 3 w).alloc (.cells #[.int .i64 near] 3)).alloc (.cells #[.bool inside] 4)
theorem b5W_below (G tx : Nat) (m near : Int) (inside : Bool) (w : World) : Below w.heap.size w (b5W G tx m near inside w) := below_al (below_al (b3W_below ..) _) _
theorem b5W_bx (G tx : Nat) (m near : Int) (inside : Bool) (w : World) : Bx (b5W G tx m near inside w) G tx w.heap.size (w.heap.size + 1) := (b3W_bx ..).on (below_al (one_alloc _ _) _)
theorem b5W_cx (G tx : Nat) (m near : Int) (inside : Bool) (w : World) : Cx (b5W G tx m near inside w) m near inside (w.heap.size + 2) (w.heap.size + 3) (w.heap.size + 4) :=
  ⟨((b3W_3 ..).alloc _).alloc _, (Blk.next _ _ _ _ (b3W_size ..)).alloc _, Blk.next _ _ _ _ (by rw [World.size_alloc, b3W_size])⟩
theorem b5W_size (G tx : Nat) (m near : Int) (inside : Bool) (w : World) : (b5W G tx m near inside w).heap.size = w.heap.size + 5 := by simp [b5W, b3W, bW]
theorem Sp.box {W : World} {G A n : Nat} {b : List Int} (h : Sp W G A n b) {W' W'' : World} (h1 : Below W.heap.size W W') (h2 : Below W'.heap.size W' W'') : Sp W'' G A n b := (h.on h1).on h2
theorem SU.box {W : World} {G A n : Nat} {us : List Bool} (h : SU W G A n us) {W' W'' : World} (h1 : Below W.heap.size W W') (h2 : Below W'.heap.size W' W'') : SU W'' G A n us := (h.on h1).on h2

section
variable {G A n : Nat} {us : List Bool} {b : List Int} {tx : Nat} {w : World}
theorem free_us (h : SU w G A n us) : Calls Try.prog 25 #[.iface 26 (.pointer (some ⟨G, 0, none⟩)), .int .i64 tx] w fun x w' => x = .returned (.tuple #[.int .i64 (freeM us), .int .i64 0]) ∧ Below w.heap.size w w' := by
  have HG := Lib.hid (rd52_ok 53 #[.pointer (some ⟨w.heap.size, 0, none⟩), .pointer (some ⟨w.heap.size + 1, 0, none⟩)] ent53 (bW G tx w) _ (free1_us (h.box (bW_below G tx w) (gW_below _ _ _)) ((bW_bx G tx w).on (gW_below _ _ _))))
  clear h
  go_enter Try.func25, Try.ntmps25
  go_wp2_with (go_at_call 52; refine HG.out.mono ?_; rintro x w1 ⟨rfl, hB⟩; (have HB := Lib.hid (below_then (bW_below G tx w) (bW_below G tx w).size hB)); clear hB)
  go_ret2
  exact ⟨rfl, HB.out⟩
theorem free_bad (h : Sp w G A n b) (hn : n ≤ 1000000) (hk : ¬ OkB b n) : Calls Try.prog 25 #[.iface 26 (.pointer (some ⟨G, 0, none⟩)), .int .i64 tx] w fun x w' => x = .returned (.tuple #[.int .i64 0, .int .i64 (openE n)]) ∧ Below w.heap.size w w' := by
  have HG := Lib.hid (rd52_no 53 #[.pointer (some ⟨w.heap.size, 0, none⟩), .pointer (some ⟨w.heap.size + 1, 0, none⟩)] ent53 (bW G tx w) _ (free1_bad (h.box (bW_below G tx w) (gW_below _ _ _)) hn hk ((bW_bx G tx w).on (gW_below _ _ _))))
  clear h
  go_enter Try.func25, Try.ntmps25
  go_wp2_with (go_at_call 52; refine HG.out.mono ?_; rintro x w1 ⟨rfl, hB⟩; (have HB := Lib.hid (below_then (bW_below G tx w) (bW_below G tx w).size hB)); clear hB)
  go_ret2
  exact ⟨rfl, HB.out⟩
theorem used_us (page : Int) (h : SU w G A n us) (h0 : 0 ≤ page) (h1 : page < n) : Calls Try.prog 26 #[.iface 26 (.pointer (some ⟨G, 0, none⟩)), .int .i64 tx, .int .i64 page] w fun x w' => x = .returned (.tuple #[.bool (us.getD page.toNat false), .int .i64 0]) ∧ Below w.heap.size w w' := by
  have HG := Lib.hid (rd55_ok 56 #[.pointer (some ⟨w.heap.size, 0, none⟩), .pointer (some ⟨w.heap.size + 1, 0, none⟩), .pointer (some ⟨w.heap.size + 2, 0, none⟩)] ent56 (b3W G tx (.int .i64 page) 3 w) _ (used1_us page (h.box (b3W_below G tx (.int .i64 page) 3 w) (gW_below _ _ _)) ((b3W_bx G tx (.int .i64 page) 3 w).on (gW_below _ _ _)) ((b3W_3 G tx (.int .i64 page) 3 w).on (gW_below _ _ _)) h0 h1))
  clear h
  go_enter Try.func26, Try.ntmps26
  go_wp2_with (go_at_call 55; refine HG.out.mono ?_; rintro x w1 ⟨rfl, hB⟩; (have HB := Lib.hid (below_then (b3W_below G tx (.int .i64 page) 3 w) (b3W_below G tx (.int .i64 page) 3 w).size hB)); clear hB)
  go_ret2
  exact ⟨rfl, HB.out⟩
theorem used_none (page : Int) (h : SU w G A n us) (hb : ¬ (0 ≤ page ∧ page < n)) : Calls Try.prog 26 #[.iface 26 (.pointer (some ⟨G, 0, none⟩)), .int .i64 tx, .int .i64 page] w fun x w' => x = .returned (.tuple #[.bool false, .int .i64 3]) ∧ Below w.heap.size w w' := by
  have HG := Lib.hid (rd55_no 56 #[.pointer (some ⟨w.heap.size, 0, none⟩), .pointer (some ⟨w.heap.size + 1, 0, none⟩), .pointer (some ⟨w.heap.size + 2, 0, none⟩)] ent56 (b3W G tx (.int .i64 page) 3 w) _ (used1_none page (h.box (b3W_below G tx (.int .i64 page) 3 w) (gW_below _ _ _)) ((b3W_bx G tx (.int .i64 page) 3 w).on (gW_below _ _ _)) ((b3W_3 G tx (.int .i64 page) 3 w).on (gW_below _ _ _)) hb))
  clear h
  go_enter Try.func26, Try.ntmps26
  go_wp2_with (go_at_call 55; refine HG.out.mono ?_; rintro x w1 ⟨rfl, hB⟩; (have HB := Lib.hid (below_then (b3W_below G tx (.int .i64 page) 3 w) (b3W_below G tx (.int .i64 page) 3 w).size hB)); clear hB)
  go_ret2
  exact ⟨rfl, HB.out⟩
theorem used_bad (page : Int) (h : Sp w G A n b) (hn : n ≤ 1000000) (hk : ¬ OkB b n) : Calls Try.prog 26 #[.iface 26 (.pointer (some ⟨G, 0, none⟩)), .int .i64 tx, .int .i64 page] w fun x w' => x = .returned (.tuple #[.bool false, .int .i64 (openE n)]) ∧ Below w.heap.size w w' := by
  have HG := Lib.hid (rd55_no 56 #[.pointer (some ⟨w.heap.size, 0, none⟩), .pointer (some ⟨w.heap.size + 1, 0, none⟩), .pointer (some ⟨w.heap.size + 2, 0, none⟩)] ent56 (b3W G tx (.int .i64 page) 3 w) _ (used1_bad (h.box (b3W_below G tx (.int .i64 page) 3 w) (gW_below _ _ _)) hn hk ((b3W_bx G tx (.int .i64 page) 3 w).on (gW_below _ _ _))))
  clear h
  go_enter Try.func26, Try.ntmps26
  go_wp2_with (go_at_call 55; refine HG.out.mono ?_; rintro x w1 ⟨rfl, hB⟩; (have HB := Lib.hid (below_then (b3W_below G tx (.int .i64 page) 3 w) (b3W_below G tx (.int .i64 page) 3 w).size hB)); clear hB)
  go_ret2
  exact ⟨rfl, HB.out⟩
theorem runs_bad (u : Bool) (h : Sp w G A n b) (hn : n ≤ 1000000) (hk : ¬ OkB b n) : Calls Try.prog 27 #[.iface 26 (.pointer (some ⟨G, 0, none⟩)), .int .i64 tx, .bool u] w fun x w' => x = .returned (.tuple #[.slice none 0 0, .int .i64 (openE n)]) ∧ Below w.heap.size w w' := by
  have HG := Lib.hid (rd41_no 58 #[.pointer (some ⟨w.heap.size, 0, none⟩), .pointer (some ⟨w.heap.size + 1, 0, none⟩), .pointer (some ⟨w.heap.size + 2, 0, none⟩)] ent58 (b3W G tx (.bool u) 4 w) _ (runs1_bad (h.box (b3W_below G tx (.bool u) 4 w) (gW_below _ _ _)) hn hk ((b3W_bx G tx (.bool u) 4 w).on (gW_below _ _ _))))
  clear h
  go_enter Try.func27, Try.ntmps27
  go_wp2_with (go_at_call 41; refine HG.out.mono ?_; rintro x w1 ⟨rfl, hB⟩; (have HB := Lib.hid (below_then (b3W_below G tx (.bool u) 4 w) (b3W_below G tx (.bool u) 4 w).size hB)); clear hB)
  go_ret2
  exact ⟨rfl, HB.out⟩
theorem check_us (h : SU w G A n us) : Calls Try.prog 32 #[.iface 26 (.pointer (some ⟨G, 0, none⟩)), .int .i64 tx] w fun x w' => x = .returned (.int .i64 0) ∧ Below w.heap.size w w' := by
  have HG := Lib.hid (rdp_ok 63 #[.pointer (some ⟨w.heap.size, 0, none⟩), .pointer (some ⟨w.heap.size + 1, 0, none⟩)] ent63 (bW G tx w) (check1_us (h.box (bW_below G tx w) (pW_below _ _ _)) ((bW_bx G tx w).on (pW_below _ _ _))))
  clear h
  go_enter Try.func32, Try.ntmps32
  go_wp2_with (go_at_call 48; refine HG.out.mono ?_; rintro x w1 ⟨rfl, hB⟩; (have HB := Lib.hid (below_then (bW_below G tx w) (bW_below G tx w).size hB)); clear hB)
  go_ret
  exact ⟨rfl, HB.out⟩
theorem check_bad (h : Sp w G A n b) (hn : n ≤ 1000000) (hk : ¬ OkB b n) : Calls Try.prog 32 #[.iface 26 (.pointer (some ⟨G, 0, none⟩)), .int .i64 tx] w fun x w' => x = .returned (.int .i64 (openE n)) ∧ Below w.heap.size w w' := by
  have HG := Lib.hid (rdp_no 63 #[.pointer (some ⟨w.heap.size, 0, none⟩), .pointer (some ⟨w.heap.size + 1, 0, none⟩)] ent63 (bW G tx w) _ (check1_bad (h.box (bW_below G tx w) (pW_below _ _ _)) hn hk ((bW_bx G tx w).on (pW_below _ _ _))))
  clear h
  go_enter Try.func32, Try.ntmps32
  go_wp2_with (go_at_call 48; refine HG.out.mono ?_; rintro x w1 ⟨rfl, hB⟩; (have HB := Lib.hid (below_then (bW_below G tx w) (bW_below G tx w).size hB)); clear hB)
  go_ret
  exact ⟨rfl, HB.out⟩
theorem runs_us (u : Bool) (h : SU w G A n us) : Calls Try.prog 27 #[.iface 26 (.pointer (some ⟨G, 0, none⟩)), .int .i64 tx, .bool u] w fun x w' => ∃ Al c, x = .returned (.tuple #[.slice Al (RR (eqB us u) 0 n).length c, .int .i64 0]) ∧ w'.ownsRow w.heap.size 56 2 (.slice Al (RR (eqB us u) 0 n).length c) (RR (eqB us u) 0 n).length (rngV (RR (eqB us u) 0 n)) ∧ Below w.heap.size w w' := by
  have HG := Lib.hid (rd41_row 58 #[.pointer (some ⟨w.heap.size, 0, none⟩), .pointer (some ⟨w.heap.size + 1, 0, none⟩), .pointer (some ⟨w.heap.size + 2, 0, none⟩)] ent58 (b3W G tx (.bool u) 4 w) (fun l => RR (eqB us u) 0 n = l) (runs1_us u (h.box (b3W_below G tx (.bool u) 4 w) (gW_below _ _ _)) ((b3W_bx G tx (.bool u) 4 w).on (gW_below _ _ _)) ((b3W_3 G tx (.bool u) 4 w).on (gW_below _ _ _))))
  clear h
  obtain ⟨L, hL⟩ : ∃ L, RR (eqB us u) 0 n = L := ⟨_, rfl⟩
  rw [hL] at HG ⊢
  clear hL
  go_enter Try.func27, Try.ntmps27
  go_wp2_with (go_at_call 41; refine HG.out.mono ?_; rintro x w1 ⟨l, Al, c, rfl, rfl, ho, hB⟩; (have HO := Lib.hid (own_weak ho (b3W_below G tx (.bool u) 4 w).size)); (have HB := Lib.hid (below_then (b3W_below G tx (.bool u) 4 w) (b3W_below G tx (.bool u) 4 w).size hB)); clear hB ho)
  go_ret2
  exact ⟨Al, c, rfl, HO.out, HB.out⟩
end
end Go.Proofs.Ytibohhiebejbmaa
/- Walks: Choose, Take, Give, Mark, Format, Zone. -/
namespace Go.Proofs.Ytibohhiebejbmaa
open Go.RowKit Go.Deep Go.Shelf Go.Proofs.YtibohhiebejbmaaW.PrintWords
open Go.Proofs.Ytibohhiebejbmaa.PAllocActs (S56 k56 rd_T56 at_T56 z56)
set_option linter.unusedVariables false
set_option linter.unusedSimpArgs false
set_option maxRecDepth 100000

theorem drew_then {W w1 : World} (h : Below W.drew.heap.size W.drew w1) : Below W.heap.size W w1 := Ytibohhiebejbmaa.below_then (below_drew1 (Below.refl W.heap.size W)) (Nat.le_refl _) h
section
variable {G A n B1 B2 B3 B4 B5 : Nat} {us : List Bool} {b : List Int} {tx : Nat} {W : World} {m near : Int} {inside : Bool}
abbrev c62 (B1 B2 B3 B4 B5 : Nat) : Array Value := #[.pointer (some ⟨B1, 0, none⟩), .pointer (some ⟨B2, 0, none⟩), .pointer (some ⟨B3, 0, none⟩), .pointer (some ⟨B4, 0, none⟩), .pointer (some ⟨B5, 0, none⟩)]
theorem choose1_bad (h : Sp W G A n b) (hn : n ≤ 1000000) (hk : ¬ OkB b n) (hb : Bx W G tx B1 B2) (hx : Cx W m near inside B3 B4 B5) : Calls Try.prog 62 (c62 B1 B2 B3 B4 B5) W fun e W' => e = gaveUp (openE n) ∧ Below W.heap.size W W' := by
  refine choose1_gen hb hx.m hx.n hx.i ((open_bad G A n b tx _ (h.on (below_drew1 (Below.refl _ _))) hn hk).mono ?_)
  rintro e w1 ⟨rfl, hB⟩
  exact .inl ⟨_, rfl, rfl, drew_then hB⟩
theorem choose1_no (h : SU W G A n us) (hb : Bx W G tx B1 B2) (hx : Cx W m near inside B3 B4 B5) (hE : chooseE us n m near ≠ 0) : Calls Try.prog 62 (c62 B1 B2 B3 B4 B5) W fun e W' => e = gaveUp (chooseE us n m near) ∧ Below W.heap.size W W' := by
  refine choose1_gen hb hx.m hx.n hx.i ((open_us G A n us tx _ (h.on (below_drew1 (Below.refl _ _)))).mono ?_)
  rintro e w1 ⟨R, U, rfl, hRm, hB, hR, hU⟩
  refine .inr ⟨R, rfl, drew_then hB, (choose_no R U n G _ us m near inside _ hRm (by have := h.hi; omega) hE).mono ?_⟩
  rintro e2 w2 ⟨rfl, hB2⟩
  exact ⟨.inr ⟨_, rfl⟩, rfl, Ytibohhiebejbmaa.below_then (drew_then hB) (drew_then hB).size hB2⟩
theorem choose1_us (h : SU W G A n us) (hb : Bx W G tx B1 B2) (hx : Cx W m near inside B3 B4 B5) (hE : chooseE us n m near = 0) : Calls Try.prog 62 (c62 B1 B2 B3 B4 B5) W fun e W' =>
    ∃ l Al c, (chooseM us n m.toNat near inside).2 = l ∧ e = .returned (.slice Al l.length c) ∧ W'.ownsRow W.heap.size 56 2 (.slice Al l.length c) l.length (rngV l) ∧ Below W.heap.size W W' := by
  refine choose1_gen hb hx.m hx.n hx.i ((open_us G A n us tx _ (h.on (below_drew1 (Below.refl _ _)))).mono ?_)
  rintro e w1 ⟨R, U, rfl, hRm, hB, hR, hU⟩
  have hB1 := drew_then hB
  refine .inr ⟨R, rfl, hB1, (choose_yes R U n G _ us m near inside _ hRm h.lead h.hi hRm.row.lt hE).mono ?_⟩
  rintro e2 w2 ⟨us', l, Al, c, hch, rfl, ho, hrm, hg⟩
  have hB2 : Below W.heap.size W w2 := hB1.grown hg hB1.size (fun k e => by cases e; exact hU)
  exact ⟨.inl ⟨_, _, _, rfl, Keep22.of hB2⟩, l, Al, c, by rw [hch], rfl, own_weak ho hB1.size, hB2⟩
end
section
variable {G A n : Nat} {us : List Bool} {b : List Int} {tx : Nat} {w : World} {m near : Int} {inside : Bool}
theorem choose_bad (h : Sp w G A n b) (hn : n ≤ 1000000) (hk : ¬ OkB b n) : Calls Try.prog 29 #[.iface 26 (.pointer (some ⟨G, 0, none⟩)), .int .i64 tx, .int .i64 m, .int .i64 near, .bool inside] w fun x w' => x = .returned (.tuple #[.slice none 0 0, .int .i64 (openE n)]) ∧ Below w.heap.size w w' := by
  have HG := Lib.hid (rd41_no 62 #[.pointer (some ⟨w.heap.size, 0, none⟩), .pointer (some ⟨w.heap.size + 1, 0, none⟩), .pointer (some ⟨w.heap.size + 2, 0, none⟩), .pointer (some ⟨w.heap.size + 3, 0, none⟩), .pointer (some ⟨w.heap.size + 4, 0, none⟩)] ent62 (b5W G tx m near inside w) _ (choose1_bad (h.box (b5W_below G tx m near inside w) (gW_below _ _ _)) hn hk ((b5W_bx G tx m near inside w).on (gW_below _ _ _)) ((b5W_cx G tx m near inside w).on (gW_below _ _ _))))
  clear h
  go_enter Try.func29, Try.ntmps29
  go_wp2_with (go_at_call 41; refine HG.out.mono ?_; rintro x w1 ⟨rfl, hB⟩; (have HB := Lib.hid (Ytibohhiebejbmaa.below_then (b5W_below G tx m near inside w) (b5W_below G tx m near inside w).size hB)); clear hB)
  go_ret2
  exact ⟨rfl, HB.out⟩
theorem choose_err (h : SU w G A n us) (hE : chooseE us n m near ≠ 0) : Calls Try.prog 29 #[.iface 26 (.pointer (some ⟨G, 0, none⟩)), .int .i64 tx, .int .i64 m, .int .i64 near, .bool inside] w fun x w' => x = .returned (.tuple #[.slice none 0 0, .int .i64 (chooseE us n m near)]) ∧ Below w.heap.size w w' := by
  have HG := Lib.hid (rd41_no 62 #[.pointer (some ⟨w.heap.size, 0, none⟩), .pointer (some ⟨w.heap.size + 1, 0, none⟩), .pointer (some ⟨w.heap.size + 2, 0, none⟩), .pointer (some ⟨w.heap.size + 3, 0, none⟩), .pointer (some ⟨w.heap.size + 4, 0, none⟩)] ent62 (b5W G tx m near inside w) _ (choose1_no (h.box (b5W_below G tx m near inside w) (gW_below _ _ _)) ((b5W_bx G tx m near inside w).on (gW_below _ _ _)) ((b5W_cx G tx m near inside w).on (gW_below _ _ _)) hE))
  clear h hE
  go_enter Try.func29, Try.ntmps29
  go_wp2_with (go_at_call 41; refine HG.out.mono ?_; rintro x w1 ⟨rfl, hB⟩; (have HB := Lib.hid (Ytibohhiebejbmaa.below_then (b5W_below G tx m near inside w) (b5W_below G tx m near inside w).size hB)); clear hB)
  go_ret2
  exact ⟨rfl, HB.out⟩
theorem take_bad (h : Sp w G A n b) (hn : n ≤ 1000000) (hk : ¬ OkB b n) : Calls Try.prog 14 #[.iface 26 (.pointer (some ⟨G, 0, none⟩)), .int .i64 tx, .int .i64 m, .int .i64 near, .bool inside] w fun x w' => x = .returned (.tuple #[.slice none 0 0, .int .i64 (openE n)]) ∧ Below w.heap.size w w' := by
  have HG := Lib.hid (rd41_no 42 #[.pointer (some ⟨w.heap.size, 0, none⟩), .pointer (some ⟨w.heap.size + 1, 0, none⟩), .pointer (some ⟨w.heap.size + 2, 0, none⟩), .pointer (some ⟨w.heap.size + 3, 0, none⟩), .pointer (some ⟨w.heap.size + 4, 0, none⟩)] ent42 (b5W G tx m near inside w) _ (take1_bad (h.box (b5W_below G tx m near inside w) (gW_below _ _ _)) hn hk ((b5W_bx G tx m near inside w).on (gW_below _ _ _))))
  clear h
  go_enter Try.func14, Try.ntmps14
  go_wp2_with (go_at_call 41; refine HG.out.mono ?_; rintro x w1 ⟨rfl, hB⟩; (have HB := Lib.hid (Ytibohhiebejbmaa.below_then (b5W_below G tx m near inside w) (b5W_below G tx m near inside w).size hB)); clear hB)
  go_ret2
  exact ⟨rfl, HB.out⟩
theorem take_err (h : SU w G A n us) (hE : chooseE us n m near ≠ 0) : Calls Try.prog 14 #[.iface 26 (.pointer (some ⟨G, 0, none⟩)), .int .i64 tx, .int .i64 m, .int .i64 near, .bool inside] w fun x w' => x = .returned (.tuple #[.slice none 0 0, .int .i64 (chooseE us n m near)]) ∧ Below w.heap.size w w' := by
  have HG := Lib.hid (rd41_no 42 #[.pointer (some ⟨w.heap.size, 0, none⟩), .pointer (some ⟨w.heap.size + 1, 0, none⟩), .pointer (some ⟨w.heap.size + 2, 0, none⟩), .pointer (some ⟨w.heap.size + 3, 0, none⟩), .pointer (some ⟨w.heap.size + 4, 0, none⟩)] ent42 (b5W G tx m near inside w) _ (take1_no (h.box (b5W_below G tx m near inside w) (gW_below _ _ _)) ((b5W_bx G tx m near inside w).on (gW_below _ _ _)) ((b5W_cx G tx m near inside w).on (gW_below _ _ _)) hE))
  clear h hE
  go_enter Try.func14, Try.ntmps14
  go_wp2_with (go_at_call 41; refine HG.out.mono ?_; rintro x w1 ⟨rfl, hB⟩; (have HB := Lib.hid (Ytibohhiebejbmaa.below_then (b5W_below G tx m near inside w) (b5W_below G tx m near inside w).size hB)); clear hB)
  go_ret2
  exact ⟨rfl, HB.out⟩
theorem choose_us (h : SU w G A n us) (hE : chooseE us n m near = 0) : Calls Try.prog 29 #[.iface 26 (.pointer (some ⟨G, 0, none⟩)), .int .i64 tx, .int .i64 m, .int .i64 near, .bool inside] w fun x w' =>
    ∃ l Al c, (chooseM us n m.toNat near inside).2 = l ∧ x = .returned (.tuple #[.slice Al l.length c, .int .i64 0]) ∧ w'.ownsRow w.heap.size 56 2 (.slice Al l.length c) l.length (rngV l) ∧ Below w.heap.size w w' := by
  have HG := Lib.hid (rd41_row 62 #[.pointer (some ⟨w.heap.size, 0, none⟩), .pointer (some ⟨w.heap.size + 1, 0, none⟩), .pointer (some ⟨w.heap.size + 2, 0, none⟩), .pointer (some ⟨w.heap.size + 3, 0, none⟩), .pointer (some ⟨w.heap.size + 4, 0, none⟩)] ent62 (b5W G tx m near inside w) (fun l => (chooseM us n m.toNat near inside).2 = l) (choose1_us (h.box (b5W_below G tx m near inside w) (gW_below _ _ _)) ((b5W_bx G tx m near inside w).on (gW_below _ _ _)) ((b5W_cx G tx m near inside w).on (gW_below _ _ _)) hE))
  clear h hE
  go_enter Try.func29, Try.ntmps29
  go_wp2_with (go_at_call 41; refine HG.out.mono ?_; rintro x w1 ⟨l, Al, c, hl, rfl, ho, hB⟩; (have HO := Lib.hid (own_weak ho (b5W_below G tx m near inside w).size)); (have HB := Lib.hid (Ytibohhiebejbmaa.below_then (b5W_below G tx m near inside w) (b5W_below G tx m near inside w).size hB)); (have HL := Lib.hid hl); clear hB ho hl)
  go_ret2
  exact ⟨l, Al, c, HL.out, rfl, HO.out, HB.out⟩
theorem Sp.ltA (h : Sp w G A n b) : A < w.heap.size := by obtain ⟨-, ⟨cs, h2, -⟩, -⟩ := h; exact h2.lt
theorem take_us (h : SU w G A n us) (hE : chooseE us n m near = 0) : Calls Try.prog 14 #[.iface 26 (.pointer (some ⟨G, 0, none⟩)), .int .i64 tx, .int .i64 m, .int .i64 near, .bool inside] w fun x w' =>
    ∃ us' l Al c, chooseM us n m.toNat near inside = (us', l) ∧ x = .returned (.tuple #[.slice Al l.length c, .int .i64 0]) ∧ w'.ownsRow w.heap.size 56 2 (.slice Al l.length c) l.length (rngV l) ∧ Sp w' G A n (bodyM us') ∧ w.grownBy w' (some A) := by
  have hA := h.sp.ltA
  have HG : Hid (Calls Try.prog 41 #[.func (.func 42) #[] #[.pointer (some ⟨w.heap.size, 0, none⟩), .pointer (some ⟨w.heap.size + 1, 0, none⟩), .pointer (some ⟨w.heap.size + 2, 0, none⟩), .pointer (some ⟨w.heap.size + 3, 0, none⟩), .pointer (some ⟨w.heap.size + 4, 0, none⟩)]] (b5W G tx m near inside w) fun x w' => ∃ us' l Al c, chooseM us n m.toNat near inside = (us', l) ∧ x = .returned (.tuple #[.slice Al l.length c, .int .i64 0]) ∧ w'.ownsRow w.heap.size 56 2 (.slice Al l.length c) l.length (rngV l) ∧ Sp w' G A n (bodyM us') ∧ w.grownBy w' (some A)) := Lib.hid (by
    refine (guarded41_any 42 #[.pointer (some ⟨w.heap.size, 0, none⟩), .pointer (some ⟨w.heap.size + 1, 0, none⟩), .pointer (some ⟨w.heap.size + 2, 0, none⟩), .pointer (some ⟨w.heap.size + 3, 0, none⟩), .pointer (some ⟨w.heap.size + 4, 0, none⟩)] ent42 (b5W G tx m near inside w) (some A) (fun k hk => by cases hk; exact Nat.lt_of_lt_of_le hA (b5W_below G tx m near inside w).size) _ (take1_us (h.box (b5W_below G tx m near inside w) (gW_below _ _ _)) ((b5W_bx G tx m near inside w).on (gW_below _ _ _)) ((b5W_cx G tx m near inside w).on (gW_below _ _ _)) hE) ?_).mono ?_
    · rintro e W' ⟨us', l, Al, c, h1, rfl, h3, h4, h5⟩
      exact ⟨h5, .inl ⟨_, _, _, rfl⟩⟩
    · rintro x w' ⟨e, W', ⟨us', l, Al, c, h1, rfl, h3, h4, h5⟩, hfar, hg, h0⟩
      rcases h0 with ⟨A', n', c', h6, h7⟩ | ⟨k, h6, h7⟩
      · cases h6
        exact ⟨us', l, Al, c, h1, h7, own_weak (hfar.own _ _ _ _ h3) (Nat.le_trans (b5W_below G tx m near inside w).size (gW_size _ _ _)), h4.far hfar, grown_then (Ytibohhiebejbmaa.grown_of_below (b5W_below G tx m near inside w) _) hg⟩
      · simp [gaveUp] at h6)
  clear h hE
  go_enter Try.func14, Try.ntmps14
  go_wp2_with (go_at_call 41; refine HG.out.mono ?_; rintro x w1 ⟨us', l, Al, c, hl, rfl, ho, hS, hg⟩; (have HO := Lib.hid ho); (have HS := Lib.hid hS); (have HL := Lib.hid hl); (have HGR := Lib.hid hg); clear ho hl hS hg)
  go_ret2
  exact ⟨us', l, Al, c, HL.out, rfl, HO.out, HS.out, HGR.out⟩
theorem format_no (h : Sp w G A n b) (hn : ¬ (4 ≤ n ∧ n ≤ 1536)) : Calls Try.prog 35 #[.iface 26 (.pointer (some ⟨G, 0, none⟩)), .int .i64 tx] w fun x w' => x = .returned (.int .i64 1) ∧ Below w.heap.size w w' := by
  have HG := Lib.hid (rdp_no 64 #[.pointer (some ⟨w.heap.size, 0, none⟩), .pointer (some ⟨w.heap.size + 1, 0, none⟩)] ent64 (bW G tx w) 1 (format1_no (h.box (bW_below G tx w) (pW_below _ _ _)) hn ((bW_bx G tx w).on (pW_below _ _ _))))
  clear h
  go_enter Try.func35, Try.ntmps35
  go_wp2_with (go_at_call 48; refine HG.out.mono ?_; rintro x w1 ⟨rfl, hB⟩; (have HB := Lib.hid (Ytibohhiebejbmaa.below_then (bW_below G tx w) (bW_below G tx w).size hB)); clear hB)
  go_ret
  exact ⟨rfl, HB.out⟩
/-- What writes a page, through plain. -/
theorem wrp_ok (F : Nat) (cs : Array Value) (hF : ∀ (args : Array Value) (w : World), (callFunc F args).run Try.prog w = .ok (.enter F args) w) (W0 : World) (A : Nat) (hA : A < W0.heap.size) (b' : List Int)
    (hc : Calls Try.prog F cs (pW F cs W0) fun e W' => e = .returned (.tuple #[]) ∧ Sp W' G A n b' ∧ (pW F cs W0).grownBy W' (some A)) :
    Calls Try.prog 48 #[.func (.func F) #[] cs] W0 fun x w' => x = .returned (.int .i64 0) ∧ Sp w' G A n b' ∧ W0.grownBy w' (some A) := by
  refine (plain_any F cs hF W0 (some A) (fun k hk => by cases hk; exact hA) _ hc ?_).mono ?_
  · rintro e W' ⟨rfl, h1, h2⟩
    exact ⟨h2, .inl rfl⟩
  · rintro x w' ⟨e, W', ⟨rfl, h1, h2⟩, hfar, hg, h0⟩
    rcases h0 with ⟨-, h5⟩ | ⟨k, h4, h5⟩
    · exact ⟨h5, h1.far hfar, hg⟩
    · simp [gaveUp] at h4
theorem format_ok (h : Sp w G A n b) (hn : 4 ≤ n) (hn2 : n ≤ 1536) : Calls Try.prog 35 #[.iface 26 (.pointer (some ⟨G, 0, none⟩)), .int .i64 tx] w fun x w' => x = .returned (.int .i64 0) ∧ SU w' G A n (fmtM n) ∧ w.grownBy w' (some A) := by
  have hA := h.ltA
  have HG := Lib.hid (wrp_ok 64 #[.pointer (some ⟨w.heap.size, 0, none⟩), .pointer (some ⟨w.heap.size + 1, 0, none⟩)] ent64 (bW G tx w) A (Nat.lt_of_lt_of_le hA (bW_below G tx w).size) _ (format1_ok (h.box (bW_below G tx w) (pW_below _ _ _)) hn hn2 ((bW_bx G tx w).on (pW_below _ _ _))))
  clear h
  go_enter Try.func35, Try.ntmps35
  go_wp2_with (go_at_call 48; refine HG.out.mono ?_; rintro x w1 ⟨rfl, hS, hg⟩; (have HS := Lib.hid hS); (have HGR := Lib.hid (grown_then (Ytibohhiebejbmaa.grown_of_below (bW_below G tx w) _) hg)); clear hS hg)
  go_ret
  exact ⟨rfl, ⟨HS.out, fmtM_lead hn, hn2⟩, HGR.out⟩
/-- What a change of pages returns. -/
def changeE (n : Nat) (us : List Bool) (u : Bool) (l : List S56) (er : Int) : Int := if properM n l = false then 1 else if allF us u l = false then er else 0
end
section
variable {G A n B1 B2 B3 : Nat} {us : List Bool} {b : List Int} {tx : Nat} {W : World} {Al : Option Addr} {c : Nat} {l : List S56}
theorem give1_bad (h : Sp W G A n b) (hn : n ≤ 1000000) (hk : ¬ OkB b n) (hb : Bx W G tx B1 B2) (h3 : Blk W B3 [.slice Al l.length c] 32) : Calls Try.prog 49 #[.pointer (some ⟨B1, 0, none⟩), .pointer (some ⟨B2, 0, none⟩), .pointer (some ⟨B3, 0, none⟩)] W fun e W' => e = gaveUp (openE n) ∧ Below W.heap.size W W' := by
  refine give1_gen hb h3 ((open_bad G A n b tx _ (h.on (below_drew1 (Below.refl _ _))) hn hk).mono ?_)
  rintro e w1 ⟨rfl, hB⟩
  exact .inl ⟨_, rfl, rfl, drew_then hB⟩
theorem give1_no (h : SU W G A n us) (hb : Bx W G tx B1 B2) (h3 : Blk W B3 [.slice Al l.length c] 32) (hl : Kd.C k56 W Al l.length l) (hc : l.length ≤ c) (hE : changeE n us false l 9 ≠ 0) : Calls Try.prog 49 #[.pointer (some ⟨B1, 0, none⟩), .pointer (some ⟨B2, 0, none⟩), .pointer (some ⟨B3, 0, none⟩)] W fun e W' => e = gaveUp (changeE n us false l 9) ∧ Below W.heap.size W W' := by
  refine give1_gen hb h3 ((open_us G A n us tx _ (h.on (below_drew1 (Below.refl _ _)))).mono ?_)
  rintro e w1 ⟨R, U, rfl, hRm, hB, hR, hU⟩
  have hB1 := drew_then hB
  have hhi := h.hi
  refine .inr ⟨R, rfl, hB1, ?_⟩
  unfold changeE at hE ⊢
  by_cases h1 : properM n l = false
  · rw [if_pos h1]
    refine (change_no R U n G _ us Al c l false 9 w1 hRm (by omega) (Kd.C_below hl hB1) hc h1).mono ?_
    rintro e2 w2 ⟨rfl, hB2⟩
    exact ⟨.inr ⟨_, rfl⟩, rfl, Ytibohhiebejbmaa.below_then hB1 hB1.size hB2⟩
  · rw [if_neg h1] at hE ⊢
    by_cases h2 : allF us false l = false
    · rw [if_pos h2]
      have hlo := h.lead.lo
      refine (change_ok R U n G A W.heap.size _ us (bodyM us) Al c l false 9 false w1 hRm (by omega) (by omega) hB1.size hU (fun W' hW => Kd.C_below hl (hB1.trans hW)) (fun W' hW => h.sp.on (hB1.trans hW)) hc (by simpa using h1) h2).mono ?_
      rintro e2 w2 (⟨-, rfl, hB2⟩ | ⟨h3, -⟩)
      · exact ⟨.inr ⟨_, rfl⟩, rfl, hB1.trans hB2⟩
      · cases h3
    · rw [if_neg h2] at hE
      exact absurd rfl hE
theorem give1_us (h : SU W G A n us) (hb : Bx W G tx B1 B2) (h3 : Blk W B3 [.slice Al l.length c] 32) (hl : Kd.C k56 W Al l.length l) (hc : l.length ≤ c) (hE : changeE n us false l 9 = 0) : Calls Try.prog 49 #[.pointer (some ⟨B1, 0, none⟩), .pointer (some ⟨B2, 0, none⟩), .pointer (some ⟨B3, 0, none⟩)] W fun e W' => e = .returned (.tuple #[]) ∧ Sp W' G A n (bodyM (putM us false l)) ∧ W.grownBy W' (some A) := by
  refine give1_gen hb h3 ((open_us G A n us tx _ (h.on (below_drew1 (Below.refl _ _)))).mono ?_)
  rintro e w1 ⟨R, U, rfl, hRm, hB, hR, hU⟩
  have hB1 := drew_then hB
  have hhi := h.hi
  have hlo := h.lead.lo
  refine .inr ⟨R, rfl, hB1, ?_⟩
  unfold changeE at hE
  by_cases h1 : properM n l = false
  · rw [if_pos h1] at hE; exact absurd hE (by decide)
  rw [if_neg h1] at hE
  by_cases h2 : allF us false l = false
  · rw [if_pos h2] at hE; exact absurd hE (by decide)
  refine (change_ok R U n G A W.heap.size _ us (bodyM us) Al c l false 9 true w1 hRm (by omega) (by omega) hB1.size hU (fun W' hW => Kd.C_below hl (hB1.trans hW)) (fun W' hW => h.sp.on (hB1.trans hW)) hc (by simpa using h1) (by simpa using h2)).mono ?_
  rintro e2 w2 (⟨h3, -⟩ | ⟨-, rfl, hS, Wm, hm1, hm2⟩)
  · cases h3
  · have hWm : Below W.heap.size W Wm := hB1.trans hm1
    refine ⟨.inl ⟨rfl, fun g cs t ht hbk => (hbk.on hWm).grown hm2 (fun k hk => ?_)⟩, rfl, hS, grown_then (Ytibohhiebejbmaa.grown_of_below hWm _) hm2⟩
    cases hk
    obtain ⟨-, ⟨cs', h5, -⟩, -⟩ := h.sp.on hWm
    exact h5.ne (hbk.on hWm) (fun e => ht e.symm)
end
section
variable {G A n : Nat} {us : List Bool} {b : List Int} {tx : Nat} {w : World} {Al : Option Addr} {c : Nat} {l : List S56}
theorem give_bad (h : Sp w G A n b) (hn : n ≤ 1000000) (hk : ¬ OkB b n) : Calls Try.prog 18 #[.iface 26 (.pointer (some ⟨G, 0, none⟩)), .int .i64 tx, .slice Al l.length c] w fun x w' => x = .returned (.int .i64 (openE n)) ∧ Below w.heap.size w w' := by
  have HG := Lib.hid (rdp_no 49 #[.pointer (some ⟨w.heap.size, 0, none⟩), .pointer (some ⟨w.heap.size + 1, 0, none⟩), .pointer (some ⟨w.heap.size + 2, 0, none⟩)] ent49 (b3W G tx (.slice Al l.length c) 32 w) _ (give1_bad (h.box (b3W_below G tx (.slice Al l.length c) 32 w) (pW_below _ _ _)) hn hk ((b3W_bx G tx (.slice Al l.length c) 32 w).on (pW_below _ _ _)) ((b3W_3 G tx (.slice Al l.length c) 32 w).on (pW_below _ _ _))))
  clear h
  go_enter Try.func18, Try.ntmps18
  go_wp2_with (go_at_call 48; refine HG.out.mono ?_; rintro x w1 ⟨rfl, hB⟩; (have HB := Lib.hid (Ytibohhiebejbmaa.below_then (b3W_below G tx (.slice Al l.length c) 32 w) (b3W_below G tx (.slice Al l.length c) 32 w).size hB)); clear hB)
  go_ret
  exact ⟨rfl, HB.out⟩
theorem give_err (h : SU w G A n us) (hl : Kd.C k56 w Al l.length l) (hc : l.length ≤ c) (hE : changeE n us false l 9 ≠ 0) : Calls Try.prog 18 #[.iface 26 (.pointer (some ⟨G, 0, none⟩)), .int .i64 tx, .slice Al l.length c] w fun x w' => x = .returned (.int .i64 (changeE n us false l 9)) ∧ Below w.heap.size w w' := by
  have HG := Lib.hid (rdp_no 49 #[.pointer (some ⟨w.heap.size, 0, none⟩), .pointer (some ⟨w.heap.size + 1, 0, none⟩), .pointer (some ⟨w.heap.size + 2, 0, none⟩)] ent49 (b3W G tx (.slice Al l.length c) 32 w) _ (give1_no (h.box (b3W_below G tx (.slice Al l.length c) 32 w) (pW_below _ _ _)) ((b3W_bx G tx (.slice Al l.length c) 32 w).on (pW_below _ _ _)) ((b3W_3 G tx (.slice Al l.length c) 32 w).on (pW_below _ _ _)) (Kd.C_below (Kd.C_below hl (b3W_below G tx (.slice Al l.length c) 32 w)) (pW_below _ _ _)) hc hE))
  clear h hl hE
  go_enter Try.func18, Try.ntmps18
  go_wp2_with (go_at_call 48; refine HG.out.mono ?_; rintro x w1 ⟨rfl, hB⟩; (have HB := Lib.hid (Ytibohhiebejbmaa.below_then (b3W_below G tx (.slice Al l.length c) 32 w) (b3W_below G tx (.slice Al l.length c) 32 w).size hB)); clear hB)
  go_ret
  exact ⟨rfl, HB.out⟩
theorem give_us (h : SU w G A n us) (hl : Kd.C k56 w Al l.length l) (hc : l.length ≤ c) (hE : changeE n us false l 9 = 0) : Calls Try.prog 18 #[.iface 26 (.pointer (some ⟨G, 0, none⟩)), .int .i64 tx, .slice Al l.length c] w fun x w' => x = .returned (.int .i64 0) ∧ Sp w' G A n (bodyM (putM us false l)) ∧ w.grownBy w' (some A) := by
  have hA := h.sp.ltA
  have HG := Lib.hid (wrp_ok 49 #[.pointer (some ⟨w.heap.size, 0, none⟩), .pointer (some ⟨w.heap.size + 1, 0, none⟩), .pointer (some ⟨w.heap.size + 2, 0, none⟩)] ent49 (b3W G tx (.slice Al l.length c) 32 w) A (Nat.lt_of_lt_of_le hA (b3W_below G tx (.slice Al l.length c) 32 w).size) _ (give1_us (h.box (b3W_below G tx (.slice Al l.length c) 32 w) (pW_below _ _ _)) ((b3W_bx G tx (.slice Al l.length c) 32 w).on (pW_below _ _ _)) ((b3W_3 G tx (.slice Al l.length c) 32 w).on (pW_below _ _ _)) (Kd.C_below (Kd.C_below hl (b3W_below G tx (.slice Al l.length c) 32 w)) (pW_below _ _ _)) hc hE))
  clear h hl hE
  go_enter Try.func18, Try.ntmps18
  go_wp2_with (go_at_call 48; refine HG.out.mono ?_; rintro x w1 ⟨rfl, hS, hg⟩; (have HS := Lib.hid hS); (have HGR := Lib.hid (grown_then (Ytibohhiebejbmaa.grown_of_below (b3W_below G tx (.slice Al l.length c) 32 w) _) hg)); clear hS hg)
  go_ret
  exact ⟨rfl, HS.out, HGR.out⟩
end
section
variable {G A n B1 B2 B3 : Nat} {us : List Bool} {b : List Int} {tx : Nat} {W : World} {Al : Option Addr} {c : Nat} {l : List S56}
theorem mark1_bad (h : Sp W G A n b) (hn : n ≤ 1000000) (hk : ¬ OkB b n) (hb : Bx W G tx B1 B2) (h3 : Blk W B3 [.slice Al l.length c] 32) : Calls Try.prog 51 #[.pointer (some ⟨B1, 0, none⟩), .pointer (some ⟨B2, 0, none⟩), .pointer (some ⟨B3, 0, none⟩)] W fun e W' => e = gaveUp (openE n) ∧ Below W.heap.size W W' := by
  refine mark1_gen hb h3 ((open_bad G A n b tx _ (h.on (below_drew1 (Below.refl _ _))) hn hk).mono ?_)
  rintro e w1 ⟨rfl, hB⟩
  exact .inl ⟨_, rfl, rfl, drew_then hB⟩
theorem mark1_no (h : SU W G A n us) (hb : Bx W G tx B1 B2) (h3 : Blk W B3 [.slice Al l.length c] 32) (hl : Kd.C k56 W Al l.length l) (hc : l.length ≤ c) (hE : changeE n us true l 13 ≠ 0) : Calls Try.prog 51 #[.pointer (some ⟨B1, 0, none⟩), .pointer (some ⟨B2, 0, none⟩), .pointer (some ⟨B3, 0, none⟩)] W fun e W' => e = gaveUp (changeE n us true l 13) ∧ Below W.heap.size W W' := by
  refine mark1_gen hb h3 ((open_us G A n us tx _ (h.on (below_drew1 (Below.refl _ _)))).mono ?_)
  rintro e w1 ⟨R, U, rfl, hRm, hB, hR, hU⟩
  have hB1 := drew_then hB
  have hhi := h.hi
  refine .inr ⟨R, rfl, hB1, ?_⟩
  unfold changeE at hE ⊢
  by_cases h1 : properM n l = false
  · rw [if_pos h1]
    refine (change_no R U n G _ us Al c l true 13 w1 hRm (by omega) (Kd.C_below hl hB1) hc h1).mono ?_
    rintro e2 w2 ⟨rfl, hB2⟩
    exact ⟨.inr ⟨_, rfl⟩, rfl, Ytibohhiebejbmaa.below_then hB1 hB1.size hB2⟩
  · rw [if_neg h1] at hE ⊢
    by_cases h2 : allF us true l = false
    · rw [if_pos h2]
      have hlo := h.lead.lo
      refine (change_ok R U n G A W.heap.size _ us (bodyM us) Al c l true 13 false w1 hRm (by omega) (by omega) hB1.size hU (fun W' hW => Kd.C_below hl (hB1.trans hW)) (fun W' hW => h.sp.on (hB1.trans hW)) hc (by simpa using h1) h2).mono ?_
      rintro e2 w2 (⟨-, rfl, hB2⟩ | ⟨h3, -⟩)
      · exact ⟨.inr ⟨_, rfl⟩, rfl, hB1.trans hB2⟩
      · cases h3
    · rw [if_neg h2] at hE
      exact absurd rfl hE
theorem mark1_us (h : SU W G A n us) (hb : Bx W G tx B1 B2) (h3 : Blk W B3 [.slice Al l.length c] 32) (hl : Kd.C k56 W Al l.length l) (hc : l.length ≤ c) (hE : changeE n us true l 13 = 0) : Calls Try.prog 51 #[.pointer (some ⟨B1, 0, none⟩), .pointer (some ⟨B2, 0, none⟩), .pointer (some ⟨B3, 0, none⟩)] W fun e W' => e = .returned (.tuple #[]) ∧ Sp W' G A n (bodyM (putM us true l)) ∧ W.grownBy W' (some A) := by
  refine mark1_gen hb h3 ((open_us G A n us tx _ (h.on (below_drew1 (Below.refl _ _)))).mono ?_)
  rintro e w1 ⟨R, U, rfl, hRm, hB, hR, hU⟩
  have hB1 := drew_then hB
  have hhi := h.hi
  have hlo := h.lead.lo
  refine .inr ⟨R, rfl, hB1, ?_⟩
  unfold changeE at hE
  by_cases h1 : properM n l = false
  · rw [if_pos h1] at hE; exact absurd hE (by decide)
  rw [if_neg h1] at hE
  by_cases h2 : allF us true l = false
  · rw [if_pos h2] at hE; exact absurd hE (by decide)
  refine (change_ok R U n G A W.heap.size _ us (bodyM us) Al c l true 13 true w1 hRm (by omega) (by omega) hB1.size hU (fun W' hW => Kd.C_below hl (hB1.trans hW)) (fun W' hW => h.sp.on (hB1.trans hW)) hc (by simpa using h1) (by simpa using h2)).mono ?_
  rintro e2 w2 (⟨h3, -⟩ | ⟨-, rfl, hS, Wm, hm1, hm2⟩)
  · cases h3
  · have hWm : Below W.heap.size W Wm := hB1.trans hm1
    refine ⟨.inl ⟨rfl, fun g cs t ht hbk => (hbk.on hWm).grown hm2 (fun k hk => ?_)⟩, rfl, hS, grown_then (Ytibohhiebejbmaa.grown_of_below hWm _) hm2⟩
    cases hk
    obtain ⟨-, ⟨cs', h5, -⟩, -⟩ := h.sp.on hWm
    exact h5.ne (hbk.on hWm) (fun e => ht e.symm)
end
section
variable {G A n : Nat} {us : List Bool} {b : List Int} {tx : Nat} {w : World} {Al : Option Addr} {c : Nat} {l : List S56}
theorem mark_bad (h : Sp w G A n b) (hn : n ≤ 1000000) (hk : ¬ OkB b n) : Calls Try.prog 21 #[.iface 26 (.pointer (some ⟨G, 0, none⟩)), .int .i64 tx, .slice Al l.length c] w fun x w' => x = .returned (.int .i64 (openE n)) ∧ Below w.heap.size w w' := by
  have HG := Lib.hid (rdp_no 51 #[.pointer (some ⟨w.heap.size, 0, none⟩), .pointer (some ⟨w.heap.size + 1, 0, none⟩), .pointer (some ⟨w.heap.size + 2, 0, none⟩)] ent51 (b3W G tx (.slice Al l.length c) 32 w) _ (mark1_bad (h.box (b3W_below G tx (.slice Al l.length c) 32 w) (pW_below _ _ _)) hn hk ((b3W_bx G tx (.slice Al l.length c) 32 w).on (pW_below _ _ _)) ((b3W_3 G tx (.slice Al l.length c) 32 w).on (pW_below _ _ _))))
  clear h
  go_enter Try.func21, Try.ntmps21
  go_wp2_with (go_at_call 48; refine HG.out.mono ?_; rintro x w1 ⟨rfl, hB⟩; (have HB := Lib.hid (Ytibohhiebejbmaa.below_then (b3W_below G tx (.slice Al l.length c) 32 w) (b3W_below G tx (.slice Al l.length c) 32 w).size hB)); clear hB)
  go_ret
  exact ⟨rfl, HB.out⟩
theorem mark_err (h : SU w G A n us) (hl : Kd.C k56 w Al l.length l) (hc : l.length ≤ c) (hE : changeE n us true l 13 ≠ 0) : Calls Try.prog 21 #[.iface 26 (.pointer (some ⟨G, 0, none⟩)), .int .i64 tx, .slice Al l.length c] w fun x w' => x = .returned (.int .i64 (changeE n us true l 13)) ∧ Below w.heap.size w w' := by
  have HG := Lib.hid (rdp_no 51 #[.pointer (some ⟨w.heap.size, 0, none⟩), .pointer (some ⟨w.heap.size + 1, 0, none⟩), .pointer (some ⟨w.heap.size + 2, 0, none⟩)] ent51 (b3W G tx (.slice Al l.length c) 32 w) _ (mark1_no (h.box (b3W_below G tx (.slice Al l.length c) 32 w) (pW_below _ _ _)) ((b3W_bx G tx (.slice Al l.length c) 32 w).on (pW_below _ _ _)) ((b3W_3 G tx (.slice Al l.length c) 32 w).on (pW_below _ _ _)) (Kd.C_below (Kd.C_below hl (b3W_below G tx (.slice Al l.length c) 32 w)) (pW_below _ _ _)) hc hE))
  clear h hl hE
  go_enter Try.func21, Try.ntmps21
  go_wp2_with (go_at_call 48; refine HG.out.mono ?_; rintro x w1 ⟨rfl, hB⟩; (have HB := Lib.hid (Ytibohhiebejbmaa.below_then (b3W_below G tx (.slice Al l.length c) 32 w) (b3W_below G tx (.slice Al l.length c) 32 w).size hB)); clear hB)
  go_ret
  exact ⟨rfl, HB.out⟩
theorem mark_us (h : SU w G A n us) (hl : Kd.C k56 w Al l.length l) (hc : l.length ≤ c) (hE : changeE n us true l 13 = 0) : Calls Try.prog 21 #[.iface 26 (.pointer (some ⟨G, 0, none⟩)), .int .i64 tx, .slice Al l.length c] w fun x w' => x = .returned (.int .i64 0) ∧ Sp w' G A n (bodyM (putM us true l)) ∧ w.grownBy w' (some A) := by
  have hA := h.sp.ltA
  have HG := Lib.hid (wrp_ok 51 #[.pointer (some ⟨w.heap.size, 0, none⟩), .pointer (some ⟨w.heap.size + 1, 0, none⟩), .pointer (some ⟨w.heap.size + 2, 0, none⟩)] ent51 (b3W G tx (.slice Al l.length c) 32 w) A (Nat.lt_of_lt_of_le hA (b3W_below G tx (.slice Al l.length c) 32 w).size) _ (mark1_us (h.box (b3W_below G tx (.slice Al l.length c) 32 w) (pW_below _ _ _)) ((b3W_bx G tx (.slice Al l.length c) 32 w).on (pW_below _ _ _)) ((b3W_3 G tx (.slice Al l.length c) 32 w).on (pW_below _ _ _)) (Kd.C_below (Kd.C_below hl (b3W_below G tx (.slice Al l.length c) 32 w)) (pW_below _ _ _)) hc hE))
  clear h hl hE
  go_enter Try.func21, Try.ntmps21
  go_wp2_with (go_at_call 48; refine HG.out.mono ?_; rintro x w1 ⟨rfl, hS, hg⟩; (have HS := Lib.hid hS); (have HGR := Lib.hid (grown_then (Ytibohhiebejbmaa.grown_of_below (b3W_below G tx (.slice Al l.length c) 32 w) _) hg)); clear hS hg)
  go_ret
  exact ⟨rfl, HS.out, HGR.out⟩
end
theorem zone_ex (n : Nat) (hn : n ≤ 1000000) (w : World) (h : 4 ≤ n ∧ n ≤ 1536) : Calls Try.prog 28 #[.int .i64 n] w fun x w' => x = .returned (.tuple #[.int .i64 3, .int .i64 ((3 + n / 8 : Nat) : Int), .int .i64 0]) ∧ w' = w := by
  have hd1 : (decide ((4 : Int) ≤ (n : Int)) && decide ((n : Int) ≤ 1536)) = true := by simp; omega
  obtain ⟨zn, hzn⟩ : ∃ zn, 3 + n / 8 = zn := ⟨_, rfl⟩
  rw [hzn]
  have HZ := Lib.hid hzn
  clear hzn
  go_enter Try.func28, Try.ntmps28
  go_wp2_with (first
    | (go_at_call 60; refine (fits_any n _).mono ?_; rintro e w1 ⟨rfl, hw9⟩; (have hw8 := hw9.symm); subst hw8; clear hw9; rw [hd1])
    | (go_at_call 61; refine (zone_at HZ.out hn _).mono ?_; rintro e w1 ⟨rfl, hw9⟩; (have hw8 := hw9.symm); subst hw8; clear hw9))
  simp [bodyPost, results, Try.results28, go_sem]
theorem zone_no (n : Int) (w : World) (h : ¬ (4 ≤ n ∧ n ≤ 1536)) : Calls Try.prog 28 #[.int .i64 n] w fun x w' => x = .returned (.tuple #[.int .i64 0, .int .i64 0, .int .i64 1]) ∧ w' = w := by
  have hd1 : (decide ((4 : Int) ≤ n) && decide (n ≤ 1536)) = false := by simp; omega
  go_enter Try.func28, Try.ntmps28
  go_wp2_with (go_at_call 60; refine (fits_any n _).mono ?_; rintro e w1 ⟨rfl, hw9⟩; (have hw8 := hw9.symm); subst hw8; clear hw9; rw [hd1])
  simp [bodyPost, results, Try.results28, go_sem]
end Go.Proofs.Ytibohhiebejbmaa
/- Words for the laws: a right bitmap stays right; rows of extents that are read; the sanity of the examples. -/
namespace Go.Proofs.Ytibohhiebejbmaa
open Go.RowKit Go.Deep Go.Shelf Go.Proofs.YtibohhiebejbmaaW.PrintWords
open Go.Proofs.Ytibohhiebejbmaa.PAllocActs (S56 k56 rd_T56 at_T56 z56 S34 k34 rd_T34 at_T34)
set_option linter.unusedVariables false
set_option linter.unusedSimpArgs false
set_option maxRecDepth 100000

theorem chLoop_lead {n : Nat} {inside : Bool} : ∀ (f : Nat) (us : List Bool) (k : Nat) (l : List Ext2), Lead us n → Lead (chLoop n inside f us k l).1 n
  | 0, us, k, l, h => h
  | f + 1, us, k, l, h => by
    unfold chLoop
    split
    · exact h
    · exact chLoop_lead f _ _ _ h.set
theorem chooseM_lead {us : List Bool} {n m : Nat} {near : Int} {inside : Bool} (h : Lead us n) : Lead (chooseM us n m near inside).1 n := by
  unfold chooseM
  split
  · exact chLoop_lead _ _ _ _ h.set
  · exact chLoop_lead _ _ _ _ h
theorem Lead.put {us : List Bool} {n p m : Nat} {u : Bool} (h : Lead us n) (hp : 3 ≤ p) : Lead (setR us p m u) n := by
  refine ⟨by rw [setR_len]; exact h.len, h.lo, fun i hi => ?_⟩
  rw [setR_get (by have := h.len; have := h.lo; omega), if_neg (by omega)]
  exact h.low i hi
theorem putM_lead {n : Nat} {u : Bool} : ∀ (l : List S56) (us : List Bool), (∀ x ∈ l, 3 ≤ x.f0.toNat) → Lead us n → Lead (putM us u l) n
  | [], us, hl, h => h
  | x :: t, us, hl, h => putM_lead t _ (fun y hy => hl y (List.mem_cons_of_mem _ hy)) (h.put (hl x List.mem_cons_self))
theorem changeE_ok {n : Nat} {us : List Bool} {u : Bool} {l : List S56} {er : Int} (he : er ≠ 0) (h : changeE n us u l er = 0) : properM n l = true ∧ allF us u l = true := by
  unfold changeE at h
  by_cases h1 : properM n l = false
  · rw [if_pos h1] at h; exact absurd h (by decide)
  · rw [if_neg h1] at h
    by_cases h2 : allF us u l = false
    · rw [if_pos h2] at h; exact absurd h he
    · exact ⟨by simpa using h1, by simpa using h2⟩
theorem change_lead {n : Nat} {us : List Bool} {u : Bool} {l : List S56} {er : Int} (he : er ≠ 0) (h : Lead us n) (hE : changeE n us u l er = 0) : Lead (putM us u l) n := by
  refine putM_lead l us (fun x hx => ?_) h
  obtain ⟨p, m, h1, h2, h3, -⟩ := (properM_each (changeE_ok he hE).1).2 x hx
  omega

/-- An extent as the document's. -/
def toS (x : Ext2) : S56 := ⟨x.1, x.2⟩
theorem ext_reads {w : World} {base n c : Nat} {A : Option Addr} {l : List Ext2} (h : w.ownsRow base 56 2 (.slice A n c) n (rngV l)) (hn : l.length = n) (hm : n ≤ 9223372036854775807) : Kd.C k56 w A n (l.map toS) := by
  refine ⟨by rw [List.length_map, hn], hm, fun h0 => ?_⟩
  obtain ⟨-, ⟨h1, h2⟩ | ⟨g, cap, cur, h1, hg, r⟩⟩ := id h
  · simp at h1; omega
  · cases h1
    refine ⟨_, rfl, fun j p hj => ⟨[.int .i64 p.f0, .int .i64 p.f1], rfl, PAllocActs.k56_mk w p, fun i u hu => ?_⟩⟩
    rw [List.getElem?_map] at hj
    cases hx : l[j]? with
    | none => rw [hx] at hj; cases hj
    | some x =>
      rw [hx] at hj
      cases hj
      have hr := rngV_get l j x hx
      match i, hu with
      | 0, hu => cases hu; exact h.cells (g := g) rfl (j * 2 + 0) _ (by rw [Nat.add_zero, Nat.mul_comm]; exact hr.1)
      | 1, hu => cases hu; exact h.cells (g := g) rfl (j * 2 + 1) _ (by rw [Nat.mul_comm]; exact hr.2)
      | i + 2, hu => simp at hu
theorem row_reads (W : World) (p m : Int) : Kd.C k56 (W.alloc (.cells #[.int .i64 p, .int .i64 m] 56)) (some ⟨W.heap.size, 0, none⟩) 1 [⟨p, m⟩] := by
  refine ⟨rfl, by omega, fun _ => ⟨_, rfl, fun j q hj => ⟨[.int .i64 p, .int .i64 m], rfl, ?_, fun i u hu => ?_⟩⟩⟩
  · match j, hj with
    | 0, hj => cases hj; exact PAllocActs.k56_mk _ ⟨p, m⟩
    | j + 1, hj => simp at hj
  · match j, hj with
    | 0, hj => rw [Nat.zero_mul, Nat.zero_add]; exact cells_new W _ rfl [.int .i64 p, .int .i64 m] 56 i u hu
    | j + 1, hj => simp at hj
theorem at_ok {w : World} {A : Option Addr} {c : Nat} {p m : Int} (h : Kd.C k56 w A 1 [⟨p, m⟩]) (hc : 1 ≤ c) : Calls Try.prog 38 #[.slice A 1 c, .int .i64 p, .int .i64 m] w fun e w' => e = .returned (.bool true) ∧ Below w.heap.size w w' := by
  refine (PAllocActs.archivoltlaw17_at.calls A c [⟨p, m⟩] p m true w h hc ?_).mono ?_
  · unfold PAllocActs.archivoltlaw17_at.f
    simp [rd_T56]
  · rintro e w' ⟨rfl, hd⟩
    exact ⟨rfl, hd.below⟩
section
variable {G A n : Nat} {us : List Bool} {tx : Nat} {w : World} {near : Int} {inside : Bool}
theorem take_at {m : Int} {L : List Ext2} {k : Nat} (h : SU w G A n us) (hE : chooseE us n m near = 0) (hL : (chooseM us n m.toNat near inside).2 = L) (hk : L.length = k) :
    Calls Try.prog 14 #[.iface 26 (.pointer (some ⟨G, 0, none⟩)), .int .i64 tx, .int .i64 m, .int .i64 near, .bool inside] w fun x w' =>
      ∃ Al c, x = .returned (.tuple #[.slice Al k c, .int .i64 0]) ∧ k ≤ c ∧ w'.ownsRow w.heap.size 56 2 (.slice Al k c) k (rngV L) ∧ SU w' G A n (chooseM us n m.toNat near inside).1 ∧ w.grownBy w' (some A) := by
  refine (take_us h hE).mono ?_
  rintro x w' ⟨us', l, Al, c, hch, rfl, ho, hS, hg⟩
  rw [hch] at hL ⊢
  simp only at hL
  subst hL
  subst hk
  obtain ⟨A', c', he, hc⟩ := own_is_slice ho
  cases he
  exact ⟨Al, c, rfl, hc, ho, ⟨hS, by have := chooseM_lead (m := m.toNat) (near := near) (inside := inside) h.lead; rw [hch] at this; exact this, h.hi⟩, hg⟩
theorem choose_at {m : Int} {L : List Ext2} {k : Nat} (h : SU w G A n us) (hE : chooseE us n m near = 0) (hL : (chooseM us n m.toNat near inside).2 = L) (hk : L.length = k) :
    Calls Try.prog 29 #[.iface 26 (.pointer (some ⟨G, 0, none⟩)), .int .i64 tx, .int .i64 m, .int .i64 near, .bool inside] w fun x w' =>
      ∃ Al c, x = .returned (.tuple #[.slice Al k c, .int .i64 0]) ∧ k ≤ c ∧ w'.ownsRow w.heap.size 56 2 (.slice Al k c) k (rngV L) ∧ Below w.heap.size w w' := by
  refine (choose_us h hE).mono ?_
  rintro x w' ⟨l, Al, c, hch, rfl, ho, hB⟩
  rw [hL] at hch
  subst hch
  subst hk
  obtain ⟨A', c', he, hc⟩ := own_is_slice ho
  cases he
  exact ⟨Al, c, rfl, hc, ho, hB⟩
end
theorem own_rowA {w w' : World} {base A n : Nat} {cs : List Value} {v : Value} {xs : List Value} (h : w.ownsRow base 56 2 v n xs) (hA : Blk w A cs 22) (hg : w.grownBy w' (some A)) : w'.ownsRow base 56 2 v n xs :=
  h.kept hg (by by_cases hv : v.ownBlock = some A; exact absurd rfl (own_ne_type h hA (by decide) A hv); exact .inr fun e => hv e)
def S0 : List Bool := fmtM 40
def S1 : List Bool := (chooseM S0 40 4 (-1) false).1
def S2 : List Bool := (chooseM S1 40 2 12 false).1
def S3 : List Bool := (chooseM S2 40 3 (-1) true).1
def S4 : List Bool := putM S3 false [⟨9, 2⟩]
theorem s0 : chooseE S0 40 4 (-1) = 0 ∧ (chooseM S0 40 4 (-1) false).2 = [(8, 4)] := by decide +kernel
theorem s1 : chooseE S1 40 2 12 = 0 ∧ (chooseM S1 40 2 12 false).2 = [(12, 2)] := by decide +kernel
theorem s2 : chooseE S2 40 3 (-1) = 0 ∧ (chooseM S2 40 3 (-1) true).2 = [(3, 3)] := by decide +kernel
theorem s3 : changeE 40 S3 false [⟨9, 2⟩] 9 = 0 := by decide +kernel
theorem s4 : chooseE S4 40 2 (-1) = 0 ∧ (chooseM S4 40 2 (-1) false).2 = [(9, 2)] := by decide +kernel
theorem s5 : chooseE S4 40 30 (-1) = 0 ∧ (chooseM S4 40 30 (-1) false).2 = [(14, 26), (9, 2), (6, 2)] := by decide +kernel
theorem s6 : chooseE S4 40 31 (-1) = 5 ∧ freeM S4 = 30 ∧ changeE 40 S4 true [⟨8, 1⟩] 13 = 13 := by decide +kernel
end Go.Proofs.Ytibohhiebejbmaa
/- Walks: sanity: the examples of the chapter. -/
namespace Go.Proofs.Ytibohhiebejbmaa
open Go.RowKit Go.Deep Go.Shelf Go.Proofs.YtibohhiebejbmaaW.PrintWords
open Go.Proofs.Ytibohhiebejbmaa.PAllocActs (S56 k56 rd_T56 at_T56 z56 S34 k34 rd_T34 at_T34)
set_option linter.unusedVariables false
set_option linter.unusedSimpArgs false
set_option maxRecDepth 100000

theorem Sp.arrA {W : World} {G A n : Nat} {b : List Int} (h : Sp W G A n b) : ∃ cs, Blk W A cs 22 := by obtain ⟨-, ⟨cs, h2, -⟩, -⟩ := h; exact ⟨cs, h2⟩
/-- An extent that was taken stands behind later acts. -/
structure Row1 (W : World) (A : Option Addr) (c : Nat) (p m : Nat) : Prop where
  own : ∃ base, W.ownsRow base 56 2 (.slice A 1 c) 1 (rngV [(p, m)])
  le : 1 ≤ c
theorem Row1.on {W W' : World} {A : Option Addr} {c p m : Nat} (h : Row1 W A c p m) (hb : Below W.heap.size W W') : Row1 W' A c p m := by
  obtain ⟨⟨base, ho⟩, hc⟩ := h
  exact ⟨⟨base, own_keep ho hb⟩, hc⟩
theorem Row1.act {W W' : World} {A : Option Addr} {c p m Ap : Nat} {cs : List Value} (h : Row1 W A c p m) (hA : Blk W Ap cs 22) (hg : W.grownBy W' (some Ap)) : Row1 W' A c p m := by
  obtain ⟨⟨base, ho⟩, hc⟩ := h
  exact ⟨⟨base, own_rowA ho hA hg⟩, hc⟩
theorem Row1.reads {W : World} {A : Option Addr} {c p m : Nat} (h : Row1 W A c p m) : Kd.C k56 W A 1 [⟨p, m⟩] := by
  obtain ⟨⟨base, ho⟩, hc⟩ := h
  exact ext_reads ho rfl (by omega)
set_option maxHeartbeats 4000000 in
theorem sanity_any (w : World) : Calls Try.prog 10 #[] w fun e w' => e = .returned (.bool true) ∧ Below w.heap.size w w' := by
  go_enter Try.func10, Try.ntmps10
  go_wp2_with (fail)
  refine (new_any 40 (by omega) w).mono ?_
  rintro e w1 ⟨G, A, rfl, hS, hB1, hG, hA⟩
  have HS1 := Lib.hid hS
  have HB1 := Lib.hid hB1
  have HA := Lib.hid hA
  clear hS hB1 hG hA
  go_wp2_with (fail)
  refine (format_ok (tx := 1) HS1.out (by omega) (by omega)).mono ?_
  rintro e w2 ⟨rfl, hS, hg⟩
  have HS2 : Hid (SU w2 G A 40 S0) := Lib.hid hS
  have HB2 : Hid (Below w.heap.size w w2) := Lib.hid (HB1.out.grown hg HB1.out.size (fun k e => by cases e; exact HA.out))
  clear hS hg
  go_wp2_with (fail)
  refine (take_at (tx := 1) (m := 4) (near := -1) (k := 1) HS2.out s0.1 s0.2 rfl).mono ?_
  rintro e w3 ⟨Aa, ca, rfl, hca, ho, hS, hg⟩
  obtain ⟨cs, hcs⟩ := HS2.out.sp.arrA
  have HS3 : Hid (SU w3 G A 40 S1) := Lib.hid hS
  have HB3 : Hid (Below w.heap.size w w3) := Lib.hid (HB2.out.grown hg HB2.out.size (fun k e => by cases e; exact HA.out))
  have Ra : Hid (Row1 w3 Aa ca 8 4) := Lib.hid ⟨⟨_, ho⟩, hca⟩
  clear hS hg hcs ho
  go_wp2_with (fail)
  refine (take_at (tx := 1) (m := 2) (near := 12) (k := 1) HS3.out s1.1 s1.2 rfl).mono ?_
  rintro e w4 ⟨Ab, cb, rfl, hcb, ho, hS, hg⟩
  obtain ⟨cs, hcs⟩ := HS3.out.sp.arrA
  have HS4 : Hid (SU w4 G A 40 S2) := Lib.hid hS
  have HB4 : Hid (Below w.heap.size w w4) := Lib.hid (HB3.out.grown hg HB3.out.size (fun k e => by cases e; exact HA.out))
  have Ra4 := Lib.hid (Ra.out.act hcs hg)
  have Rb : Hid (Row1 w4 Ab cb 12 2) := Lib.hid ⟨⟨_, ho⟩, hcb⟩
  clear hS hg hcs ho
  go_wp2_with (fail)
  refine (take_at (tx := 1) (m := 3) (near := -1) (k := 1) HS4.out s2.1 s2.2 rfl).mono ?_
  rintro e w5 ⟨Ac, cc, rfl, hcc, ho, hS, hg⟩
  obtain ⟨cs, hcs⟩ := HS4.out.sp.arrA
  have HS5 : Hid (SU w5 G A 40 S3) := Lib.hid hS
  have HB5 : Hid (Below w.heap.size w w5) := Lib.hid (HB4.out.grown hg HB4.out.size (fun k e => by cases e; exact HA.out))
  have Ra5 := Lib.hid (Ra4.out.act hcs hg)
  have Rb5 := Lib.hid (Rb.out.act hcs hg)
  have Rc : Hid (Row1 w5 Ac cc 3 3) := Lib.hid ⟨⟨_, ho⟩, hcc⟩
  clear hS hg hcs ho
  go_wp2_with (fail)
  have hb6 := one_alloc w5 (.cells #[.int .i64 9, .int .i64 2] 56)
  refine (give_us (tx := 1) (l := [⟨9, 2⟩]) (HS5.out.on hb6) (row_reads w5 9 2) (Nat.le_refl _) s3).mono ?_
  rintro e w6 ⟨rfl, hS, hg⟩
  obtain ⟨cs, hcs⟩ := (HS5.out.on hb6).sp.arrA
  have HS6 : Hid (SU w6 G A 40 S4) := Lib.hid ⟨hS, change_lead (er := 9) (by decide) HS5.out.lead s3, by omega⟩
  have HBa := below_then HB5.out HB5.out.size hb6
  have HB6 : Hid (Below w.heap.size w w6) := Lib.hid (HBa.grown hg HBa.size (fun k e => by cases e; exact HA.out))
  have Ra6 := Lib.hid ((Ra5.out.on hb6).act hcs hg)
  have Rb6 := Lib.hid ((Rb5.out.on hb6).act hcs hg)
  have Rc6 := Lib.hid ((Rc.out.on hb6).act hcs hg)
  clear hS hg hcs hb6 HBa
  go_wp2_with (fail)
  refine (at_ok (p := 8) (m := 4) Ra6.out.reads Ra6.out.le).mono ?_
  rintro e w7 ⟨rfl, hb⟩
  have HS7 := Lib.hid (HS6.out.on hb)
  have HB7 := Lib.hid (below_then HB6.out HB6.out.size hb)
  have Rb7 := Lib.hid (Rb6.out.on hb)
  have Rc7 := Lib.hid (Rc6.out.on hb)
  clear hb
  go_wp2_with (fail)
  refine (at_ok (p := 12) (m := 2) Rb7.out.reads Rb7.out.le).mono ?_
  rintro e w8 ⟨rfl, hb⟩
  have HS8 := Lib.hid (HS7.out.on hb)
  have HB8 := Lib.hid (below_then HB7.out HB7.out.size hb)
  have Rc8 := Lib.hid (Rc7.out.on hb)
  clear hb
  go_wp2_with (fail)
  refine (at_ok (p := 3) (m := 3) Rc8.out.reads Rc8.out.le).mono ?_
  rintro e w9 ⟨rfl, hb⟩
  have HS9 := Lib.hid (HS8.out.on hb)
  have HB9 := Lib.hid (below_then HB8.out HB8.out.size hb)
  clear hb
  go_wp2_with (fail)
  refine (choose_at (tx := 1) (m := 2) (near := -1) (k := 1) HS9.out s4.1 s4.2 rfl).mono ?_
  rintro e wa ⟨Ad, cd, rfl, hcd, ho, hb⟩
  have HSa := Lib.hid (HS9.out.on hb)
  have HBa := Lib.hid (below_then HB9.out HB9.out.size hb)
  have Rd : Hid (Row1 wa Ad cd 9 2) := Lib.hid ⟨⟨_, ho⟩, hcd⟩
  clear hb ho
  go_wp2_with (fail)
  refine (choose_at (tx := 1) (m := 30) (near := -1) (k := 3) HSa.out s5.1 s5.2 rfl).mono ?_
  rintro e wb ⟨Ax, cx, rfl, hcx, ho, hb⟩
  have HSb := Lib.hid (HSa.out.on hb)
  have HBb := Lib.hid (below_then HBa.out HBa.out.size hb)
  have Rdb := Lib.hid (Rd.out.on hb)
  have Rx : Hid (wb.ownsRow wa.heap.size 56 2 (.slice Ax 3 cx) 3 (rngV [(14, 26), (9, 2), (6, 2)])) := Lib.hid ho
  clear hb ho
  go_wp2_with (fail)
  refine (choose_err (tx := 1) (m := 31) (near := -1) HSb.out (by rw [s6.1]; decide)).mono ?_
  rintro e wc ⟨rfl, hb⟩
  rw [s6.1]
  have HSc := Lib.hid (HSb.out.on hb)
  have HBc := Lib.hid (below_then HBb.out HBb.out.size hb)
  have Rdc := Lib.hid (Rdb.out.on hb)
  have Rxc := Lib.hid (own_keep Rx.out hb)
  clear hb
  go_wp2_with (fail)
  refine (free_us (tx := 1) HSc.out).mono ?_
  rintro e wd ⟨rfl, hb⟩
  rw [s6.2.1]
  have HSd := Lib.hid (HSc.out.on hb)
  have HBd := Lib.hid (below_then HBc.out HBc.out.size hb)
  have Rdd := Lib.hid (Rdc.out.on hb)
  have Rxd := Lib.hid (own_keep Rxc.out hb)
  clear hb
  go_wp2_with (fail)
  refine (at_ok (p := 9) (m := 2) Rdd.out.reads Rdd.out.le).mono ?_
  rintro e we ⟨rfl, hb⟩
  have HSe := Lib.hid (HSd.out.on hb)
  have HBe := Lib.hid (below_then HBd.out HBd.out.size hb)
  have Rxe := own_keep Rxd.out hb
  clear hb
  obtain ⟨gx, cap, hgx⟩ := ownsRow_succ (k := 2) Rxe
  cases hgx
  have x0 : we.cell? ⟨gx, 4, none⟩ = some (.int .i64 6) := Rxe.cellAt 4 (by show 4 < 3 * 2; omega)
  have x1 : we.cell? ⟨gx, 5, none⟩ = some (.int .i64 2) := Rxe.cellAt 5 (by show 5 < 3 * 2; omega)
  have heq : ∀ W : World, (binOp .eql 56 (.agg #[.int .i64 6, .int .i64 2]) (.agg #[.int .i64 6, .int .i64 2])).run Try.prog W = .ok (.bool true) W := fun W => by kernel_rfl
  clear Rxe
  go_wp2_with (fail)
  have hbf := one_alloc we (.cells #[.int .i64 8, .int .i64 1] 56)
  refine (mark_err (tx := 1) (l := [⟨8, 1⟩]) (HSe.out.on hbf) (row_reads we 8 1) (Nat.le_refl _) (by rw [s6.2.2]; decide)).mono ?_
  rintro e wf ⟨rfl, hb⟩
  rw [s6.2.2]
  have HBf := Lib.hid (below_then (below_then HBe.out HBe.out.size hbf) (below_then HBe.out HBe.out.size hbf).size hb)
  clear hb hbf
  go_wp2_with (fail)
  go_ret
  exact ⟨rfl, HBf.out⟩
end Go.Proofs.Ytibohhiebejbmaa
/- Walks: few; gone: a Space that was formatted, behind some acts. -/
namespace Go.Proofs.Ytibohhiebejbmaa
open Go.RowKit Go.Deep Go.Shelf Go.Proofs.YtibohhiebejbmaaW.PrintWords
open Go.Proofs.Ytibohhiebejbmaa.PAllocActs (S56 k56 rd_T56 at_T56 z56 S34 k34 rd_T34 at_T34)
set_option linter.unusedVariables false
set_option linter.unusedSimpArgs false
set_option maxRecDepth 100000

theorem w64 {z : Int} (h : -9223372036854775808 ≤ z ∧ z ≤ 9223372036854775807) : wrap64 z = z := by unfold wrap64; omega
theorem few_l0 (x0 : Int) (x1 : List S34) (hm : x1.length ≤ 9223372036854775807) : ∀ (k : Nat) (x5 x6 : Int), 0 ≤ x6 → x6 ≤ x1.length → x1.length - x6 < k → ∃ r, PAllocActs.archivoltlaw17_few.l0 k x0 x1 x5 x6 = some r ∧ (r = true → 4 ≤ x0 ∧ x0 ≤ 1600 ∧ x1.length ≤ 60)
  | 0, x5, x6, h0, h1, h2 => by omega
  | k + 1, x5, x6, h0, h1, h2 => by
    unfold PAllocActs.archivoltlaw17_few.l0
    by_cases h3 : x6 < (x1.length : Int)
    · rw [if_pos h3, if_pos h0, w64 (z := x6 + 1) (by omega)]
      exact few_l0 x0 x1 hm k _ _ (by omega) (by omega) (by omega)
    · rw [if_neg h3]
      by_cases h4 : x0 ≥ 4
      · rw [if_pos h4]
        by_cases h5 : x0 ≤ 1600
        · rw [if_pos h5]
          by_cases h6 : (x1.length : Int) ≤ 60
          · rw [if_pos h6]
            exact ⟨_, rfl, fun _ => ⟨h4, h5, by omega⟩⟩
          · rw [if_neg h6]; exact ⟨false, rfl, fun h => by cases h⟩
        · rw [if_neg h5]; exact ⟨false, rfl, fun h => by cases h⟩
      · rw [if_neg h4]; exact ⟨false, rfl, fun h => by cases h⟩
theorem few_any (n : Int) (A : Option Addr) (c : Nat) (acts : List S34) (w : World) (hr : Kd.C k34 w A acts.length acts) (hc : acts.length ≤ c) (hm : acts.length ≤ 9223372036854775807) :
    ∃ r, (r = true → 4 ≤ n ∧ n ≤ 1600 ∧ acts.length ≤ 60) ∧ Calls Try.prog 9 #[.int .i64 n, .slice A acts.length c] w fun e w' => e = .returned (.bool r) ∧ Below w.heap.size w w' := by
  obtain ⟨r, h1, h2⟩ := few_l0 n acts hm (acts.length + 1) 0 0 (by omega) (by omega) (by omega)
  refine ⟨r, h2, (PAllocActs.archivoltlaw17_few.calls (acts.length + 1) n A c acts r w hr hc h1).mono ?_⟩
  rintro e w' ⟨rfl, hd⟩
  exact ⟨rfl, hd.below⟩
/-- The table behind an act. -/
def actM (n : Nat) (us : List Bool) (x : S34) : List Bool :=
  if x.f0 = 0 then (if chooseE us n x.f1 x.f2 = 0 then (chooseM us n x.f1.toNat x.f2 x.f3).1 else us)
  else if x.f0 = 1 then (if changeE n us false x.f4 9 = 0 then putM us false x.f4 else us)
  else (if changeE n us true x.f4 13 = 0 then putM us true x.f4 else us)
def goneM (n : Nat) (acts : List S34) : List Bool := acts.foldl (actM n) (fmtM n)
theorem actM_lead {n : Nat} {us : List Bool} {x : S34} (h : Lead us n) : Lead (actM n us x) n := by
  unfold actM
  repeat' split
  · exact chooseM_lead h
  · exact h
  · rename_i h1; exact change_lead (by decide) h h1
  · exact h
  · rename_i h1; exact change_lead (by decide) h h1
  · exact h
theorem goneM_lead {n : Nat} (hn : 4 ≤ n) (acts : List S34) : Lead (goneM n acts) n := by
  have : ∀ (l : List S34) (us : List Bool), Lead us n → Lead (l.foldl (actM n) us) n := by
    intro l
    induction l with
    | nil => exact fun us h => h
    | cons x t ih => exact fun us h => ih _ (actM_lead h)
  exact this acts _ (fmtM_lead hn)
section
variable {G A n : Nat} {us : List Bool} {tx : Nat} {w : World}
theorem take_act (m near : Int) (inside : Bool) (h : SU w G A n us) : Calls Try.prog 14 #[.iface 26 (.pointer (some ⟨G, 0, none⟩)), .int .i64 tx, .int .i64 m, .int .i64 near, .bool inside] w fun x w' =>
    ∃ Al a c k, x = .returned (.tuple #[.slice Al a c, .int .i64 k]) ∧ SU w' G A n (if chooseE us n m near = 0 then (chooseM us n m.toNat near inside).1 else us) ∧ w.grownBy w' (some A) := by
  by_cases hE : chooseE us n m near = 0
  · rw [if_pos hE]
    refine (take_us h hE).mono ?_
    rintro x w' ⟨us', l, Al, c, hch, rfl, ho, hS, hg⟩
    rw [hch]
    exact ⟨Al, _, c, 0, rfl, ⟨hS, by have := chooseM_lead (m := m.toNat) (near := near) (inside := inside) h.lead; rw [hch] at this; exact this, h.hi⟩, hg⟩
  · rw [if_neg hE]
    refine (take_err h hE).mono ?_
    rintro x w' ⟨rfl, hB⟩
    exact ⟨none, 0, 0, _, rfl, h.on hB, Ytibohhiebejbmaa.grown_of_below hB _⟩
theorem give_act {Al : Option Addr} {c : Nat} {l : List S56} (h : SU w G A n us) (hl : Kd.C k56 w Al l.length l) (hc : l.length ≤ c) : Calls Try.prog 18 #[.iface 26 (.pointer (some ⟨G, 0, none⟩)), .int .i64 tx, .slice Al l.length c] w fun x w' =>
    x = .returned (.int .i64 (changeE n us false l 9)) ∧ SU w' G A n (if changeE n us false l 9 = 0 then putM us false l else us) ∧ w.grownBy w' (some A) := by
  by_cases hE : changeE n us false l 9 = 0
  · rw [if_pos hE]
    refine (give_us h hl hc hE).mono ?_
    rintro x w' ⟨rfl, hS, hg⟩
    exact ⟨by rw [hE], ⟨hS, change_lead (by decide) h.lead hE, h.hi⟩, hg⟩
  · rw [if_neg hE]
    refine (give_err h hl hc hE).mono ?_
    rintro x w' ⟨rfl, hB⟩
    exact ⟨rfl, h.on hB, Ytibohhiebejbmaa.grown_of_below hB _⟩
theorem mark_act {Al : Option Addr} {c : Nat} {l : List S56} (h : SU w G A n us) (hl : Kd.C k56 w Al l.length l) (hc : l.length ≤ c) : Calls Try.prog 21 #[.iface 26 (.pointer (some ⟨G, 0, none⟩)), .int .i64 tx, .slice Al l.length c] w fun x w' =>
    x = .returned (.int .i64 (changeE n us true l 13)) ∧ SU w' G A n (if changeE n us true l 13 = 0 then putM us true l else us) ∧ w.grownBy w' (some A) := by
  by_cases hE : changeE n us true l 13 = 0
  · rw [if_pos hE]
    refine (mark_us h hl hc hE).mono ?_
    rintro x w' ⟨rfl, hS, hg⟩
    exact ⟨by rw [hE], ⟨hS, change_lead (by decide) h.lead hE, h.hi⟩, hg⟩
  · rw [if_neg hE]
    refine (mark_err h hl hc hE).mono ?_
    rintro x w' ⟨rfl, hB⟩
    exact ⟨rfl, h.on hB, Ytibohhiebejbmaa.grown_of_below hB _⟩
end
theorem drop_rd34 {l : List S34} {i : Nat} (h : i < l.length) : l.drop i = rd_T34 l i :: l.drop (i + 1) := by
  rw [List.drop_eq_getElem_cons h]
  unfold rd_T34
  simp [List.getD_eq_getElem?_getD, List.getElem?_eq_getElem h]

set_option maxHeartbeats 4000000 in
theorem gone_any (n : Nat) (hn : 4 ≤ n) (hn2 : n ≤ 1536) (Aa : Option Addr) (c : Nat) (acts : List S34) (w : World) (hr : Kd.C k34 w Aa acts.length acts) (hc : acts.length ≤ c) (hm : acts.length ≤ 1000000) :
    Calls Try.prog 23 #[.int .i64 n, .slice Aa acts.length c] w fun e w' => ∃ G A, e = .returned (.pointer (some ⟨G, 0, none⟩)) ∧ SU w' G A n (goneM n acts) ∧ Below w.heap.size w w' ∧ w.heap.size ≤ G ∧ w.heap.size ≤ A := by
  have HR := Lib.hid hr
  obtain ⟨ll, hll⟩ : ∃ ll, acts.length = ll := ⟨_, rfl⟩
  have HLL := Lib.hid hll
  have HI : Hid (∀ W, Below w.heap.size w W → Kd.C k34 W Aa ll acts) := Lib.hid (by rw [← hll]; exact fun W hb => Kd.C_below HR.out hb)
  rw [hll] at hc hm ⊢
  clear hr hll HR
  go_enter Try.func23, Try.ntmps23
  go_wp2_with (first
    | (go_at_call 37; refine (new_any n (by omega) w).mono ?_; rintro e w1 ⟨G, A, rfl, hS, hB1, hG, hA⟩; (have HS1 := Lib.hid hS); (have HB1 := Lib.hid hB1); (have HA := Lib.hid hA); (have HG := Lib.hid hG); clear hS hB1 hG hA)
    | (go_at_call 35; refine (format_ok (tx := 1) HS1.out hn hn2).mono ?_; rintro e w2 ⟨rfl, hS, hg⟩; (have HS2 := Lib.hid hS); (have HB2 : Hid (Below w.heap.size w w2) := Lib.hid (HB1.out.grown hg HB1.out.size (fun k e => by cases e; exact HA.out))); clear hS hg))
  have HF0 : Hid ((acts.drop 0).foldl (actM n) (fmtM n) = goneM n acts) := Lib.hid rfl
  go_loopg [6] (ll + 1) (fun kq v W => ∃ (i : Nat) (us : List Bool), v = .int .i64 i ∧ i ≤ ll ∧ ll - i < kq ∧ Hid (SU W G A n us) ∧ Hid (Below w.heap.size w W) ∧ Hid ((acts.drop i).foldl (actM n) us = goneM n acts))
  case atStart => exact ⟨0, fmtM n, by simp, by omega, by omega, HS2, HB2, HF0⟩
  case round =>
    clear HS2 HB2 HF0 HS1 HB1
    obtain ⟨i, us, rfl, hi, hkq, HS, HB, HF⟩ := hrel
    by_cases hlt : i < ll
    · have hlti : (i : Int) < (ll : Int) := by omega
      obtain ⟨ad, A4, c4, ea, q0, q1, q2, q3, q4, hl4, hk4⟩ := at_T34 (HI.out _ HB.out) (i : Int) (by omega) hlti
      cases ea
      rw [show ((i : Nat) : Int).toNat = i from rfl] at q0 q1 q2 q3 q4
      have hdr := drop_rd34 (l := acts) (i := i) (by rw [HLL.out]; exact hlt)
      obtain ⟨⟨f0, f1, f2, f3, f4⟩, hx⟩ : ∃ x, rd_T34 acts i = x := ⟨_, rfl⟩
      rw [hx] at q0 q1 q2 q3 q4 hl4 hk4 hdr
      simp only at q0 q1 q2 q3 q4 hl4 hk4
      have HF2 : Hid ((acts.drop (i + 1)).foldl (actM n) (actM n us ⟨f0, f1, f2, f3, f4⟩) = goneM n acts) := Lib.hid (by have h9 := HF.out; rw [hdr] at h9; exact h9)
      have HK4 := Lib.hid hk4
      have HL4 := Lib.hid hl4
      clear hx hdr HF hk4 hl4
      go_upto_region 8 with (fail)
      have hb5 := one_alloc wr (.cells #[.int .i64 f0, .int .i64 f1, .int .i64 f2, .bool f3, .slice A4 f4.length c4] 34)
      have hX5 := Blk.new wr [.int .i64 f0, .int .i64 f1, .int .i64 f2, .bool f3, .slice A4 f4.length c4] 34
      obtain ⟨W5, hW5⟩ : ∃ W5, wr.alloc (.cells #[.int .i64 f0, .int .i64 f1, .int .i64 f2, .bool f3, .slice A4 f4.length c4] 34) = W5 := ⟨_, rfl⟩
      obtain ⟨X, hX⟩ : ∃ X, wr.heap.size = X := ⟨_, rfl⟩
      have HX5 : Hid (Blk W5 X [.int .i64 f0, .int .i64 f1, .int .i64 f2, .bool f3, .slice A4 f4.length c4] 34) := Lib.hid (by rw [← hW5, ← hX]; exact hX5)
      have HS5 : Hid (SU W5 G A n us) := Lib.hid (by rw [← hW5]; exact HS.out.on hb5)
      have HK5 : Hid (Kd.C k56 W5 A4 f4.length f4) := Lib.hid (by rw [← hW5]; exact Kd.C_below HK4.out hb5)
      have HB5 : Hid (Below w.heap.size w W5) := Lib.hid (by rw [← hW5]; exact Ytibohhiebejbmaa.below_al HB.out _)
      rw [hW5]
      try rw [hX]
      clear hW5 hX hX5 hb5 HS HK4 HB q0 q1 q2 q3 q4
      have c0 := HX5.out.cell (j := 0) rfl
      have c1 := HX5.out.cell (j := 1) rfl
      have c2 := HX5.out.cell (j := 2) rfl
      have c3 := HX5.out.cell (j := 3) rfl
      have c5 := HX5.out.cell (j := 4) rfl
      by_cases h0 : f0 = 0
      · subst h0
        have HF3 : Hid ((acts.drop (i + 1)).foldl (actM n) (if chooseE us n f1 f2 = 0 then (chooseM us n f1.toNat f2 f3).1 else us) = goneM n acts) := Lib.hid HF2.out
        go_wp2_with (go_at_call 14; refine (take_act (tx := 1) f1 f2 f3 HS5.out).mono ?_; rintro x w6 ⟨Al, a6, c6, k6, rfl, hS, hg⟩; (have HS6 := Lib.hid hS); (have HB6 : Hid (Below w.heap.size w w6) := Lib.hid (HB5.out.grown hg HB5.out.size (fun k e => by cases e; exact HA.out))); clear hS hg)
        go_roundg (ll - i)
        case measure => omega
        case rel => exact ⟨i + 1, _, by simp, by omega, by omega, HS6, HB6, HF3⟩
      · by_cases h1 : f0 = 1
        · subst h1
          have HF3 : Hid ((acts.drop (i + 1)).foldl (actM n) (if changeE n us false f4 9 = 0 then putM us false f4 else us) = goneM n acts) := Lib.hid HF2.out
          go_wp2_with (go_at_call 18; refine (give_act (tx := 1) HS5.out HK5.out HL4.out).mono ?_; rintro x w6 ⟨rfl, hS, hg⟩; (have HS6 := Lib.hid hS); (have HB6 : Hid (Below w.heap.size w w6) := Lib.hid (HB5.out.grown hg HB5.out.size (fun k e => by cases e; exact HA.out))); clear hS hg)
          go_roundg (ll - i)
          case measure => omega
          case rel => exact ⟨i + 1, _, by simp, by omega, by omega, HS6, HB6, HF3⟩
        · have HF3 : Hid ((acts.drop (i + 1)).foldl (actM n) (if changeE n us true f4 13 = 0 then putM us true f4 else us) = goneM n acts) := Lib.hid (by have h9 := HF2.out; unfold actM at h9; rw [if_neg h0, if_neg h1] at h9; exact h9)
          go_wp2_with (go_at_call 21; refine (mark_act (tx := 1) HS5.out HK5.out HL4.out).mono ?_; rintro x w6 ⟨rfl, hS, hg⟩; (have HS6 := Lib.hid hS); (have HB6 : Hid (Below w.heap.size w w6) := Lib.hid (HB5.out.grown hg HB5.out.size (fun k e => by cases e; exact HA.out))); clear hS hg)
          go_roundg (ll - i)
          case measure => omega
          case rel => exact ⟨i + 1, _, by simp, by omega, by omega, HS6, HB6, HF3⟩
    · have hie : i = ll := by omega
      have hlti : ¬ (i : Int) < (ll : Int) := by omega
      have HUS : Hid (us = goneM n acts) := Lib.hid (by
        have h9 := HF.out
        rw [hie, ← HLL.out, List.drop_length] at h9
        exact h9)
      clear hie HF
      go_wp2
      go_ret
      exact ⟨G, rfl, A, by rw [← HUS.out]; exact HS.out, HB.out, HG.out, HA.out⟩
end Go.Proofs.Ytibohhiebejbmaa
