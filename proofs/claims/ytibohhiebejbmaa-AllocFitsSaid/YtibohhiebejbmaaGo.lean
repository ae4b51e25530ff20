/- Walks: the deferred functions of guarded. -/
import Derived.Test.YtibohhiebejbmaaGa
import Derived.Deep.RegionWith
namespace Go.Proofs.Ytibohhiebejbmaa
open Go.RowKit Go.Deep
set_option linter.unusedVariables false
set_option linter.unusedSimpArgs false
set_option maxRecDepth 100000

set_option maxHeartbeats 4000000 in
theorem guard66_idle (m : Nat) (p q : Value) (w : World) : CallsDIn Fence.wide m Try.prog 66 #[p, q] .returning w fun e u' w' => e = .returned (.tuple #[]) ∧ u' = .returning ∧ w' = w := by
  refine callsDIn_of_wpSIn Try.func66 rfl trivial fun c₀ cs hu => ?_
  simp only [Try.ntmps66, List.size_toArray, List.length_cons, List.length_nil, Nat.reduceAdd, Nat.reduceSub, Array.replicate_succ, Array.replicate_zero, List.push_toArray, List.append_toArray, List.nil_append, List.cons_append]
  apply wpSIn_seq
  apply wpSIn_region
  simp [wpOpsSIn, go_sem, recoverD, hu, Exit.thenS]
  refine wpSIn_of_wpIn rfl ?_
  gi_wp2
  cases c₀
  simp_all [bodyPostS, results, Try.results66]

set_option maxHeartbeats 4000000 in
theorem guard77_idle (m : Nat) (p q : Value) (w : World) : CallsDIn Fence.wide m Try.prog 77 #[p, q] .returning w fun e u' w' => e = .returned (.tuple #[]) ∧ u' = .returning ∧ w' = w := by
  refine callsDIn_of_wpSIn Try.func77 rfl trivial fun c₀ cs hu => ?_
  simp only [Try.ntmps77, List.size_toArray, List.length_cons, List.length_nil, Nat.reduceAdd, Nat.reduceSub, Array.replicate_succ, Array.replicate_zero, List.push_toArray, List.append_toArray, List.nil_append, List.cons_append]
  apply wpSIn_seq
  apply wpSIn_region
  simp [wpOpsSIn, go_sem, recoverD, hu, Exit.thenS]
  refine wpSIn_of_wpIn rfl ?_
  gi_wp2
  cases c₀
  simp_all [bodyPostS, results, Try.results77]

set_option maxHeartbeats 4000000 in
theorem guard78_idle (m : Nat) (p q : Value) (w : World) : CallsDIn Fence.wide m Try.prog 78 #[p, q] .returning w fun e u' w' => e = .returned (.tuple #[]) ∧ u' = .returning ∧ w' = w := by
  refine callsDIn_of_wpSIn Try.func78 rfl trivial fun c₀ cs hu => ?_
  simp only [Try.ntmps78, List.size_toArray, List.length_cons, List.length_nil, Nat.reduceAdd, Nat.reduceSub, Array.replicate_succ, Array.replicate_zero, List.push_toArray, List.append_toArray, List.nil_append, List.cons_append]
  apply wpSIn_seq
  apply wpSIn_region
  simp [wpOpsSIn, go_sem, recoverD, hu, Exit.thenS]
  refine wpSIn_of_wpIn rfl ?_
  gi_wp2
  cases c₀
  simp_all [bodyPostS, results, Try.results78]
end Go.Proofs.Ytibohhiebejbmaa
/- Walks: the deferred functions of guarded, at a frame that panics. -/
namespace Go.Proofs.Ytibohhiebejbmaa
open Go.RowKit Go.Deep
set_option linter.unusedVariables false
set_option linter.unusedSimpArgs false
set_option maxRecDepth 100000
theorem ta_bad (e : Int) (w : World) : (Instr.typeAssert (.iface 96 (.agg #[.int .i64 e])) 20 96 true).run Try.prog w = .ok (.tuple #[.agg #[.int .i64 e], .bool true]) w := by kernel_rfl
theorem ne_bad (e : Int) (w : World) : (binOp .eql 20 (.iface 96 (.agg #[.int .i64 e])) .nilIface).run Try.prog w = .ok (.bool false) w := by kernel_rfl
set_option maxHeartbeats 4000000 in
theorem guard66_panicking (m : Nat) (B1 B2 : Nat) (v k : Value) (e : Int) (older : List PanicEntry) (w : World) (h1 : Blk w B1 [v] 32) (h2 : Blk w B2 [k] 35) :
    CallsDIn Fence.wide m Try.prog 66 #[.pointer (some ⟨B1, 0, none⟩), .pointer (some ⟨B2, 0, none⟩)] (.panicking ({ v := .iface 96 (.agg #[.int .i64 e]), recovered := false } :: older)) w fun x u' w' =>
      x = .returned (.tuple #[]) ∧ u' = .panicking ({ v := .iface 96 (.agg #[.int .i64 e]), recovered := true } :: older) ∧ ∃ W, Below w.heap.size w W ∧ w' = ((W.setCell ⟨B1, 0, none⟩ (.slice none 0 0)).setCell ⟨B2, 0, none⟩ (.int .i64 e)).drew := by
  have hta := ta_bad e
  have hnb := ne_bad e
  refine callsDIn_of_wpSIn Try.func66 rfl trivial fun c₀ cs hu => ?_
  simp only [Try.ntmps66, List.size_toArray, List.length_cons, List.length_nil, Nat.reduceAdd, Nat.reduceSub, Array.replicate_succ, Array.replicate_zero, List.push_toArray, List.append_toArray, List.nil_append, List.cons_append]
  apply wpSIn_seq
  apply wpSIn_region
  simp [wpOpsSIn, go_sem, recoverD, hu, Exit.thenS]
  refine wpSIn_of_wpIn rfl ?_
  gi_wp2
  obtain ⟨W5, hW5⟩ : ∃ W5, w.alloc (.cells #[.int .i64 e] 96) = W5 := ⟨_, rfl⟩
  have m1 : Blk W5 B1 [v] 32 := by rw [← hW5]; exact h1.alloc _
  have m2 : Blk W5 B2 [k] 35 := by rw [← hW5]; exact h2.alloc _
  have m3 : Blk W5 w.heap.size [.int .i64 e] 96 := by rw [← hW5]; exact Blk.new w [.int .i64 e] 96
  have mb : Below w.heap.size w W5 := by rw [← hW5]; exact one_alloc _ _
  rw [hW5]
  have c1 := m1.cell (j := 0) rfl
  have c2 := m2.cell (j := 0) rfl
  have c3 := m3.cell (j := 0) rfl
  have f1 := m1.fz
  have f2 := m2.fz
  have n12 : B1 ≠ B2 := m1.ne m2 (by decide)
  have n13 : w.heap.size ≠ B1 := m3.ne m1 (by decide)
  have n23 : w.heap.size ≠ B2 := m3.ne m2 (by decide)
  clear hW5
  refine wpIn_wide.2 ?_
  go_region_with (fail)
  all_goals (cases c₀; simp [bodyPostS, results, Try.results66, Exit.inBlock]; exact ⟨W5, mb, rfl⟩)
set_option maxHeartbeats 4000000 in
theorem guard77_panicking (m : Nat) (B1 B2 : Nat) (v k : Value) (e : Int) (older : List PanicEntry) (w : World) (h1 : Blk w B1 [v] 3) (h2 : Blk w B2 [k] 35) :
    CallsDIn Fence.wide m Try.prog 77 #[.pointer (some ⟨B1, 0, none⟩), .pointer (some ⟨B2, 0, none⟩)] (.panicking ({ v := .iface 96 (.agg #[.int .i64 e]), recovered := false } :: older)) w fun x u' w' =>
      x = .returned (.tuple #[]) ∧ u' = .panicking ({ v := .iface 96 (.agg #[.int .i64 e]), recovered := true } :: older) ∧ ∃ W, Below w.heap.size w W ∧ w' = ((W.setCell ⟨B1, 0, none⟩ (.int .i64 0)).setCell ⟨B2, 0, none⟩ (.int .i64 e)).drew := by
  have hta := ta_bad e
  have hnb := ne_bad e
  refine callsDIn_of_wpSIn Try.func77 rfl trivial fun c₀ cs hu => ?_
  simp only [Try.ntmps77, List.size_toArray, List.length_cons, List.length_nil, Nat.reduceAdd, Nat.reduceSub, Array.replicate_succ, Array.replicate_zero, List.push_toArray, List.append_toArray, List.nil_append, List.cons_append]
  apply wpSIn_seq
  apply wpSIn_region
  simp [wpOpsSIn, go_sem, recoverD, hu, Exit.thenS]
  refine wpSIn_of_wpIn rfl ?_
  gi_wp2
  obtain ⟨W5, hW5⟩ : ∃ W5, w.alloc (.cells #[.int .i64 e] 96) = W5 := ⟨_, rfl⟩
  have m1 : Blk W5 B1 [v] 3 := by rw [← hW5]; exact h1.alloc _
  have m2 : Blk W5 B2 [k] 35 := by rw [← hW5]; exact h2.alloc _
  have m3 : Blk W5 w.heap.size [.int .i64 e] 96 := by rw [← hW5]; exact Blk.new w [.int .i64 e] 96
  have mb : Below w.heap.size w W5 := by rw [← hW5]; exact one_alloc _ _
  rw [hW5]
  have c1 := m1.cell (j := 0) rfl
  have c2 := m2.cell (j := 0) rfl
  have c3 := m3.cell (j := 0) rfl
  have f1 := m1.fz
  have f2 := m2.fz
  have n12 : B1 ≠ B2 := m1.ne m2 (by decide)
  have n13 : w.heap.size ≠ B1 := m3.ne m1 (by decide)
  have n23 : w.heap.size ≠ B2 := m3.ne m2 (by decide)
  clear hW5
  refine wpIn_wide.2 ?_
  go_region_with (fail)
  all_goals (cases c₀; simp [bodyPostS, results, Try.results77, Exit.inBlock]; exact ⟨W5, mb, rfl⟩)
set_option maxHeartbeats 4000000 in
theorem guard78_panicking (m : Nat) (B1 B2 : Nat) (v k : Value) (e : Int) (older : List PanicEntry) (w : World) (h1 : Blk w B1 [v] 4) (h2 : Blk w B2 [k] 35) :
    CallsDIn Fence.wide m Try.prog 78 #[.pointer (some ⟨B1, 0, none⟩), .pointer (some ⟨B2, 0, none⟩)] (.panicking ({ v := .iface 96 (.agg #[.int .i64 e]), recovered := false } :: older)) w fun x u' w' =>
      x = .returned (.tuple #[]) ∧ u' = .panicking ({ v := .iface 96 (.agg #[.int .i64 e]), recovered := true } :: older) ∧ ∃ W, Below w.heap.size w W ∧ w' = ((W.setCell ⟨B1, 0, none⟩ (.bool false)).setCell ⟨B2, 0, none⟩ (.int .i64 e)).drew := by
  have hta := ta_bad e
  have hnb := ne_bad e
  refine callsDIn_of_wpSIn Try.func78 rfl trivial fun c₀ cs hu => ?_
  simp only [Try.ntmps78, List.size_toArray, List.length_cons, List.length_nil, Nat.reduceAdd, Nat.reduceSub, Array.replicate_succ, Array.replicate_zero, List.push_toArray, List.append_toArray, List.nil_append, List.cons_append]
  apply wpSIn_seq
  apply wpSIn_region
  simp [wpOpsSIn, go_sem, recoverD, hu, Exit.thenS]
  refine wpSIn_of_wpIn rfl ?_
  gi_wp2
  obtain ⟨W5, hW5⟩ : ∃ W5, w.alloc (.cells #[.int .i64 e] 96) = W5 := ⟨_, rfl⟩
  have m1 : Blk W5 B1 [v] 4 := by rw [← hW5]; exact h1.alloc _
  have m2 : Blk W5 B2 [k] 35 := by rw [← hW5]; exact h2.alloc _
  have m3 : Blk W5 w.heap.size [.int .i64 e] 96 := by rw [← hW5]; exact Blk.new w [.int .i64 e] 96
  have mb : Below w.heap.size w W5 := by rw [← hW5]; exact one_alloc _ _
  rw [hW5]
  have c1 := m1.cell (j := 0) rfl
  have c2 := m2.cell (j := 0) rfl
  have c3 := m3.cell (j := 0) rfl
  have f1 := m1.fz
  have f2 := m2.fz
  have n12 : B1 ≠ B2 := m1.ne m2 (by decide)
  have n13 : w.heap.size ≠ B1 := m3.ne m1 (by decide)
  have n23 : w.heap.size ≠ B2 := m3.ne m2 (by decide)
  clear hW5
  refine wpIn_wide.2 ?_
  go_region_with (fail)
  all_goals (cases c₀; simp [bodyPostS, results, Try.results78, Exit.inBlock]; exact ⟨W5, mb, rfl⟩)
end Go.Proofs.Ytibohhiebejbmaa
