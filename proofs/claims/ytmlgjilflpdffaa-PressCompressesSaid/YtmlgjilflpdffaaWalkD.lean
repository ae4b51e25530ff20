/- Walks: caught, Tokens, Size, Expand. -/
import Derived.Test.YtmlgjilflpdffaaWalkC
namespace Go.Proofs.Ytmlgjilflpdffaa
open Go.RowKit Go.Deep
set_option linter.unusedVariables false
set_option linter.unusedSimpArgs false

theorem ta_hit (c : Int) (w : World) : (Instr.typeAssert (.iface 71 (.agg #[.int .i64 c])) 20 71 true).run Try.prog w = .ok (.tuple #[.agg #[.int .i64 c], .bool true]) w := by kernel_rfl
theorem ta_nil (w : World) : (Instr.typeAssert .nilIface 20 71 true).run Try.prog w = .ok (.tuple #[.agg #[.int .i64 0], .bool false]) w := by kernel_rfl

/-- The deferred function, entered by a frame that panics with a fault: the error is laid. -/
theorem caught_panicking (B : Nat) (x : Int) (c : Int) (older : List PanicEntry) (w : World) (hc : w.cell? ⟨B, 0, none⟩ = some (.int .i64 x)) (hz : w.frozen? ⟨B, 0, none⟩ = false) :
    CallsD Try.prog 35 #[.pointer (some ⟨B, 0, none⟩)] (.panicking ({ v := .iface 71 (.agg #[.int .i64 c]), recovered := false } :: older)) w fun e u' w' =>
      e = .returned (.tuple #[]) ∧ u' = .panicking ({ v := .iface 71 (.agg #[.int .i64 c]), recovered := true } :: older) ∧ w' = (w.alloc (.cells #[.int .i64 c] 71)).setCell ⟨B, 0, none⟩ (.int .i64 c) := by
  have hB : B < w.heap.size := World.block_lt_of_cell? w _ hc
  refine callsD_of_wpS Try.func35 rfl fun c₀ cs hu => ?_
  apply wpS_seq
  apply wpS_region
  simp [wpOpsS, go_sem, recoverD, hu, Try.ntmps35, Exit.thenS, ta_hit, ta_nil]
  apply wpS_seq
  apply wpS_region
  simp [wpOpsS, go_sem, Try.ntmps35, Exit.thenS]
  refine wpS_cond (t := true) (by simp [Act.eval, Array.replicate]) ?_
  simp only [if_true]
  apply wpS_region
  simp [wpOpsS, go_sem, hc, hz, hB, bodyPostS, results, Try.results35]

theorem caught_idle (p : Addr) (w : World) :
    CallsD Try.prog 35 #[.pointer (some p)] .returning w fun e u' w' => e = .returned (.tuple #[]) ∧ u' = .returning ∧ w' = w.alloc (.cells #[.int .i64 0] 71) := by
  refine callsD_of_wpS Try.func35 rfl fun c₀ cs hu => ?_
  apply wpS_seq
  apply wpS_region
  simp [wpOpsS, go_sem, recoverD, hu, Try.ntmps35, Exit.thenS, ta_hit, ta_nil]
  apply wpS_seq
  apply wpS_region
  simp [wpOpsS, go_sem, Try.ntmps35, Exit.thenS]
  refine wpS_cond (t := false) (by simp [Act.eval, Array.replicate]) ?_
  simp only [Bool.false_eq_true, if_false]
  refine wpS_of_wp (wp_skip ?_)
  cases c₀
  simp_all [bodyPostS, results, Try.results35]

theorem tokens_err (A : Option Addr) (c : Nat) (xs : List Int) (k : Int) (w : World) (hc : xs.length ≤ c) (hr : Rd w .u8 A xs.length xs) (hb : Bytes xs)
    (hsz : xs.length ≤ 5864062014805) (h : tokensM (xs.length + 1) xs 0 [] = .error k) :
    Calls Try.prog 36 #[.slice A xs.length c] w fun e w' => e = (.panicked [{ v := .iface 71 (.agg #[.int .i64 k]), recovered := false }]) ∧ Below w.heap.size w w' :=
  (tokens_any A c xs _ w hc hr hb hsz h).mono fun e w' ⟨h1, h2⟩ => ⟨h1, h2⟩
theorem tokens_ok (A : Option Addr) (c : Nat) (xs : List Int) (ts : List Tok) (p : Int) (w : World) (hc : xs.length ≤ c) (hr : Rd w .u8 A xs.length xs) (hb : Bytes xs)
    (hsz : xs.length ≤ 5864062014805) (h : tokensM (xs.length + 1) xs 0 [] = .ok (ts, p)) :
    Calls Try.prog 36 #[.slice A xs.length c] w fun e w' => ∃ v, e = .returned (.tuple #[v, .int .i64 p]) ∧ w'.ownsRow w.heap.size 35 4 v ts.length (toksCells ts) ∧ Below w.heap.size w w' :=
  (tokens_any A c xs _ w hc hr hb hsz h).mono fun e w' ⟨⟨v, h1, h3⟩, h2⟩ => ⟨v, h1, h3, h2⟩

set_option maxRecDepth 100000 in
set_option maxHeartbeats 1000000 in
theorem Tokens_err (A : Option Addr) (c : Nat) (xs : List Int) (k : Int) (w : World) (hc : xs.length ≤ c) (hr : Rd w .u8 A xs.length xs) (hb : Bytes xs)
    (hsz : xs.length ≤ 5864062014805) (h : tokensM (xs.length + 1) xs 0 [] = .error k) :
    Calls Try.prog 19 #[.slice A xs.length c] w fun e w' => e = .returned (.tuple #[.slice none 0 0, .int .i64 k]) ∧ Below w.heap.size w w' := by
  have H := Lib.hid (tokens_err A c xs k (w.alloc (.cells #[.int .i64 0] 24)) hc (hr.below (one_alloc _ _)) hb hsz h)
  clear h hr hb
  go_enter_defers Try.func19, Try.ntmps19
  go_wp2_with (go_at_call 36; refine H.out.mono ?_; rintro e w1 ⟨rfl, hB⟩)
  obtain ⟨hc1, hf1⟩ := bcell hB
  have hsz1 : w.heap.size < w1.heap.size := by have := hB.size; simp at this; omega
  have h0 : w1.cell? ⟨w.heap.size, 0, none⟩ = some (.int .i64 0) := by rw [hc1 _ _ (by simp)]; simp [go_sem]
  have hf0 : w1.frozen? ⟨w.heap.size, 0, none⟩ = false := by rw [hf1 _ _ (by simp)]; simp [go_sem]
  refine leaves_cons (f := 35) (args := #[.pointer (some ⟨w.heap.size, 0, none⟩)]) (by simp) (by simp [go_sem]) ?_
  refine (caught_panicking w.heap.size 0 k [] _ h0 hf0).mono ?_
  rintro e u' w'' ⟨rfl, rfl, rfl⟩
  have hcell : ((w1.alloc (.cells #[.int .i64 k] 71)).setCell ⟨w.heap.size, 0, none⟩ (.int .i64 k)).cell? ⟨w.heap.size, 0, none⟩ = some (.int .i64 k) := by
    rw [World.cell?_setCell_same']
    rw [World.cell?_alloc_past _ _ _ hsz1, h0]; rfl
  have hbelow : Below w.heap.size w ((w1.alloc (.cells #[.int .i64 k] 71)).setCell ⟨w.heap.size, 0, none⟩ (.int .i64 k)) :=
    below_st (below_al (below_then (one_alloc _ _) (by simp) hB) _) (Nat.le_refl _)
  simp [Leaves, settle, results, Try.results19, go_sem, hcell]
  exact hbelow

set_option maxRecDepth 100000 in
set_option maxHeartbeats 1000000 in
theorem Tokens_ok (A : Option Addr) (c : Nat) (xs : List Int) (ts : List Tok) (p : Int) (w : World) (hc : xs.length ≤ c) (hr : Rd w .u8 A xs.length xs) (hb : Bytes xs)
    (hsz : xs.length ≤ 5864062014805) (h : tokensM (xs.length + 1) xs 0 [] = .ok (ts, p)) :
    Calls Try.prog 19 #[.slice A xs.length c] w fun e w' => ∃ v, e = .returned (.tuple #[v, .int .i64 0]) ∧ w'.ownsRow w.heap.size 35 4 v ts.length (toksCells ts) ∧ Below w.heap.size w w' := by
  have H := Lib.hid (tokens_ok A c xs ts p (w.alloc (.cells #[.int .i64 0] 24)) hc (hr.below (one_alloc _ _)) hb hsz h)
  clear h hr hb
  go_enter_defers Try.func19, Try.ntmps19
  go_wp2_with (go_at_call 36; refine H.out.mono ?_; rintro e w1 ⟨v, rfl, hO, hB⟩; obtain ⟨hc1, hf1⟩ := bcell hB)
  have hsz1 : w.heap.size < w1.heap.size := by have := hB.size; simp at this; omega
  have h0 : w1.cell? ⟨w.heap.size, 0, none⟩ = some (.int .i64 0) := by rw [hc1 _ _ (by simp)]; simp [go_sem]
  refine leaves_cons (f := 35) (args := #[.pointer (some ⟨w.heap.size, 0, none⟩)]) (by simp) (by simp [go_sem]) ?_
  refine (caught_idle _ _).mono ?_
  rintro e u' w'' ⟨rfl, rfl, rfl⟩
  have hcell : ((w1.setCell ⟨w.heap.size, 0, none⟩ (.int .i64 0)).alloc (.cells #[.int .i64 0] 71)).cell? ⟨w.heap.size, 0, none⟩ = some (.int .i64 0) := by
    rw [World.cell?_alloc_past _ _ _ (by simpa using hsz1), World.cell?_setCell_same' _ _ _ (by rw [h0]; rfl)]
  have hbelow : Below w.heap.size w ((w1.setCell ⟨w.heap.size, 0, none⟩ (.int .i64 0)).alloc (.cells #[.int .i64 0] 71)) :=
    below_al (below_st (below_then (one_alloc _ _) (by simp) hB) (Nat.le_refl _)) _
  have hrow := World.ownsRow.alloc (own_weak (base' := w.heap.size) (own_st (u := .int .i64 0) (p := ⟨w.heap.size, 0, none⟩) hO (by simp)) (by simp)) (.cells #[.int .i64 0] 71)
  simp [Leaves, settle, results, Try.results19, go_sem, hcell]
  exact ⟨hrow, hbelow⟩
end Go.Proofs.Ytmlgjilflpdffaa
