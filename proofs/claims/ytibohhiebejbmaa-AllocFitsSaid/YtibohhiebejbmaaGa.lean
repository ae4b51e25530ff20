/- Runs of a list of bits, plain; bits of bytes. -/
import Derived.Deep.LoopGhost
import Derived.WalkKit
import Derived.Test.YtibohhiebejbmaaProg
import Derived.WalkSpells
import Derived.WalkLawsBesides
import Derived.Deep.QuietTactic
import Derived.BigQuiet
import Derived.Deep.DeepCutAuto
import Derived.Deep.OwnShut
import Derived.Lib.Hide
import Derived.Maps.AppendAt
import Derived.RangeFuncBox
import Derived.Laws.OwnMore
import Derived.Laws.CopyOwn
import Derived.StillTactics
import Derived.RecoverIn
import Derived.RangeFuncNested
import Derived.RangeFuncBound
import Derived.RangeFuncCalls
import Derived.RangeFuncLeaves
import Derived.Laws.BitsLemmas
import Derived.BigRegion
import Derived.Deep.RegionHeld3
import Derived.Sort.CutIn
import Derived.Shelf.Abstract
namespace Go.Proofs.Ytibohhiebejbmaa
set_option linter.unusedVariables false
set_option linter.unusedSimpArgs false

/-- A bit ahead of runs. -/
def consR (p : Nat) : List (Nat × Nat) → List (Nat × Nat)
  | [] => [(p, 1)]
  | (q, m) :: r => if q = p + 1 then (p, m + 1) :: r else (p, 1) :: (q, m) :: r
/-- The runs of bits that are set, the first bit at p. -/
def runsL : List Bool → Nat → List (Nat × Nat)
  | [], _ => []
  | false :: t, p => runsL t (p + 1)
  | true :: t, p => consR p (runsL t (p + 1))
theorem runsL_true (t : List Bool) (p : Nat) : runsL (true :: t) p = consR p (runsL t (p + 1)) := rfl
theorem runsL_false (t : List Bool) (p : Nat) : runsL (false :: t) p = runsL t (p + 1) := rfl
theorem runsL_in : ∀ (l : List Bool) (p : Nat), ∀ x ∈ runsL l p, p ≤ x.1 ∧ 1 ≤ x.2 ∧ x.1 + x.2 ≤ p + l.length
  | [], p, x, h => by cases h
  | false :: t, p, x, h => by
    have := runsL_in t (p + 1) x h
    rw [List.length_cons]; omega
  | true :: t, p, x, h => by
    have ih := runsL_in t (p + 1)
    rw [runsL_true] at h
    rw [List.length_cons]
    generalize e : runsL t (p + 1) = L at *
    unfold consR at h
    split at h
    · have : x = (p, 1) := by simpa using h
      subst this
      simp only; omega
    · rename_i q m r
      split at h
      · rcases List.mem_cons.1 h with rfl | h
        · have := ih (q, m) (by simp)
          simp only at this ⊢
          omega
        · have := ih x (List.mem_cons_of_mem _ h)
          omega
      · rcases List.mem_cons.1 h with rfl | h
        · simp only; omega
        · have := ih x h
          omega
theorem runsL_block : ∀ (k : Nat) (rest : List Bool) (p : Nat), (rest = [] ∨ ∃ t, rest = false :: t) → runsL (List.replicate (k + 1) true ++ rest) p = (p, k + 1) :: runsL rest (p + k + 1)
  | 0, rest, p, h => by
    show runsL (true :: rest) p = _
    rcases h with rfl | ⟨t, rfl⟩
    · rfl
    · have hin := runsL_in t (p + 1 + 1)
      rw [runsL_true, runsL_false]
      show _ = (p, 0 + 1) :: runsL t (p + 1 + 1)
      cases e : runsL t (p + 1 + 1) with
      | nil => rfl
      | cons x r =>
        obtain ⟨q, m⟩ := x
        have := (hin (q, m) (by rw [e]; simp)).1
        simp only at this
        show (if q = p + 1 then (p, m + 1) :: r else (p, 1) :: (q, m) :: r) = _
        rw [if_neg (by omega)]
  | k + 1, rest, p, h => by
    rw [List.replicate_succ, List.cons_append]
    rw [runsL_true, runsL_block k rest (p + 1) h]
    show (if p + 1 = p + 1 then (p, k + 1 + 1) :: runsL rest (p + 1 + k + 1) else (p, 1) :: (p + 1, k + 1) :: runsL rest (p + 1 + k + 1)) = _
    rw [if_pos rfl, show p + 1 + k + 1 = p + (k + 1) + 1 from by omega]
theorem runsL_mem : ∀ (l : List Bool) (p i : Nat), (∃ x ∈ runsL l p, x.1 ≤ i ∧ i < x.1 + x.2) ↔ p ≤ i ∧ i < p + l.length ∧ l.getD (i - p) false = true
  | [], p, i => by simp [runsL]
  | false :: t, p, i => by
    rw [runsL_false, runsL_mem t (p + 1) i, List.length_cons]
    constructor
    · rintro ⟨h1, h2, h3⟩
      refine ⟨by omega, by omega, ?_⟩
      rw [show i - p = (i - (p + 1)) + 1 from by omega, List.getD_cons_succ]
      exact h3
    · rintro ⟨h1, h2, h3⟩
      by_cases h4 : i = p
      · subst h4
        simp at h3
      · rw [show i - p = (i - (p + 1)) + 1 from by omega, List.getD_cons_succ] at h3
        exact ⟨by omega, by omega, h3⟩
  | true :: t, p, i => by
    have ih := runsL_mem t (p + 1) i
    have hin := runsL_in t (p + 1)
    rw [List.length_cons]
    have e1 : (p ≤ i ∧ i < p + (t.length + 1) ∧ (true :: t).getD (i - p) false = true) ↔ (i = p ∨ (p + 1 ≤ i ∧ i < p + 1 + t.length ∧ t.getD (i - (p + 1)) false = true)) := by
      constructor
      · rintro ⟨h1, h2, h3⟩
        by_cases h4 : i = p
        · exact Or.inl h4
        · rw [show i - p = (i - (p + 1)) + 1 from by omega, List.getD_cons_succ] at h3
          exact Or.inr ⟨by omega, by omega, h3⟩
      · rintro (rfl | ⟨h1, h2, h3⟩)
        · exact ⟨Nat.le_refl _, by omega, by simp⟩
        · refine ⟨by omega, by omega, ?_⟩
          rw [show i - p = (i - (p + 1)) + 1 from by omega, List.getD_cons_succ]
          exact h3
    rw [e1, ← ih, runsL_true]
    generalize e : runsL t (p + 1) = L at *
    cases L with
    | nil =>
      simp [consR]
      omega
    | cons x r =>
      obtain ⟨q, m⟩ := x
      have hq := hin (q, m) (by simp)
      simp only at hq
      show (∃ x ∈ (if q = p + 1 then (p, m + 1) :: r else (p, 1) :: (q, m) :: r), x.1 ≤ i ∧ i < x.1 + x.2) ↔ _
      split
      · rename_i hqe
        subst hqe
        simp only [List.mem_cons, exists_eq_or_imp]
        constructor
        · rintro (h | h)
          · by_cases h4 : i = p
            · exact Or.inl h4
            · exact Or.inr (Or.inl (by omega))
          · exact Or.inr (Or.inr h)
        · rintro (h | h | h)
          · exact Or.inl (by omega)
          · exact Or.inl (by omega)
          · exact Or.inr h
      · simp only [List.mem_cons, exists_eq_or_imp]
        constructor
        · rintro (h | h)
          · exact Or.inl (by omega)
          · exact Or.inr h
        · rintro (h | h)
          · exact Or.inl (by omega)
          · exact Or.inr h
/-- The bits of a function from a on, up en en. -/
def bitsR (f : Nat → Bool) (a en : Nat) : List Bool := (List.range' a (en - a)).map f
def RR (f : Nat → Bool) (a en : Nat) : List (Nat × Nat) := runsL (bitsR f a en) a
theorem bitsR_len (f : Nat → Bool) (a en : Nat) : (bitsR f a en).length = en - a := by simp [bitsR]
theorem bitsR_none (f : Nat → Bool) {a en : Nat} (h : en ≤ a) : bitsR f a en = [] := by
  unfold bitsR
  rw [show en - a = 0 from by omega]; rfl
theorem bitsR_cons (f : Nat → Bool) {a en : Nat} (h : a < en) : bitsR f a en = f a :: bitsR f (a + 1) en := by
  unfold bitsR
  rw [show en - a = (en - (a + 1)) + 1 from by omega, List.range'_succ, List.map_cons]
theorem RR_none (f : Nat → Bool) {a en : Nat} (h : en ≤ a) : RR f a en = [] := by unfold RR; rw [bitsR_none f h]; rfl
theorem RR_false (f : Nat → Bool) {a en : Nat} (h : a < en) (hf : f a = false) : RR f a en = RR f (a + 1) en := by unfold RR; rw [bitsR_cons f h, hf]; rfl
theorem bitsR_block (f : Nat → Bool) (en : Nat) : ∀ (k a : Nat), a + k ≤ en → (∀ j, a ≤ j → j < a + k → f j = true) → bitsR f a en = List.replicate k true ++ bitsR f (a + k) en
  | 0, a, h, hf => rfl
  | k + 1, a, h, hf => by
    rw [bitsR_cons f (by omega), hf a (Nat.le_refl _) (by omega), bitsR_block f en k (a + 1) (by omega) (fun j h1 h2 => hf j (by omega) (by omega)), List.replicate_succ, List.cons_append, show a + 1 + k = a + (k + 1) from by omega]
theorem RR_run (f : Nat → Bool) {a e en : Nat} (h1 : a < e) (h2 : e ≤ en) (hf : ∀ j, a ≤ j → j < e → f j = true) (he : e = en ∨ f e = false) : RR f a en = (a, e - a) :: RR f e en := by
  unfold RR
  obtain ⟨k, hk⟩ : ∃ k, e = a + (k + 1) := ⟨e - a - 1, by omega⟩
  subst hk
  rw [bitsR_block f en (k + 1) a h2 hf, runsL_block]
  · rw [show a + (k + 1) - a = k + 1 from by omega, show a + k + 1 = a + (k + 1) from by omega]
  · rcases Nat.lt_or_ge (a + (k + 1)) en with h | h
    · rcases he with he | he
      · omega
      · exact Or.inr ⟨_, by rw [bitsR_cons f h, he]⟩
    · exact Or.inl (bitsR_none f h)
theorem RR_skip (f : Nat → Bool) (en : Nat) : ∀ (k a : Nat), a + k ≤ en → (∀ j, a ≤ j → j < a + k → f j = false) → RR f a en = RR f (a + k) en
  | 0, a, h, hf => rfl
  | k + 1, a, h, hf => by
    rw [RR_false f (by omega) (hf a (Nat.le_refl _) (by omega)), RR_skip f en k (a + 1) (by omega) (fun j h1 h2 => hf j (by omega) (by omega)), show a + 1 + k = a + (k + 1) from by omega]
theorem bitsR_get (f : Nat → Bool) {a en i : Nat} (h : i < en - a) : (bitsR f a en).getD i false = f (a + i) := by
  unfold bitsR
  rw [List.getD_eq_getElem?_getD, List.getElem?_map, List.getElem?_range' h]
  simp
theorem RR_mem (f : Nat → Bool) (a en i : Nat) : (∃ x ∈ RR f a en, x.1 ≤ i ∧ i < x.1 + x.2) ↔ a ≤ i ∧ i < en ∧ f i = true := by
  unfold RR
  rw [runsL_mem, bitsR_len]
  constructor
  · rintro ⟨h1, h2, h3⟩
    rw [bitsR_get f (by omega), show a + (i - a) = i from by omega] at h3
    exact ⟨h1, by omega, h3⟩
  · rintro ⟨h1, h2, h3⟩
    refine ⟨h1, by omega, ?_⟩
    rw [bitsR_get f (by omega), show a + (i - a) = i from by omega]
    exact h3
theorem RR_in (f : Nat → Bool) (a en : Nat) : ∀ x ∈ RR f a en, a ≤ x.1 ∧ 1 ≤ x.2 ∧ (a < en → x.1 + x.2 ≤ en) := by
  intro x h
  have := runsL_in _ _ x h
  rw [bitsR_len] at this
  exact ⟨this.1, this.2.1, fun _ => by omega⟩
/-- A bit of bytes. -/
def bitB (b : List Int) (i : Nat) : Bool := decide (b.getD (i / 8) 0 / 2 ^ (i % 8) % 2 = 1)
end Go.Proofs.Ytibohhiebejbmaa
/- Small words for the walks: slices that are read, rows that are owned, draws. -/
namespace Go.Proofs.Ytibohhiebejbmaa
open Go.RowKit Go.Deep
set_option linter.unusedVariables false
set_option linter.unusedSimpArgs false

/-- The world is the old one but for draws. -/
structure Drawn (w w' : World) : Prop where
  out : ∃ n, w' = w.drewN n
theorem Drawn.refl (w : World) : Drawn w w := ⟨0, rfl⟩

theorem one_alloc (w : World) (o : Obj) : Below w.heap.size w (w.alloc o) := (Below.refl _ _).alloc (Nat.le_refl _) _
theorem below_drewN {B : Nat} {w W : World} (h : Below B w W) (n : Nat) : Below B w (W.drewN n) := ⟨h.os, h.tape, h.output, h.size, h.block⟩
theorem below_drew1 {B : Nat} {w W : World} (h : Below B w W) : Below B w W.drew := ⟨h.os, h.tape, h.output, h.size, h.block⟩

theorem below_al {w W : World} (h : Below w.heap.size w W) (o : Obj) : Below w.heap.size w (W.alloc o) := h.alloc h.size o
theorem below_st {w W : World} {p : Addr} {v : Value} (h : Below w.heap.size w W) (hp : w.heap.size ≤ p.block) : Below w.heap.size w (W.setCell p v) := h.setCell hp v
theorem below_then {B : Nat} {w w1 w2 : World} (h : Below B w w1) (hB : B ≤ w1.heap.size) (k : Below w1.heap.size w1 w2) : Below B w w2 :=
  h.trans ⟨k.os, k.tape, k.output, k.size, fun i hi => k.block i (Nat.lt_of_lt_of_le hi hB)⟩

theorem bcell {W w1 : World} (hb : Below W.heap.size W w1) : (∀ b o, b < W.heap.size → w1.cell? ⟨b, o, none⟩ = W.cell? ⟨b, o, none⟩) ∧ (∀ b o, b < W.heap.size → w1.frozen? ⟨b, o, none⟩ = W.frozen? ⟨b, o, none⟩) :=
  ⟨fun b o h => hb.cell (p := ⟨b, o, none⟩) h, fun b o h => hb.frozen (p := ⟨b, o, none⟩) h⟩
theorem own_keep {w w1 : World} {base : Nat} {e : TypeId} {size n : Nat} {v : Value} {xs : List Value} (h : w.ownsRow base e size v n xs) (hb : Below w.heap.size w w1) : w1.ownsRow base e size v n xs :=
  h.kept (row := none) ⟨hb.os, hb.tape, hb.output, hb.size, fun k hk _ => hb.block k hk⟩ (by cases v.ownBlock <;> simp)

theorem own_weak {w : World} {base base' : Nat} {e : TypeId} {size n : Nat} {v : Value} {xs : List Value} (h : w.ownsRow base e size v n xs) (hb : base' ≤ base) : w.ownsRow base' e size v n xs := by
  obtain ⟨h1, h2 | ⟨g, cap, cur, rfl, hg, r⟩⟩ := h
  · exact ⟨h1, .inl h2⟩
  · exact ⟨h1, .inr ⟨g, cap, cur, rfl, Nat.le_trans hb hg, r⟩⟩
theorem own_st {w : World} {base : Nat} {e : TypeId} {size n : Nat} {v u : Value} {xs : List Value} {p : Addr} (h : w.ownsRow base e size v n xs) (hp : p.block < base) : (w.setCell p u).ownsRow base e size v n xs := by
  obtain ⟨h1, h2 | ⟨g, cap, cur, rfl, hg, hh, r⟩⟩ := h
  · exact ⟨h1, .inl h2⟩
  · exact ⟨h1, .inr ⟨g, cap, cur, rfl, hg, (Below.heap_setCell w p u g (by omega)).trans hh, r⟩⟩

/-- A slice of whole numbers that is read (nil and empty ones too). -/
structure Rd (w : World) (k : IntKind) (A : Option Addr) (n : Nat) (xs : List Int) : Prop where
  len : xs.length = n
  max : n ≤ 9223372036854775807
  at_ : ∀ j, j < n → ∃ ad, A = some ad ∧ w.cell? (ad.add j) = some (.int k (xs.getD j 0))

theorem cell_keep {w w' : World} (h : Below w.heap.size w w') {a : Addr} {v : Value} (hc : w.cell? a = some v) : w'.cell? a = some v :=
  (h.cell (World.block_lt_of_cell? w a hc)).trans hc

theorem Rd.below {w w' : World} {k : IntKind} {A : Option Addr} {n : Nat} {xs : List Int} (h : Rd w k A n xs) (hb : Below w.heap.size w w') : Rd w' k A n xs :=
  ⟨h.len, h.max, fun j hj => let ⟨ad, e, hc⟩ := h.at_ j hj; ⟨ad, e, cell_keep hb hc⟩⟩
theorem Rd.drewN {w : World} {k : IntKind} {A : Option Addr} {n : Nat} {xs : List Int} (h : Rd w k A n xs) (m : Nat) : Rd (w.drewN m) k A n xs :=
  ⟨h.len, h.max, fun j hj => let ⟨ad, e, hc⟩ := h.at_ j hj; ⟨ad, e, hc⟩⟩

theorem add_add (a : Addr) (l j : Nat) : (a.add l).add j = a.add (l + j) := by
  unfold Addr.add
  by_cases hl : l = 0
  · subst hl; simp
  · by_cases hj : j = 0
    · subst hj; simp [hl]
    · have : ¬ l + j = 0 := by omega
      simp [hl, hj, this, Nat.add_assoc]

/-- The rest of a slice, from l on, in the walk's own form. -/
theorem Rd.drop {w : World} {k : IntKind} {A : Option Addr} {n c : Nat} {xs : List Int} (h : Rd w k A n xs) (hc : n ≤ c) (l : Nat) (hl : l ≤ n) :
    Rd w k (if c = l then A else A.map fun x => x.add l) (n - l) (xs.drop l) := by
  refine ⟨by rw [List.length_drop, h.len], by have := h.max; omega, fun j hj => ?_⟩
  obtain ⟨ad, e, hcell⟩ := h.at_ (l + j) (by omega)
  have hne : ¬ c = l := by omega
  refine ⟨ad.add l, by rw [if_neg hne, e]; rfl, ?_⟩
  rw [add_add, hcell]
  simp [List.getD_eq_getElem?_getD]

def numK (k : IntKind) (xs : List Int) : List Value := xs.map fun x => .int k x
theorem numK_snoc (k : IntKind) (xs : List Int) (x : Int) : numK k (xs ++ [x]) = numK k xs ++ [.int k x] := by simp [numK]
theorem numK_append (k : IntKind) (xs ys : List Int) : numK k (xs ++ ys) = numK k xs ++ numK k ys := by simp [numK]
theorem numK_len (k : IntKind) (xs : List Int) : (numK k xs).length = xs.length := by simp [numK]

/-- An owned row of whole numbers is read. -/
theorem own_nums {w : World} {base n : Nat} {e : TypeId} {k : IntKind} {v : Value} {xs : List Int} (h : w.ownsRow base e 1 v n (numK k xs)) (hm : n ≤ 9223372036854775807) :
    ∃ A c, v = .slice A n c ∧ n ≤ c ∧ Rd w k A n xs ∧ ∀ ad, A = some ad → ad.off = 0 ∧ base ≤ ad.block ∧ ad.spot = none := by
  have hl : xs.length = n := by have := h.1; simpa [numK] using this
  have h0 := h
  obtain ⟨h1, ⟨rfl, rfl⟩ | ⟨g, cap, cur, rfl, hg, hh, hle, r⟩⟩ := h
  · exact ⟨none, 0, rfl, Nat.le_refl _, ⟨hl, hm, fun j hj => by omega⟩, fun ad e => by cases e⟩
  · refine ⟨some ⟨g, 0, none⟩, cap, rfl, hle, ⟨hl, hm, fun j hj => ⟨_, rfl, ?_⟩⟩, fun ad e => by cases e; exact ⟨rfl, hg, rfl⟩⟩
    have hc := h0.cells (g := g) rfl j (.int k (xs.getD j 0)) (by
      simp only [numK, List.getElem?_map]
      rw [List.getElem?_eq_getElem (by omega)]
      simp [List.getD_eq_getElem?_getD, List.getElem?_eq_getElem (show j < xs.length by omega)])
    exact hc
theorem own_is_slice {w : World} {base n : Nat} {e : TypeId} {size : Nat} {v : Value} {xs : List Value} (h : w.ownsRow base e size v n xs) : ∃ A c, v = .slice A n c ∧ n ≤ c := by
  obtain ⟨h1, ⟨rfl, rfl⟩ | ⟨g, cap, cur, rfl, hg, hh, hle, r⟩⟩ := h
  · exact ⟨none, 0, rfl, Nat.le_refl _⟩
  · exact ⟨_, cap, rfl, hle⟩
theorem rd_none (w : World) (k : IntKind) : Rd w k none 0 [] := ⟨rfl, by omega, fun j h => absurd h (by omega)⟩

theorem cells_new (W : World) (n : Nat) (hn : n = W.heap.size) (cs : List Value) (e : TypeId) : ∀ j u, cs[j]? = some u → (W.alloc (.cells cs.toArray e)).cell? ((⟨n, 0, none⟩ : Addr).add j) = some u := by
  intro j u hu
  subst hn
  rw [Addr.add_lit, cell_of_row _ _ _ cs.toArray e (0, 0) (heap_alloc_new W _)]
  simpa using hu
theorem cell_new1 (W : World) (n : Nat) (hn : n = W.heap.size) (v : Value) (e : TypeId) : ∀ j u, [v][j]? = some u → (W.alloc (.cells #[v] e)).cell? ((⟨n, 0, none⟩ : Addr).add j) = some u := cells_new W n hn [v] e

/-- A block that was not the one written reads as before. -/
theorem grown_block {W w3 : World} {row : Option Nat} (hg : W.grownBy w3 row) (b : Nat) (hb : b < W.heap.size) (hne : ∀ k, row = some k → k ≠ b) :
    (∀ o, w3.cell? ⟨b, o, none⟩ = W.cell? ⟨b, o, none⟩) ∧ (∀ o, w3.frozen? ⟨b, o, none⟩ = W.frozen? ⟨b, o, none⟩) := by
  have h := hg.block b hb (fun e => hne b e.symm rfl)
  exact ⟨fun o => World.cell?_of_block (a := ⟨b, o, none⟩) h, fun o => World.frozen?_of_block (a := ⟨b, o, none⟩) h⟩

theorem own_drewN {w : World} {base : Nat} {e : TypeId} {size n m : Nat} {v : Value} {xs : List Value} (h : w.ownsRow base e size v n xs) : (w.drewN m).ownsRow base e size v n xs := h
theorem own_keepD {w W w1 : World} {base : Nat} {e : TypeId} {size n : Nat} {v : Value} {xs : List Value} (h : w.ownsRow base e size v n xs) (hD : Drawn w W) (hb : Below W.heap.size W w1) : w1.ownsRow base e size v n xs := by
  obtain ⟨m, rfl⟩ := hD.out
  exact own_keep (w := w.drewN m) h hb
theorem drawn_below {w w' : World} (h : Drawn w w') : Below w.heap.size w w' := by
  obtain ⟨n, rfl⟩ := h.out
  exact below_drewN (Below.refl _ _) n
theorem below_drawn {n : Nat} {w w1 w2 : World} (h : Below n w w1) (h2 : Drawn w1 w2) : Below n w w2 := by
  obtain ⟨k, rfl⟩ := h2.out
  exact below_drewN h k
theorem one_cell {w : World} {b : Nat} {v : Value} {t : TypeId} (h : w.heap[b]? = some (.cells #[v] t (0, 0))) : w.cell? ⟨b, 0, none⟩ = some v ∧ w.frozen? ⟨b, 0, none⟩ = false ∧ b < w.heap.size :=
  ⟨by rw [cell_of_row _ _ _ _ _ _ h]; rfl, by simp [World.frozen?, h], (Array.getElem?_eq_some_iff.1 h).1⟩
/-- A store into a block of one cell. -/
theorem one_put {w : World} {b : Nat} {v u : Value} {t : TypeId} (h : w.heap[b]? = some (.cells #[v] t (0, 0))) : (w.setCell ⟨b, 0, none⟩ u).heap[b]? = some (.cells #[u] t (0, 0)) := by
  simp only [World.setCell]
  rw [Array.getElem?_modify]
  simp [h]
theorem heap_far {w : World} {b b' : Nat} {u : Value} {o : Obj} (h : w.heap[b']? = some o) (hne : b' ≠ b) : (w.setCell ⟨b, 0, none⟩ u).heap[b']? = some o := (Below.heap_setCell w ⟨b, 0, none⟩ u b' hne).trans h
theorem heap_al {w : World} {b : Nat} {o x : Obj} (h : w.heap[b]? = some o) : (w.alloc x).heap[b]? = some o := by
  rw [heap_alloc_old _ _ (Array.getElem?_eq_some_iff.1 h).1]; exact h
theorem grown_keep {W w3 : World} {row : Option Nat} {b : Nat} {o : Obj} (hg : W.grownBy w3 row) (h : W.heap[b]? = some o) (hrow : ∀ k, row = some k → k ≠ b) : w3.heap[b]? = some o :=
  (hg.block b (Array.getElem?_eq_some_iff.1 h).1 (fun e => hrow b e.symm rfl)).trans h
theorem below_heap {w w' : World} {b : Nat} {o : Obj} (h : w.heap[b]? = some o) (hb : Below w.heap.size w w') : w'.heap[b]? = some o := (hb.block b (Array.getElem?_eq_some_iff.1 h).1).trans h
theorem own_far {w : World} {base : Nat} {e : TypeId} {size n : Nat} {v u : Value} {xs : List Value} {p : Addr} (h : w.ownsRow base e size v n xs) (hp : ∀ k, v.ownBlock = some k → k ≠ p.block) : (w.setCell p u).ownsRow base e size v n xs := by
  obtain ⟨h1, h2 | ⟨g, cap, cur, rfl, hg, hh, r⟩⟩ := h
  · exact ⟨h1, .inl h2⟩
  · exact ⟨h1, .inr ⟨g, cap, cur, rfl, hg, (Below.heap_setCell w p u g (hp g rfl)).trans hh, r⟩⟩
theorem own_ne_type {w : World} {base : Nat} {e e' : TypeId} {size n : Nat} {v : Value} {xs : List Value} {b : Nat} {cs : Array Value} {fz : Nat × Nat} (h : w.ownsRow base e size v n xs) (hb : w.heap[b]? = some (.cells cs e' fz)) (hne : e ≠ e') : ∀ k, v.ownBlock = some k → k ≠ b := by
  rintro k hk rfl
  obtain ⟨h1, ⟨rfl, rfl⟩ | ⟨g, cap, cur, rfl, hg, hh, r⟩⟩ := h
  · simp [Value.ownBlock] at hk
  · have : g = k := by simpa [Value.ownBlock] using hk
    subst this
    rw [hh] at hb
    cases hb
    exact hne rfl
theorem info5 : (Try.prog.info? 5).map (fun i => (i.zero, i.size, i.bytes)) = some (some (.int .u8 0), 1, 1) := by kernel_rfl
theorem info4 : (Try.prog.info? 4).map (fun i => (i.zero, i.size, i.bytes)) = some (some (.bool false), 1, 1) := by kernel_rfl
theorem info22 : (Try.prog.info? 22).map (fun i => (i.zero, i.size, i.bytes)) = some (some (.slice none 0 0), 1, 24) := by kernel_rfl
theorem info56 : (Try.prog.info? 56).map (fun i => (i.zero, i.size, i.bytes)) = some (some (.agg #[.int .i64 0, .int .i64 0]), 2, 16) := by kernel_rfl
theorem info106 : (Try.prog.info? 106).map (fun i => (i.zero, i.size, i.bytes)) = some (some (.agg #[.int .i64 0, .int .i64 0]), 2, 16) := by kernel_rfl
/-- What a function of alloc gives up with. -/
def gaveUp (e : Int) : Ending := .panicked [{ v := .iface 96 (.agg #[.int .i64 e]), recovered := false }]

/-- A block of cells, not frozen. -/
def Blk (W : World) (g : Nat) (cs : List Value) (t : TypeId) : Prop := W.heap[g]? = some (.cells cs.toArray t (0, 0))
section
variable {W W' : World} {g : Nat} {cs : List Value} {t : TypeId}
theorem Blk.lt (h : Blk W g cs t) : g < W.heap.size := (Array.getElem?_eq_some_iff.1 h).1
theorem Blk.cell (h : Blk W g cs t) {j : Nat} {v : Value} (hj : cs[j]? = some v) : W.cell? ⟨g, j, none⟩ = some v := by
  rw [cell_of_row W g j cs.toArray t (0, 0) h]; simpa using hj
theorem Blk.fz (h : Blk W g cs t) (j : Nat) : W.frozen? ⟨g, j, none⟩ = false := frozen_of_row W g j cs.toArray t h
theorem Blk.on (h : Blk W g cs t) (hb : Below W.heap.size W W') : Blk W' g cs t := below_heap h hb
theorem Blk.alloc (h : Blk W g cs t) (o : Obj) : Blk (W.alloc o) g cs t := heap_al h
theorem Blk.grown {row : Option Nat} (h : Blk W g cs t) (hg : W.grownBy W' row) (hne : ∀ k, row = some k → k ≠ g) : Blk W' g cs t := grown_keep hg h hne
theorem Blk.new (W : World) (cs : List Value) (t : TypeId) : Blk (W.alloc (.cells cs.toArray t)) W.heap.size cs t := heap_alloc_new _ _
theorem Blk.far (h : Blk W g cs t) {p : Addr} (hp : g ≠ p.block) (v : Value) : Blk (W.setCell p v) g cs t := (Below.heap_setCell W p v g hp).trans h
theorem Blk.set (h : Blk W g cs t) (j : Nat) (v : Value) : Blk (W.setCell ⟨g, j, none⟩ v) g (cs.set j v) t := by
  unfold Blk
  rw [heap_setCell_same W g j cs.toArray t v h]
  simp
theorem Blk.draw (h : Blk W g cs t) (n : Nat) : Blk (W.drewN n) g cs t := h
theorem Blk.drew (h : Blk W g cs t) : Blk W.drew g cs t := h
theorem Blk.of_own {base e n : Nat} {xs : List Value} (h : W.ownsRow base e 1 (.slice (some ⟨g, 0, none⟩) n n) n xs) : Blk W g xs e ∧ base ≤ g := by
  rcases h.2 with ⟨h', _⟩ | ⟨g', cap', cur, h', hb, hg, hnc, hcm, hcs, htake⟩
  · simp at h'
  · simp only [Value.slice.injEq, Option.some.injEq, Addr.mk.injEq, and_true, true_and] at h'
    obtain ⟨rfl, rfl⟩ := h'
    refine ⟨?_, hb⟩
    unfold Blk
    rw [hg]
    have e1 : xs = cur.toList := by rw [← htake, List.take_of_length_le (by rw [Array.length_toList, hcs]; exact Nat.le_refl _)]
    rw [e1]
end
theorem grown_set (W : World) (g j : Nat) (v : Value) : W.grownBy (W.setCell ⟨g, j, none⟩ v) (some g) :=
  ⟨rfl, rfl, rfl, by simp, fun k _ hk => Below.heap_setCell W ⟨g, j, none⟩ v k (fun e => hk (by simp [e]))⟩
theorem grown_of_below {W W' : World} (h : Below W.heap.size W W') (row : Option Nat) : W.grownBy W' row := ⟨h.os, h.tape, h.output, h.size, fun k hk _ => h.block k hk⟩
theorem grown_then {W W1 W2 : World} {row : Option Nat} (h : W.grownBy W1 row) (k : W1.grownBy W2 row) : W.grownBy W2 row :=
  ⟨k.os.trans h.os, k.tape.trans h.tape, k.output.trans h.output, Nat.le_trans h.size k.size, fun i hi hr => (k.block i (Nat.lt_of_lt_of_le hi h.size) hr).trans (h.block i hi hr)⟩
/-- What was made since is nobody's. -/
theorem grown_own {W W1 W2 : World} {row : Option Nat} {g : Nat} (h : W.grownBy W1 row) (k : W1.grownBy W2 (some g)) (hg : W.heap.size ≤ g) : W.grownBy W2 row :=
  ⟨k.os.trans h.os, k.tape.trans h.tape, k.output.trans h.output, Nat.le_trans h.size k.size, fun i hi hr => (k.block i (Nat.lt_of_lt_of_le hi h.size) (fun e => by cases e; omega)).trans (h.block i hi hr)⟩
theorem grown_below {W W' : World} (h : W.grownBy W' none) : Below W.heap.size W W' := (Below.refl _ _).grown h (Nat.le_refl _) (fun k e => by cases e)
def boolsV (xs : List Bool) : List Value := xs.map Value.bool
theorem boolsV_set (xs : List Bool) (j : Nat) (v : Bool) : (boolsV xs).set j (.bool v) = boolsV (xs.set j v) := by simp [boolsV, List.map_set]
theorem boolsV_get {xs : List Bool} {j : Nat} (hj : j < xs.length) : (boolsV xs)[j]? = some (.bool (xs.getD j false)) := by
  simp only [boolsV, List.getElem?_map]
  rw [List.getElem?_eq_getElem hj]
  simp [List.getD_eq_getElem?_getD, List.getElem?_eq_getElem hj]
theorem numK_get {k : IntKind} {xs : List Int} {j : Nat} (hj : j < xs.length) : (numK k xs)[j]? = some (.int k (xs.getD j 0)) := by
  simp only [numK, List.getElem?_map]
  rw [List.getElem?_eq_getElem hj]
  simp [List.getD_eq_getElem?_getD, List.getElem?_eq_getElem hj]
theorem numK_set (k : IntKind) (xs : List Int) (j : Nat) (v : Int) : (numK k xs).set j (.int k v) = numK k (xs.set j v) := by simp [numK, List.map_set]
end Go.Proofs.Ytibohhiebejbmaa
/- Walks: need, must, fits, zone; the plain Space. -/
namespace Go.Proofs.Ytibohhiebejbmaa
open Go.RowKit Go.Deep
set_option linter.unusedVariables false
set_option linter.unusedSimpArgs false
set_option maxRecDepth 100000

theorem need_ok (e : Int) (w : World) : Calls Try.prog 57 #[.bool true, .int .i64 e] w fun x w' => x = .returned (.tuple #[]) ∧ w' = w := by
  go_enter Try.func57, Try.ntmps57
  go_wp2
  go_end0
  exact ⟨rfl, rfl⟩
theorem must_ok (w : World) : Calls Try.prog 67 #[.int .i64 0] w fun x w' => x = .returned (.tuple #[]) ∧ w' = w := by
  go_enter Try.func67, Try.ntmps67
  go_wp2
  go_end0
  exact ⟨rfl, rfl⟩
theorem fits_any (n : Int) (w : World) : Calls Try.prog 60 #[.int .i64 n] w fun x w' => x = .returned (.bool (decide (4 ≤ n) && decide (n ≤ 1536))) ∧ w' = w := by
  by_cases h : 4 ≤ n
  · go_enter Try.func60, Try.ntmps60
    go_wp2
    go_ret
    simp [h]
  · go_enter Try.func60, Try.ntmps60
    go_wp2
    go_ret
    simp
    omega
theorem zone_any (n : Nat) (hn : n ≤ 1000000) (w : World) : Calls Try.prog 61 #[.int .i64 n] w fun x w' => x = .returned (.int .i64 ((3 + n / 8 : Nat) : Int)) ∧ w' = w := by
  go_enter Try.func61, Try.ntmps61
  go_wp2
  go_ret
  refine ⟨?_, rfl⟩
  congr 2
theorem need_no (e : Int) (w : World) : Calls Try.prog 57 #[.bool false, .int .i64 e] w fun x w' => x = gaveUp e ∧ w' = w := by
  go_enter Try.func57, Try.ntmps57
  go_wp2
  exact ⟨rfl, rfl, rfl⟩
theorem must_no (e : Int) (he : e ≠ 0) (w : World) : Calls Try.prog 67 #[.int .i64 e] w fun x w' => x = gaveUp e ∧ w' = w := by
  have hb : (e != 0) = true := by simpa using he
  go_enter Try.func67, Try.ntmps67
  go_wp2
  exact ⟨rfl, rfl, rfl⟩

def zeros : List Int := List.replicate 468 0
/-- What page 1 of a Space holds. -/
def Pg (W : World) (cs : List Value) (b : List Int) : Prop := ∀ v, cs[1]? = some v → (v = .slice none 0 0 ∧ b = zeros) ∨ ∃ g, v = .slice (some ⟨g, 0, none⟩) 468 468 ∧ Blk W g (numK .u8 b) 5
/-- A plain Space of n pages, page 1 of which holds b. -/
structure Sp (W : World) (G A n : Nat) (b : List Int) : Prop where
  obj : ∃ bad, Blk W G [.slice (some ⟨A, 0, none⟩) n n, .bool bad] 94
  arr : ∃ cs, Blk W A cs 22 ∧ cs.length = n ∧ Pg W cs b
  len : b.length = 468
  byt : ∀ x ∈ b, 0 ≤ x ∧ x ≤ 255
theorem Sp.on {W W' : World} {G A n : Nat} {b : List Int} (h : Sp W G A n b) (hb : Below W.heap.size W W') : Sp W' G A n b := by
  obtain ⟨⟨bad, h1⟩, ⟨cs, h2, h3, h4⟩, h5, h6⟩ := h
  refine ⟨⟨bad, h1.on hb⟩, ⟨cs, h2.on hb, h3, fun v hv => ?_⟩, h5, h6⟩
  rcases h4 v hv with h | ⟨g, h, k⟩
  · exact Or.inl h
  · exact Or.inr ⟨g, h, k.on hb⟩
theorem Blk.ne {W : World} {g g' : Nat} {cs cs' : List Value} {t t' : TypeId} (h : Blk W g cs t) (h' : Blk W g' cs' t') (hne : t ≠ t') : g ≠ g' := by
  rintro rfl
  unfold Blk at h h'
  rw [h] at h'
  cases h'
  exact hne rfl
theorem Sp.grown {W W' : World} {G A n U : Nat} {b : List Int} {cs : List Value} {t : TypeId} (h : Sp W G A n b) (hg : W.grownBy W' (some U)) (hU : Blk W U cs t) (ht : t ≠ 94 ∧ t ≠ 22 ∧ t ≠ 5) : Sp W' G A n b := by
  obtain ⟨⟨bad, h1⟩, ⟨cs', h2, h3, h4⟩, h5, h6⟩ := h
  have k1 := hU.ne h1 ht.1
  have k2 := hU.ne h2 ht.2.1
  refine ⟨⟨bad, h1.grown hg (fun k e => by cases e; exact k1)⟩, ⟨cs', h2.grown hg (fun k e => by cases e; exact k2), h3, fun v hv => ?_⟩, h5, h6⟩
  rcases h4 v hv with h | ⟨g, h, k⟩
  · exact Or.inl h
  · exact Or.inr ⟨g, h, k.grown hg (fun j e => by cases e; exact hU.ne k ht.2.2)⟩
theorem zeros_len : zeros.length = 468 := by simp [zeros]
theorem zeros_byt : ∀ x ∈ zeros, 0 ≤ x ∧ x ≤ 255 := fun x hx => by have := List.eq_of_mem_replicate hx; omega

set_option maxHeartbeats 2000000 in
theorem new_any (n : Nat) (hn : n ≤ 2000) (w : World) : Calls Try.prog 37 #[.int .i64 n] w fun e w' => ∃ G A, e = .returned (.pointer (some ⟨G, 0, none⟩)) ∧ Sp w' G A n zeros ∧ Below w.heap.size w w' ∧ w.heap.size ≤ G ∧ w.heap.size ≤ A := by
  obtain ⟨i22, h22i, h22z, h221, h22b⟩ := info_parts info22
  go_enter Try.func37, Try.ntmps37
  go_wp2_with (refine wpList_make_full _ rfl _ _ 92 rfl w.heap.size 22 i22 _ 1 Try.underlying92 h22i h22z h221 .i64 .i64 _ _ n rfl rfl (by omega) (by omega) (by rw [h22b]; omega) (by simp only [maxLen]; omega) (Nat.le_refl _) ?_; intro w4 hown4 hgrow4; (have HO4 := Lib.hid hown4); (have HB4 := Lib.hid ((Below.refl w.heap.size w).grown hgrow4 (Nat.le_refl _) (fun k e => by cases e))); clear hown4 hgrow4)
  go_ret
  have hown := HO4.out
  rw [Nat.mul_one, show (Value.slice none 0 0).cells = #[.slice none 0 0] from rfl, toList_madeCells_one] at hown
  obtain ⟨hb, hbb⟩ := Blk.of_own hown
  refine ⟨w4.heap.size, w.heap.size, rfl, ⟨⟨false, Blk.new _ _ _⟩, ⟨_, hb.alloc _, by simp, fun v hv => ?_⟩, zeros_len, zeros_byt⟩, below_al HB4.out _, HB4.out.size, Nat.le_refl _⟩
  rw [List.getElem?_replicate] at hv
  split at hv
  · cases hv
    exact Or.inl ⟨rfl, rfl⟩
  · cases hv
theorem size_any (G A n : Nat) (b : List Int) (w : World) (h : Sp w G A n b) : Calls Try.prog 109 #[.pointer (some ⟨G, 0, none⟩)] w fun e w' => e = .returned (.int .i64 n) ∧ w' = w := by
  obtain ⟨⟨bad, h1⟩, -⟩ := h
  have c0 := h1.cell (j := 0) rfl
  clear h1
  go_enter Try.func109, Try.ntmps109
  go_wp2
  go_ret
  exact ⟨rfl, rfl⟩

theorem splice_all {α : Type} {L cs : List α} (h : cs.length = L.length) : splice L 0 cs = cs := by simp [splice, h]
theorem splice_nil {α : Type} {L : List α} : splice L 0 [] = L := by simp [splice]
theorem cells_u8 (n : Nat) : (madeCells (Value.int .u8 0).cells (n * 1)).toList = numK .u8 (List.replicate n 0) := by
  rw [Nat.mul_one, show (Value.int .u8 0).cells = #[.int .u8 0] from rfl, toList_madeCells_one]
  simp [numK]

set_option maxHeartbeats 4000000 in
theorem read_no (G A n : Nat) (b : List Int) (tx : Value) (w : World) (h : Sp w G A n b) (hn : n ≤ 1) : Calls Try.prog 40 #[.pointer (some ⟨G, 0, none⟩), tx, .int .i64 1] w fun e w' => e = .returned (.tuple #[.slice none 0 0, .int .i64 24]) ∧ w' = w := by
  obtain ⟨⟨bad, h1⟩, -⟩ := h
  have c0 := h1.cell (j := 0) rfl
  have hn1 : ((n : Int) ≤ 1) := by omega
  clear h1
  go_enter Try.func40, Try.ntmps40
  go_wp2
  go_ret2
  exact ⟨rfl, rfl⟩
set_option maxHeartbeats 4000000 in
theorem read_ok (G A n : Nat) (b : List Int) (tx : Value) (w : World) (h : Sp w G A n b) (hn : 1 < n) : Calls Try.prog 40 #[.pointer (some ⟨G, 0, none⟩), tx, .int .i64 1] w fun e w' => ∃ g, e = .returned (.tuple #[.slice (some ⟨g, 0, none⟩) 468 468, .int .i64 0]) ∧ Blk w' g (numK .u8 b) 5 ∧ Below w.heap.size w w' ∧ w.heap.size ≤ g := by
  obtain ⟨i5, h5i, h5z, h51, h5b⟩ := info_parts info5
  have hsz5 : (Try.prog.info? 5).map (·.size) = some 1 := by kernel_rfl
  have hlen := h.len
  obtain ⟨⟨bad, h1⟩, ⟨cs, h2, h3, h4⟩, h5, h6⟩ := h
  obtain ⟨v, hv⟩ : ∃ v, cs[1]? = some v := ⟨_, List.getElem?_eq_getElem (by omega)⟩
  have c0 := h1.cell (j := 0) rfl
  have c1 := h2.cell hv
  have hn1 : ¬ ((n : Int) ≤ 1) := by omega
  have hni : (1 : Int) < n := by omega
  have H4 := Lib.hid (h4 v hv)
  have C0 := Lib.hid c0
  have C1 := Lib.hid c1
  clear h1 h2 h3 h4 h5 h6 hv
  go_enter Try.func40, Try.ntmps40
  go_upto_region 4 with (refine wpList_make_full _ rfl _ _ 22 rfl w.heap.size 5 i5 _ 1 Try.underlying22 h5i h5z h51 .i64 .i64 _ _ 468 rfl rfl (by omega) (by omega) (by rw [h5b]; omega) (by simp only [maxLen]; omega) (Nat.le_refl _) ?_; intro w4 hown4 hgrow4; (have HO4 := Lib.hid hown4); (have HB4 := Lib.hid ((Below.refl w.heap.size w).grown hgrow4 (Nat.le_refl _) (fun k e => by cases e))); clear hown4 hgrow4)
  have hown := HO4.out
  rw [cells_u8] at hown
  obtain ⟨hbk, -⟩ := Blk.of_own hown
  have HBK := Lib.hid hbk
  have c0 := cell_keep HB4.out C0.out
  have c1 := cell_keep HB4.out C1.out
  clear hown hbk HO4
  rcases H4.out with ⟨rfl, rfl⟩ | ⟨g, rfl, hg⟩
  · go_wp2_with (refine wpList_copy_splice rfl _ _ 22 22 rfl 5 Try.underlying22 hsz5 _ _ 468 468 0 0 rfl rfl w.heap.size 0 _ 5 HBK.out [] (by simp) (fun hc => by simp at hc) (by simp) (fun v hv => by cases hv) w.heap.size w HB4.out (Nat.le_refl _) ?_; intro w5 hg5 hb5)
    go_ret2
    refine ⟨_, rfl, ?_, hb5, Nat.le_refl _⟩
    have := hg5.out
    rw [splice_nil] at this
    exact this
  · have HG := Lib.hid (hg.on HB4.out)
    clear hg
    go_wp2_with (refine wpList_copy_splice rfl _ _ 22 22 rfl 5 Try.underlying22 hsz5 _ _ 468 468 468 468 rfl rfl w.heap.size 0 _ 5 HBK.out (numK .u8 b) (by rw [numK_len, hlen]; rfl) (fun hc => ⟨rfl, _, rfl, fun j v hv => by rw [Addr.add_lit, Nat.zero_add]; exact HG.out.cell hv⟩) (by rw [numK_len, numK_len, hlen]; simp) (fun v hv => by obtain ⟨x, -, rfl⟩ := List.mem_map.1 hv; rfl) w.heap.size w HB4.out (Nat.le_refl _) ?_; intro w5 hg5 hb5)
    go_ret2
    refine ⟨_, rfl, ?_, hb5, Nat.le_refl _⟩
    have := hg5.out
    rw [splice_all (by rw [numK_len, numK_len, hlen]; simp)] at this
    exact this
end Go.Proofs.Ytibohhiebejbmaa
/- Walks: bits: want, fits, size, Check, get; Clone; From. -/
namespace Go.Proofs.Ytibohhiebejbmaa
open Go.RowKit Go.Deep
set_option linter.unusedVariables false
set_option linter.unusedSimpArgs false
set_option maxRecDepth 100000

theorem want_ok (e : Int) (w : World) : Calls Try.prog 83 #[.bool true, .int .i64 e] w fun x w' => x = .returned (.tuple #[]) ∧ w' = w := by
  go_enter Try.func83, Try.ntmps83
  go_wp2
  go_end0
  exact ⟨rfl, rfl⟩
theorem bfits_ok (w : World) : Calls Try.prog 81 #[.int .i64 3744] w fun x w' => x = .returned (.tuple #[]) ∧ w' = w := by
  go_enter Try.func81, Try.ntmps81
  go_wp2_with (go_at_call 83; refine (want_ok 1 _).mono ?_; rintro e w1 ⟨rfl, rfl⟩)
  go_end0
  exact ⟨rfl, rfl⟩
theorem bsize_ok (w : World) : Calls Try.prog 89 #[.int .i64 3744] w fun x w' => x = .returned (.int .i64 468) ∧ w' = w := by
  go_enter Try.func89, Try.ntmps89
  go_wp2
  go_ret
  exact ⟨rfl, rfl⟩
/-- A bitmap of a body, as a value. -/
def bitsV (g c : Nat) : Value := .agg #[.int .i64 3744, .slice (some ⟨g, 0, none⟩) 468 c]
set_option maxHeartbeats 1000000 in
theorem bcheck_ok (g c : Nat) (w : World) : Calls Try.prog 84 #[bitsV g c] w fun x w' => x = .returned (.int .i64 0) ∧ Below w.heap.size w w' := by
  unfold bitsV
  go_enter Try.func84, Try.ntmps84
  go_wp2
  obtain ⟨wa, hwa⟩ : ∃ W, w.alloc (.cells #[.int .i64 3744, .slice (some ⟨g, 0, none⟩) 468 c] 99) = W := ⟨_, rfl⟩
  have c0 : wa.cell? ⟨w.heap.size, 0, none⟩ = some (.int .i64 3744) := by rw [← hwa]; exact (Blk.new _ [_, _] _).cell rfl
  have c1 : wa.cell? ⟨w.heap.size, 1, none⟩ = some (.slice (some ⟨g, 0, none⟩) 468 c) := by rw [← hwa]; exact (Blk.new _ [_, _] _).cell rfl
  have hB : Hid (Below w.heap.size w wa) := Lib.hid (by rw [← hwa]; exact one_alloc _ _)
  rw [hwa]
  clear hwa
  go_quiet ((go_at_call 89; exact Calls.quiet_of_same (bsize_ok _)))
  go_wp2
  go_ret
  exact ⟨rfl, below_drewN hB.out _⟩
set_option maxHeartbeats 2000000 in
theorem get_any (g c : Nat) (b : List Int) (i : Nat) (hi : i < 3744) (w : World) (h : Blk w g (numK .u8 b) 5) (hl : b.length = 468) (hb : ∀ x ∈ b, 0 ≤ x ∧ x ≤ 255) :
    Calls Try.prog 92 #[bitsV g c, .int .i64 i] w fun x w' => x = .returned (.bool (bitB b i)) ∧ Below w.heap.size w w' := by
  unfold bitsV
  obtain ⟨q, hq⟩ : ∃ q, i / 8 = q := ⟨_, rfl⟩
  have hqb : q < 468 := by omega
  have hqz : (i : Int) / 8 = (q : Int) := by omega
  have hqi : (q : Int) < 468 := by omega
  obtain ⟨x, hx⟩ : ∃ x, b.getD q 0 = x := ⟨_, rfl⟩
  have hc : (w.alloc (.cells #[.int .i64 3744, .slice (some ⟨g, 0, none⟩) 468 c] 99)).cell? ⟨g, q, none⟩ = some (.int .u8 x) := (h.alloc _).cell (by rw [numK_get (by omega), hx])
  clear h
  go_enter Try.func92, Try.ntmps92
  go_wp2
  go_ret
  refine ⟨?_, one_alloc _ _⟩
  have hxb : 0 ≤ x ∧ x ≤ 255 := by
    refine hb x ?_
    rw [← hx, List.getD_eq_getElem?_getD, List.getElem?_eq_getElem (by omega)]
    exact List.getElem_mem _
  have hp : (0 : Int) < 2 ^ (i % 8) := Int.pow_pos (by decide)
  have h0 : 0 ≤ x / 2 ^ (i % 8) := Int.ediv_nonneg hxb.1 (by omega)
  have h1 : x / 2 ^ (i % 8) < 256 := by
    have := Int.ediv_le_self (2 ^ (i % 8)) hxb.1
    omega
  have hm : bits .and .u8 (x / 2 ^ (i % 8)) 1 = x / 2 ^ (i % 8) % 2 := bits_mask .u8 8 (by decide) wraps_u8 1 (by decide) _ h0 h1
  rw [hm]
  unfold bitB
  rw [hq, hx]
  rfl

/-- Some places of a row are set. -/
def setR (us : List Bool) (p k : Nat) (v : Bool) : List Bool := (List.range us.length).map fun i => if p ≤ i ∧ i < p + k then v else us.getD i false
theorem setR_len (us : List Bool) (p k : Nat) (v : Bool) : (setR us p k v).length = us.length := by simp [setR]
theorem setR_get {us : List Bool} {p k : Nat} {v : Bool} {i : Nat} (hi : i < us.length) : (setR us p k v).getD i false = if p ≤ i ∧ i < p + k then v else us.getD i false := by
  unfold setR
  rw [List.getD_eq_getElem?_getD, List.getElem?_map, List.getElem?_range hi]
  rfl
theorem bool_ext {a b : List Bool} (hl : a.length = b.length) (h : ∀ i, i < a.length → a.getD i false = b.getD i false) : a = b := by
  refine List.ext_getElem hl fun i h1 h2 => ?_
  have := h i h1
  rwa [List.getD_eq_getElem?_getD, List.getD_eq_getElem?_getD, List.getElem?_eq_getElem h1, List.getElem?_eq_getElem h2] at this
theorem setR_none (us : List Bool) (p : Nat) (v : Bool) : setR us p 0 v = us := bool_ext (setR_len _ _ _ _) fun i hi => by
  rw [setR_len] at hi
  rw [setR_get hi, if_neg (by omega)]
theorem setR_step (us : List Bool) (p k : Nat) (v : Bool) (h : p + k < us.length) : (setR us p k v).set (p + k) v = setR us p (k + 1) v := bool_ext (by rw [List.length_set, setR_len, setR_len]) fun i hi => by
  rw [List.length_set, setR_len] at hi
  rw [setR_get hi, List.getD_eq_getElem?_getD, List.getElem?_set]
  by_cases he : p + k = i
  · rw [if_pos he, if_pos (by rw [setR_len]; omega), if_pos (by omega)]; rfl
  · rw [if_neg he, ← List.getD_eq_getElem?_getD, setR_get hi]
    by_cases h1 : p ≤ i ∧ i < p + k
    · rw [if_pos h1, if_pos (by omega)]
    · rw [if_neg h1, if_neg (by omega)]
/-- A Space with its bitmap. -/
structure Rm (W : World) (R U n : Nat) (G : Nat) (tx : Value) (us : List Bool) : Prop where
  obj : Blk W R [.iface 26 (.pointer (some ⟨G, 0, none⟩)), tx, .slice (some ⟨U, 0, none⟩) n n] 88
  row : Blk W U (boolsV us) 4
  len : us.length = n
theorem Rm.on {W W' : World} {R U n G : Nat} {tx : Value} {us : List Bool} (h : Rm W R U n G tx us) (hb : Below W.heap.size W W') : Rm W' R U n G tx us := ⟨h.obj.on hb, h.row.on hb, h.len⟩
theorem i64_is {z : Int} {n : Nat} (h : z = n) (hn : n < 4611686018427387904) : IntKind.i64.wrap z = (n : Int) := by
  subst h
  exact IntWalk.i64_in _ (by omega)

set_option maxHeartbeats 4000000 in
theorem set_any (R U n G p m : Nat) (tx : Value) (us : List Bool) (v : Bool) (w : World) (h : Rm w R U n G tx us) (hn : n ≤ 1000000) (hpm : p + m ≤ n) :
    Calls Try.prog 65 #[.pointer (some ⟨R, 0, none⟩), .agg #[.int .i64 p, .int .i64 m], .bool v] w fun e w' => e = .returned (.tuple #[]) ∧ Rm w' R U n G tx (setR us p m v) ∧ w.grownBy w' (some U) := by
  have hl := h.len
  have hRU : R ≠ U := h.obj.ne h.row (by decide)
  have H := Lib.hid h
  clear h
  go_enter Try.func65, Try.ntmps65
  go_wp2
  obtain ⟨B, hB⟩ : ∃ B, w.heap.size = B := ⟨_, rfl⟩
  have HB := Lib.hid hB
  have HA : Hid (Blk (w.alloc (.cells #[.int .i64 p, .int .i64 m] 56)) B [.int .i64 p, .int .i64 m] 56) := Lib.hid (by rw [← hB]; exact Blk.new _ [_, _] _)
  have HRm : Hid (Rm (w.alloc (.cells #[.int .i64 p, .int .i64 m] 56)) R U n G tx (setR us p 0 v)) := Lib.hid (by rw [setR_none]; exact H.out.on (one_alloc _ _))
  have HG : Hid (w.grownBy (w.alloc (.cells #[.int .i64 p, .int .i64 m] 56)) (some U)) := Lib.hid (grown_of_below (one_alloc _ _) _)
  rw [hB]
  clear hB
  go_loopw [9] (fun i W => ∃ k : Nat, i = .int .i64 k ∧ k ≤ m ∧ Hid (Blk W B [.int .i64 p, .int .i64 m] 56) ∧ Hid (Rm W R U n G tx (setR us p k v)) ∧ Hid (w.grownBy W (some U))) (fun i _ => m - (intOf i).toNat)
  case atStart => exact ⟨0, by simp, by omega, HA, HRm, HG⟩
  case round =>
    clear HA HRm HG
    obtain ⟨k, rfl, hk, HA, HR, HG⟩ := hrel
    by_cases hlt : k < m
    · have hlti : (k : Int) < m := by omega
      obtain ⟨q, hq⟩ : ∃ q, p + k = q := ⟨_, rfl⟩
      have hwq : IntKind.i64.wrap ((p : Int) + (k : Int)) = (q : Int) := i64_is (by omega) (by omega)
      have hqi : (q : Int) < n := by omega
      have c0 := HA.out.cell (j := 0) rfl
      have c1 := HR.out.obj.cell (j := 2) rfl
      have c2 := HR.out.row.cell (j := q) (boolsV_get (by rw [setR_len]; omega))
      have f2 := HR.out.row.fz
      obtain ⟨y, hy⟩ : ∃ y, (setR us p k v).getD q false = y := ⟨_, rfl⟩
      rw [hy] at c2
      have HQ := Lib.hid hq
      clear hy hq
      go_wp2
      go_region
      all_goals go_wp2
      obtain ⟨W9, hW9⟩ : ∃ W', wr.setCell ⟨U, q, none⟩ (.bool v) = W' := ⟨_, rfl⟩
      rw [hW9]
      have hUB : B ≠ U := HA.out.ne HR.out.row (by decide)
      have a1 : Blk W9 B [.int .i64 p, .int .i64 m] 56 := by rw [← hW9]; exact HA.out.far hUB _
      have a2 : Rm W9 R U n G tx (setR us p (k + 1) v) := by
        rw [← hW9]
        refine ⟨HR.out.obj.far hRU _, ?_, by rw [setR_len]; exact hl⟩
        have := HR.out.row.set q (.bool v)
        rw [boolsV_set, ← HQ.out, setR_step us p k v (by have := HQ.out; omega)] at this
        rw [← HQ.out]
        exact this
      have a3 : w.grownBy W9 (some U) := grown_then HG.out (by rw [← hW9]; exact grown_set _ _ _ _)
      exact ⟨⟨k + 1, by simp, by omega, Lib.hid a1.drew, Lib.hid ⟨a2.obj.drew, a2.row.drew, a2.len⟩, Lib.hid (grown_then a3 (grown_of_below (below_drew1 (Below.refl _ _)) _))⟩, by simp only [intOf]; omega⟩
    · have hke : k = m := by omega
      subst hke
      have hlti : ¬ ((k : Int) < k) := by omega
      go_wp2
      go_end0
      exact ⟨rfl, HR.out, HG.out⟩
end Go.Proofs.Ytibohhiebejbmaa
/- Walks: free, body, Write, save. -/
namespace Go.Proofs.Ytibohhiebejbmaa
open Go.RowKit Go.Deep
set_option linter.unusedVariables false
set_option linter.unusedSimpArgs false
set_option maxRecDepth 100000

/-- How many are free. -/
def freeM (us : List Bool) : Nat := us.countP fun x => !x
theorem take_snocB {us : List Bool} {k : Nat} (hk : k < us.length) : us.take (k + 1) = us.take k ++ [us.getD k false] := by
  rw [List.take_add_one, List.getD_eq_getElem?_getD, List.getElem?_eq_getElem hk]; rfl
theorem freeM_step {us : List Bool} {k : Nat} (hk : k < us.length) : freeM (us.take (k + 1)) = freeM (us.take k) + if us.getD k false then 0 else 1 := by
  unfold freeM
  rw [take_snocB hk, List.countP_append]
  cases us.getD k false <;> simp
theorem freeM_le (us : List Bool) : freeM us ≤ us.length := List.countP_le_length

set_option maxHeartbeats 2000000 in
theorem free_any (R U n G : Nat) (tx : Value) (us : List Bool) (w : World) (h : Rm w R U n G tx us) (hn : n ≤ 1000000) :
    Calls Try.prog 54 #[.pointer (some ⟨R, 0, none⟩)] w fun e w' => e = .returned (.int .i64 (freeM us)) ∧ w' = w := by
  have hl := h.len
  have c1 := h.obj.cell (j := 2) rfl
  have H := Lib.hid h
  clear h
  go_enter Try.func54, Try.ntmps54
  go_wp2
  clear c1
  go_loopw [3, 11] (fun v i W => ∃ k : Nat, i = .int .i64 k ∧ k ≤ n ∧ v = .int .i64 (freeM (us.take k)) ∧ W = w) (fun _ i _ => n - (intOf i).toNat)
  case atStart => exact ⟨0, by simp, by omega, by simp [freeM], rfl⟩
  case round =>
    obtain ⟨k, rfl, hk, rfl, rfl⟩ := hrel
    by_cases hlt : k < n
    · have hlti : (k : Int) < n := by omega
      have c2 := H.out.row.cell (j := k) (boolsV_get (by omega))
      have hst := freeM_step (us := us) (k := k) (by omega)
      have hbd := freeM_le (us.take k)
      rw [List.length_take] at hbd
      obtain ⟨y, hy⟩ : ∃ y, us.getD k false = y := ⟨_, rfl⟩
      rw [hy] at c2 hst
      obtain ⟨z, hz⟩ : ∃ z, freeM (us.take k) = z := ⟨_, rfl⟩
      rw [hz] at hst hbd ⊢
      have HST := Lib.hid hst
      clear hst hy hz
      cases y with
      | true =>
        go_wp2
        exact ⟨⟨k + 1, by simp, by omega, by rw [HST.out]; simp, trivial⟩, by simp only [intOf]; omega⟩
      | false =>
        go_wp2
        exact ⟨⟨k + 1, by simp, by omega, by rw [HST.out]; simp, trivial⟩, by simp only [intOf]; omega⟩
    · have hke : k = n := by omega
      have hlti : ¬ ((k : Int) < n) := by omega
      have hall : us.take k = us := List.take_of_length_le (by omega)
      rw [hall]
      clear hke hall
      go_wp2
      go_ret
      exact ⟨rfl, rfl⟩

/-- A byte of eight bits. -/
def byteM (f : Nat → Bool) : Int := (if f 0 then 1 else 0) + (if f 1 then 2 else 0) + (if f 2 then 4 else 0) + (if f 3 then 8 else 0) + (if f 4 then 16 else 0) + (if f 5 then 32 else 0) + (if f 6 then 64 else 0) + (if f 7 then 128 else 0)
/-- The body of a bitmap. -/
def bodyM (us : List Bool) : List Int := (List.range 468).map fun j => byteM fun t => us.getD (8 * j + t) false
theorem bodyM_len (us : List Bool) : (bodyM us).length = 468 := by simp [bodyM]
theorem bodyM_get (us : List Bool) {j : Nat} (hj : j < 468) : (bodyM us).getD j 0 = byteM fun t => us.getD (8 * j + t) false := by
  unfold bodyM
  rw [List.getD_eq_getElem?_getD, List.getElem?_map, List.getElem?_range hj]; rfl
theorem byteM_bd (f : Nat → Bool) : 0 ≤ byteM f ∧ byteM f ≤ 255 := by
  unfold byteM
  constructor <;> (repeat' split) <;> omega
theorem bodyM_byt (us : List Bool) : ∀ x ∈ bodyM us, 0 ≤ x ∧ x ≤ 255 := by
  intro x hx
  obtain ⟨j, -, rfl⟩ := List.mem_map.1 hx
  exact byteM_bd _
theorem or_bit : ∀ x : Fin 256, ∀ t : Fin 8, (x.val / 2 ^ t.val) % 2 = 0 → bits .or .u8 (x.val : Int) ((2 ^ t.val : Nat) : Int) = ((x.val + 2 ^ t.val : Nat) : Int) := by decide +kernel
theorem byteM_congr {f g : Nat → Bool} (h : ∀ t, t < 8 → f t = g t) : byteM f = byteM g := by
  unfold byteM
  rw [h 0 (by decide), h 1 (by decide), h 2 (by decide), h 3 (by decide), h 4 (by decide), h 5 (by decide), h 6 (by decide), h 7 (by decide)]
theorem byteM_add (f g : Nat → Bool) (t : Nat) (ht : t < 8) (hf : f t = false) (hg : g t = true) (h : ∀ s, s ≠ t → g s = f s) : byteM g = byteM f + 2 ^ t ∧ byteM f / 2 ^ t % 2 = 0 := by
  have hgf : g = fun s => if s = t then true else f s := funext fun s => by
    by_cases hs : s = t
    · rw [hs, hg, if_pos rfl]
    · rw [h s hs, if_neg hs]
  subst hgf
  have h8 : t = 0 ∨ t = 1 ∨ t = 2 ∨ t = 3 ∨ t = 4 ∨ t = 5 ∨ t = 6 ∨ t = 7 := by omega
  clear h hg ht
  unfold byteM
  rcases h8 with rfl | rfl | rfl | rfl | rfl | rfl | rfl | rfl <;> simp [hf] <;> (repeat' split) <;> simp_all <;> omega
theorem body_step {us : List Bool} {k : Nat} (hk : k < us.length) (hk2 : k < 3744) (hb : us.getD k false = true) :
    bits .or .u8 ((bodyM (us.take k)).getD (k / 8) 0) (2 ^ (k % 8)) = (bodyM (us.take (k + 1))).getD (k / 8) 0 ∧ (bodyM (us.take k)).set (k / 8) ((bodyM (us.take (k + 1))).getD (k / 8) 0) = bodyM (us.take (k + 1)) := by
  have hq : k / 8 < 468 := by omega
  have hg : ∀ i, i ≠ k → (us.take (k + 1)).getD i false = (us.take k).getD i false := by
    intro i hi
    rw [List.getD_eq_getElem?_getD, List.getD_eq_getElem?_getD, List.getElem?_take, List.getElem?_take]
    by_cases h1 : i < k
    · rw [if_pos (by omega), if_pos h1]
    · rw [if_neg (by omega), if_neg h1]
  have h0 : (us.take k).getD k false = false := by
    rw [List.getD_eq_getElem?_getD, List.getElem?_take, if_neg (by omega)]; rfl
  have h1 : (us.take (k + 1)).getD k false = true := by
    rw [List.getD_eq_getElem?_getD, List.getElem?_take, if_pos (by omega), ← List.getD_eq_getElem?_getD, hb]
  have hadd := byteM_add (fun t => (us.take k).getD (8 * (k / 8) + t) false) (fun t => (us.take (k + 1)).getD (8 * (k / 8) + t) false) (k % 8) (by omega)
    (by show (us.take k).getD (8 * (k / 8) + k % 8) false = false; rw [show 8 * (k / 8) + k % 8 = k from by omega]; exact h0)
    (by show (us.take (k + 1)).getD (8 * (k / 8) + k % 8) false = true; rw [show 8 * (k / 8) + k % 8 = k from by omega]; exact h1)
    (fun s hs => hg _ (by omega))
  rw [bodyM_get _ hq, bodyM_get _ hq]
  constructor
  · obtain ⟨B, hB⟩ : ∃ B, byteM (fun t => (us.take k).getD (8 * (k / 8) + t) false) = B := ⟨_, rfl⟩
    have hbd := byteM_bd (fun t => (us.take k).getD (8 * (k / 8) + t) false)
    rw [hB] at hadd hbd ⊢
    rw [hadd.1]
    obtain ⟨x, hx⟩ : ∃ x : Nat, B = x := ⟨B.toNat, by omega⟩
    subst hx
    have ht : k % 8 < 8 := by omega
    have := or_bit ⟨x, by omega⟩ ⟨k % 8, ht⟩ (by
      show x / 2 ^ (k % 8) % 2 = 0
      have h2 := hadd.2
      exact_mod_cast h2)
    simpa using this
  · refine List.ext_getElem (by rw [List.length_set, bodyM_len, bodyM_len]) fun i h2 h3 => ?_
    rw [bodyM_len] at h3
    have e1 : ∀ (l : List Int) (h : i < l.length), l[i] = l.getD i 0 := fun l h => by rw [List.getD_eq_getElem?_getD, List.getElem?_eq_getElem h]; rfl
    rw [List.getElem_set]
    split
    · rename_i he
      subst he
      rw [e1 _ (by rw [bodyM_len]; exact h3), bodyM_get _ h3]
    · rename_i he
      rw [e1 _ (by rw [bodyM_len]; exact h3), e1 _ (by rw [bodyM_len]; exact h3), bodyM_get _ h3, bodyM_get _ h3]
      exact byteM_congr fun t ht => (hg _ (by omega)).symm
end Go.Proofs.Ytibohhiebejbmaa
/- Walks: body, Write, save. -/
namespace Go.Proofs.Ytibohhiebejbmaa
open Go.RowKit Go.Deep
set_option linter.unusedVariables false
set_option linter.unusedSimpArgs false
set_option maxRecDepth 100000

theorem bodyM_none : bodyM [] = List.replicate 468 0 := by decide +kernel
theorem body_same {us : List Bool} {k : Nat} (hk : k < us.length) (hb : us.getD k false = false) : bodyM (us.take (k + 1)) = bodyM (us.take k) := by
  unfold bodyM
  refine List.map_congr_left fun j _ => byteM_congr fun t _ => ?_
  rw [List.getD_eq_getElem?_getD, List.getD_eq_getElem?_getD, List.getElem?_take, List.getElem?_take]
  by_cases h1 : 8 * j + t < k
  · rw [if_pos (by omega), if_pos h1]
  · by_cases h2 : 8 * j + t = k
    · rw [if_pos (by omega), if_neg h1, h2, ← List.getD_eq_getElem?_getD, hb]; rfl
    · rw [if_neg (by omega), if_neg h1]

theorem pow8 (k : Nat) : (2 : Int) ^ (k % 8) % 256 = 2 ^ (k % 8) := by
  have h : k % 8 < 8 := Nat.mod_lt _ (by decide)
  generalize k % 8 = t at h
  have h8 : t = 0 ∨ t = 1 ∨ t = 2 ∨ t = 3 ∨ t = 4 ∨ t = 5 ∨ t = 6 ∨ t = 7 := by omega
  rcases h8 with rfl | rfl | rfl | rfl | rfl | rfl | rfl | rfl <;> decide

set_option maxHeartbeats 4000000 in
theorem body_any (U n : Nat) (us : List Bool) (w : World) (h : Blk w U (boolsV us) 4) (hl : us.length = n) (hn : n ≤ 3744) :
    Calls Try.prog 74 #[.slice (some ⟨U, 0, none⟩) n n] w fun e w' => ∃ g, e = .returned (.slice (some ⟨g, 0, none⟩) 468 468) ∧ Blk w' g (numK .u8 (bodyM us)) 5 ∧ Below w.heap.size w w' ∧ w.heap.size ≤ g := by
  obtain ⟨i5, h5i, h5z, h51, h5b⟩ := info_parts info5
  have H := Lib.hid h
  clear h
  go_enter Try.func74, Try.ntmps74
  go_upto_region 2 with (refine wpList_make_full _ rfl _ _ 22 rfl w.heap.size 5 i5 _ 1 Try.underlying22 h5i h5z h51 .i64 .i64 _ _ 468 rfl rfl (by omega) (by omega) (by rw [h5b]; omega) (by simp only [maxLen]; omega) (Nat.le_refl _) ?_; intro w4 hown4 hgrow4; (have HO4 := Lib.hid hown4); (have HB4 := Lib.hid ((Below.refl w.heap.size w).grown hgrow4 (Nat.le_refl _) (fun k e => by cases e))); clear hown4 hgrow4)
  have hown := HO4.out
  rw [cells_u8] at hown
  obtain ⟨hbk, -⟩ := Blk.of_own hown
  obtain ⟨B, hB⟩ : ∃ B, w.heap.size = B := ⟨_, rfl⟩
  rw [hB] at hbk ⊢
  have HBK : Hid (Blk w4 B (numK .u8 (bodyM (us.take 0))) 5) := Lib.hid (by rw [List.take_zero, bodyM_none]; exact hbk)
  have HB := Lib.hid hB
  clear hown hbk HO4 hB
  go_wp2
  go_loopw [9] (fun i W => ∃ k : Nat, i = .int .i64 k ∧ k ≤ n ∧ Hid (Blk W B (numK .u8 (bodyM (us.take k))) 5) ∧ Hid (Below w.heap.size w W)) (fun i _ => n - (intOf i).toNat)
  case atStart => exact ⟨0, by simp, by omega, HBK, HB4⟩
  case round =>
    clear HBK HB4
    obtain ⟨k, rfl, hk, HA, HG⟩ := hrel
    by_cases hlt : k < n
    · have hlti : (k : Int) < n := by omega
      have c1 := (H.out.on HG.out).cell (j := k) (boolsV_get (by omega))
      obtain ⟨y, hy⟩ : ∃ y, us.getD k false = y := ⟨_, rfl⟩
      rw [hy] at c1
      cases y with
      | false =>
        have hs := body_same (by omega) hy
        have HA' := Lib.hid (show Blk wr B (numK .u8 (bodyM (us.take (k + 1)))) 5 by rw [hs]; exact HA.out)
        clear hs hy
        go_wp2
        exact ⟨⟨k + 1, by simp, by omega, HA', HG⟩, by simp only [intOf]; omega⟩
      | true =>
        obtain ⟨s1, s2⟩ := body_step (us := us) (k := k) (by omega) (by omega) hy
        obtain ⟨q, hq⟩ : ∃ q, k / 8 = q := ⟨_, rfl⟩
        have hqz : (k : Int) / 8 = (q : Int) := by omega
        have hqi : (q : Int) < 468 := by omega
        rw [hq] at s1 s2
        obtain ⟨x, hx⟩ : ∃ x, (bodyM (us.take k)).getD q 0 = x := ⟨_, rfl⟩
        obtain ⟨x', hx'⟩ : ∃ x, (bodyM (us.take (k + 1))).getD q 0 = x := ⟨_, rfl⟩
        rw [hx, hx'] at s1
        rw [hx'] at s2
        have c2 := HA.out.cell (j := q) (numK_get (by rw [bodyM_len]; omega))
        rw [hx] at c2
        have f2 := HA.out.fz
        have s3 : bits .or .u8 x (2 ^ (k % 8) % 256) = x' := by rw [pow8]; exact s1
        have S2 := Lib.hid s2
        clear hy hq s1 s2 hx hx'
        go_wp2
        go_region
        all_goals go_wp2
        obtain ⟨W9, hW9⟩ : ∃ W', wr.setCell ⟨B, q, none⟩ (.int .u8 x') = W' := ⟨_, rfl⟩
        rw [hW9]
        have a1 : Blk W9 B (numK .u8 (bodyM (us.take (k + 1)))) 5 := by
          rw [← hW9, ← S2.out, ← numK_set]
          exact HA.out.set q _
        have a2 : Below w.heap.size w W9 := by rw [← hW9]; exact below_st HG.out (by rw [HB.out]; exact Nat.le_refl _)
        exact ⟨⟨k + 1, by simp, by omega, Lib.hid a1.drew, Lib.hid (below_drew1 a2)⟩, by simp only [intOf]; omega⟩
    · have hke : k = n := by omega
      have hlti : ¬ ((k : Int) < n) := by omega
      have HA' := Lib.hid (show Blk wr B (numK .u8 (bodyM us)) 5 by have := HA.out; rwa [List.take_of_length_le (by omega)] at this)
      clear hke
      go_wp2
      go_ret
      exact ⟨B, rfl, HA'.out, HG.out, by rw [HB.out]; exact Nat.le_refl _⟩

theorem splice_len {α : Type} {L cs : List α} (h : cs.length ≤ L.length) : (splice L 0 cs).length = L.length := length_splice L 0 cs (by omega)
set_option maxHeartbeats 4000000 in
theorem write_any (G A n g c : Nat) (b b' : List Int) (tx : Value) (w : World) (h : Sp w G A n b) (hn : 1 < n) (hs : Blk w g (numK .u8 b') 5) (hl' : b'.length = 468) (hb' : ∀ x ∈ b', 0 ≤ x ∧ x ≤ 255) :
    Calls Try.prog 39 #[.pointer (some ⟨G, 0, none⟩), tx, .int .i64 1, .int .i64 0, .slice (some ⟨g, 0, none⟩) 468 c] w fun e w' => e = .returned (.int .i64 0) ∧ Sp w' G A n b' ∧ w.grownBy w' (some A) := by
  obtain ⟨i5, h5i, h5z, h51, h5b⟩ := info_parts info5
  have hsz5 : (Try.prog.info? 5).map (·.size) = some 1 := by kernel_rfl
  have hlen := h.len
  obtain ⟨⟨bad, h1⟩, ⟨cs, h2, h3, h4⟩, h5, h6⟩ := h
  obtain ⟨v, hv⟩ : ∃ v, cs[1]? = some v := ⟨_, List.getElem?_eq_getElem (by omega)⟩
  have hn1 : ¬ ((n : Int) ≤ 1) := by omega
  have hni : (1 : Int) < n := by omega
  have H4 := Lib.hid (h4 v hv)
  have H1 := Lib.hid h1
  have H2 := Lib.hid h2
  have HV := Lib.hid hv
  have HS := Lib.hid hs
  have c0 := h1.cell (j := 0) rfl
  clear h1 h2 h4 h5 h6 hv hs
  go_enter Try.func39, Try.ntmps39
  go_upto_region 8 with (refine wpList_make_full _ rfl _ _ 22 rfl w.heap.size 5 i5 _ 1 Try.underlying22 h5i h5z h51 .i64 .i64 _ _ 468 rfl rfl (by omega) (by omega) (by rw [h5b]; omega) (by simp only [maxLen]; omega) (Nat.le_refl _) ?_; intro w4 hown4 hgrow4; (have HO4 := Lib.hid hown4); (have HB4 := Lib.hid ((Below.refl w.heap.size w).grown hgrow4 (Nat.le_refl _) (fun k e => by cases e))); clear hown4 hgrow4)
  have hown := HO4.out
  rw [cells_u8] at hown
  obtain ⟨hbk, -⟩ := Blk.of_own hown
  obtain ⟨B, hB⟩ : ∃ B, w.heap.size = B := ⟨_, rfl⟩
  have HB := Lib.hid hB
  rw [hB] at hbk ⊢
  have HBK := Lib.hid hbk
  have k0 := (H1.out.on HB4.out).cell (j := 0) rfl
  have k1 := (H2.out.on HB4.out).cell HV.out
  clear hown hbk HO4 hB c0
  have hsl : ∀ W : World, (Instr.slice 22 (.slice (some ⟨B, 0, none⟩) 468 468) (some (.int .i64 0)) none none).run Try.prog W = .ok (.slice (some ⟨B, 0, none⟩) 468 468) W := fun W => by kernel_rfl
  rcases H4.out with ⟨rfl, rfl⟩ | ⟨g0, rfl, hg0⟩
  · go_upto_region 9 with (refine wpList_copy_splice rfl _ _ 22 22 rfl 5 Try.underlying22 hsz5 _ _ 468 468 0 0 rfl rfl B 0 _ 5 HBK.out [] (by simp) (fun hc => by simp at hc) (by simp) (fun v hv => by cases hv) w.heap.size w HB4.out (by rw [HB.out]; exact Nat.le_refl _) ?_; intro w5 hg5 hb5; (have HX : Hid (Blk w5 B (numK .u8 (List.replicate 468 0)) 5) := Lib.hid (by have h := hg5.out; rw [splice_nil] at h; exact h)); (have HB5 := Lib.hid hb5); clear hg5 hb5)
    have hX2 : (numK .u8 (List.replicate 468 0)).length = 468 := by rw [numK_len]; simp
    have k2 := (H1.out.on HB5.out).cell (j := 0) rfl
    have hsz : b'.length = 468 := hl'
    clear k0 k1
    go_upto_region 10 with (refine wpList_copy_splice rfl _ _ 22 22 rfl 5 Try.underlying22 hsz5 _ _ 468 468 468 c rfl rfl B 0 _ 5 HX.out (numK .u8 b') (by rw [numK_len, hl']; rfl) (fun hc => ⟨rfl, _, rfl, fun j v hv => by rw [Addr.add_lit, Nat.zero_add]; exact (HS.out.on HB5.out).cell hv⟩) (by rw [numK_len, hl', hX2]; exact Nat.le_refl _) (fun v hv => by obtain ⟨x, -, rfl⟩ := List.mem_map.1 hv; rfl) w.heap.size w HB5.out (by rw [HB.out]; exact Nat.le_refl _) ?_; intro w6 hg6 hb6; (have HB6 := Lib.hid hb6); (have HY : Hid (Blk w6 B (numK .u8 b') 5) := Lib.hid (by have h := hg6.out; rw [splice_all (by rw [numK_len, hl', hX2])] at h; exact h)); clear hg6 hb6)
    have k3 := (H1.out.on HB6.out).cell (j := 0) rfl
    have k4 := (H2.out.on HB6.out).cell HV.out
    have f4 := (H2.out.on HB6.out).fz
    clear k2
    go_wp2
    go_ret
    have a1 : Blk (w6.setCell ⟨A, 1, none⟩ (.slice (some ⟨B, 0, none⟩) 468 468)) A (cs.set 1 (.slice (some ⟨B, 0, none⟩) 468 468)) 22 := (H2.out.on HB6.out).set 1 _
    have hGA : G ≠ A := H1.out.ne H2.out (by decide)
    have hBA : B ≠ A := by have := H2.out.lt; have := HB.out; omega
    refine ⟨rfl, ⟨⟨bad, (H1.out.on HB6.out).far hGA _⟩, ⟨_, a1, by rw [List.length_set]; exact h3, fun v hv => Or.inr ⟨B, ?_, HY.out.far hBA _⟩⟩, hl', hb'⟩, grown_then (grown_of_below HB6.out _) (grown_set _ _ _ _)⟩
    rw [List.getElem?_set_self (by omega)] at hv
    exact (Option.some.inj hv).symm
  · have HG0 := Lib.hid (hg0.on HB4.out)
    clear hg0
    go_upto_region 9 with (refine wpList_copy_splice rfl _ _ 22 22 rfl 5 Try.underlying22 hsz5 _ _ 468 468 468 468 rfl rfl B 0 _ 5 HBK.out (numK .u8 b) (by rw [numK_len, hlen]; rfl) (fun hc => ⟨rfl, _, rfl, fun j v hv => by rw [Addr.add_lit, Nat.zero_add]; exact HG0.out.cell hv⟩) (by rw [numK_len, numK_len, hlen]; simp) (fun v hv => by obtain ⟨x, -, rfl⟩ := List.mem_map.1 hv; rfl) w.heap.size w HB4.out (by rw [HB.out]; exact Nat.le_refl _) ?_; intro w5 hg5 hb5; (have HX : Hid (Blk w5 B (numK .u8 b) 5) := Lib.hid (by have h := hg5.out; rw [splice_all (by rw [numK_len, numK_len, hlen]; simp)] at h; exact h)); (have HB5 := Lib.hid hb5); clear hg5 hb5)
    have hX2 : (numK .u8 b).length = 468 := by rw [numK_len]; exact hlen
    have k2 := (H1.out.on HB5.out).cell (j := 0) rfl
    have hsz : b'.length = 468 := hl'
    clear k0 k1
    go_upto_region 10 with (refine wpList_copy_splice rfl _ _ 22 22 rfl 5 Try.underlying22 hsz5 _ _ 468 468 468 c rfl rfl B 0 _ 5 HX.out (numK .u8 b') (by rw [numK_len, hl']; rfl) (fun hc => ⟨rfl, _, rfl, fun j v hv => by rw [Addr.add_lit, Nat.zero_add]; exact (HS.out.on HB5.out).cell hv⟩) (by rw [numK_len, hl', hX2]; exact Nat.le_refl _) (fun v hv => by obtain ⟨x, -, rfl⟩ := List.mem_map.1 hv; rfl) w.heap.size w HB5.out (by rw [HB.out]; exact Nat.le_refl _) ?_; intro w6 hg6 hb6; (have HB6 := Lib.hid hb6); (have HY : Hid (Blk w6 B (numK .u8 b') 5) := Lib.hid (by have h := hg6.out; rw [splice_all (by rw [numK_len, hl', hX2])] at h; exact h)); clear hg6 hb6)
    have k3 := (H1.out.on HB6.out).cell (j := 0) rfl
    have k4 := (H2.out.on HB6.out).cell HV.out
    have f4 := (H2.out.on HB6.out).fz
    clear k2
    go_wp2
    go_ret
    have a1 : Blk (w6.setCell ⟨A, 1, none⟩ (.slice (some ⟨B, 0, none⟩) 468 468)) A (cs.set 1 (.slice (some ⟨B, 0, none⟩) 468 468)) 22 := (H2.out.on HB6.out).set 1 _
    have hGA : G ≠ A := H1.out.ne H2.out (by decide)
    have hBA : B ≠ A := by have := H2.out.lt; have := HB.out; omega
    refine ⟨rfl, ⟨⟨bad, (H1.out.on HB6.out).far hGA _⟩, ⟨_, a1, by rw [List.length_set]; exact h3, fun v hv => Or.inr ⟨B, ?_, HY.out.far hBA _⟩⟩, hl', hb'⟩, grown_then (grown_of_below HB6.out _) (grown_set _ _ _ _)⟩
    rw [List.getElem?_set_self (by omega)] at hv
    exact (Option.some.inj hv).symm
end Go.Proofs.Ytibohhiebejbmaa
/- Walks: save. -/
namespace Go.Proofs.Ytibohhiebejbmaa
open Go.RowKit Go.Deep
set_option linter.unusedVariables false
set_option linter.unusedSimpArgs false
set_option maxRecDepth 100000

theorem meth_write (G : Nat) (W : World) : (method 248 26 (.pointer (some ⟨G, 0, none⟩)) "Write").run Try.prog W = .ok (39, .pointer (some ⟨G, 0, none⟩)) W := by kernel_rfl
theorem meth_read (G : Nat) (W : World) : (method 248 26 (.pointer (some ⟨G, 0, none⟩)) "Read").run Try.prog W = .ok (40, .pointer (some ⟨G, 0, none⟩)) W := by kernel_rfl
theorem meth_size (G : Nat) (W : World) : (method 248 26 (.pointer (some ⟨G, 0, none⟩)) "Size").run Try.prog W = .ok (109, .pointer (some ⟨G, 0, none⟩)) W := by kernel_rfl

set_option maxHeartbeats 4000000 in
theorem save_any (R U n G A : Nat) (tx : Value) (us : List Bool) (b : List Int) (w : World) (h : Rm w R U n G tx us) (hs : Sp w G A n b) (hn : 1 < n) (hn2 : n ≤ 3744) :
    Calls Try.prog 45 #[.pointer (some ⟨R, 0, none⟩)] w fun e w' => e = .returned (.tuple #[]) ∧ Sp w' G A n (bodyM us) ∧ w.grownBy w' (some A) := by
  have hl := h.len
  have c0 := h.obj.cell (j := 0) rfl
  have c1 := h.obj.cell (j := 1) rfl
  have c2 := h.obj.cell (j := 2) rfl
  have H : Hid (Blk w.drew U (boolsV us) 4) := Lib.hid h.row.drew
  have HS : Hid (Sp w.drew G A n b) := Lib.hid (hs.on (below_drew1 (Below.refl _ _)))
  have HO : Hid (Blk w.drew R [.iface 26 (.pointer (some ⟨G, 0, none⟩)), tx, .slice (some ⟨U, 0, none⟩) n n] 88) := Lib.hid h.obj.drew
  have HAR : Hid (A ≠ R) := Lib.hid (by obtain ⟨-, ⟨cs, h2, -⟩, -⟩ := hs; exact h2.ne h.obj (by decide))
  have hmw := meth_write G
  clear h hs
  go_enter Try.func45, Try.ntmps45
  go_wp2
  clear c0 c1 c2
  have b0 := HO.out.cell (j := 0) rfl
  have b1 := HO.out.cell (j := 1) rfl
  have b2 := HO.out.cell (j := 2) rfl
  go_region_held3 (fun w' => w'.cell? ⟨R, 0, none⟩ = some (.iface 26 (.pointer (some ⟨G, 0, none⟩))) ∧ w'.cell? ⟨R, 1, none⟩ = some tx ∧ w'.cell? ⟨R, 2, none⟩ = some (.slice (some ⟨U, 0, none⟩) n n))
    (first | exact ⟨b0, b1, b2⟩ | exact ⟨d0, d1, d2⟩ | exact ⟨e0, e1, e2⟩)
    (first
    | (go_at_call 74; refine (body_any U n us _ H.out hl hn2).mono ?_; rintro e w1 ⟨g, rfl, hg, hB, hle⟩; (have d0 := (HO.out.on hB).cell (j := 0) rfl); (have d1 := (HO.out.on hB).cell (j := 1) rfl); (have d2 := (HO.out.on hB).cell (j := 2) rfl); (have HO1 := Lib.hid (HO.out.on hB)); (have HG := Lib.hid hg); (have HB := Lib.hid hB); clear hg hB)
    | (go_at_call 67; refine (must_ok _).mono ?_; rintro e w3 ⟨rfl, rfl⟩)
    | (go_at_call 39; refine (write_any G A n g 468 b (bodyM us) tx _ (HS.out.on HB.out) hn HG.out (bodyM_len _) (bodyM_byt _)).mono ?_; rintro e w2 ⟨rfl, hS, hG⟩; (have HO2 := Lib.hid (HO1.out.grown hG (fun k e => by cases e; exact HAR.out))); (have e0 := HO2.out.cell (j := 0) rfl); (have e1 := HO2.out.cell (j := 1) rfl); (have e2 := HO2.out.cell (j := 2) rfl); (have HS2 := Lib.hid hS); (have HG2 := Lib.hid hG); clear hS hG))
  all_goals go_wp2
  all_goals trace_state
  all_goals (go_end0; exact ⟨rfl, HS2.out, grown_then (grown_then (grown_of_below (below_drew1 (Below.refl _ _)) _) (grown_of_below HB.out _)) HG2.out⟩)
end Go.Proofs.Ytibohhiebejbmaa
/- Walks: Clone of bytes; From. -/
namespace Go.Proofs.Ytibohhiebejbmaa
open Go.RowKit Go.Deep
set_option linter.unusedVariables false
set_option linter.unusedSimpArgs false
set_option maxRecDepth 100000

theorem one_numK (k : IntKind) (xs : List Int) : ∀ v ∈ numK k xs, v.oneCell' = true := fun v hv => by obtain ⟨x, -, rfl⟩ := List.mem_map.1 hv; rfl
theorem own_none5 {w0 W : World} (h : w0.heap.size ≤ W.heap.size) : (W.alloc (.cells #[] 5)).ownsRow w0.heap.size 5 1 (.slice (some ⟨W.heap.size, 0, none⟩) 0 0) 0 [] :=
  ⟨rfl, Or.inr ⟨W.heap.size, 0, #[], rfl, h, heap_alloc_new _ _, Nat.le_refl _, Nat.zero_le _, rfl, rfl⟩⟩
/-- A slice of bytes that is read at a block of its own. -/
structure By (W : World) (g n : Nat) (b : List Int) : Prop where
  len : b.length = n
  cell : ∀ j, j < n → W.cell? ⟨g, j, none⟩ = some (.int .u8 (b.getD j 0))
  lt : g < W.heap.size
theorem By.on {W W' : World} {g n : Nat} {b : List Int} (h : By W g n b) (hb : Below W.heap.size W W') : By W' g n b := ⟨h.len, fun j hj => cell_keep hb (h.cell j hj), Nat.lt_of_lt_of_le h.lt hb.size⟩
theorem Blk.by_ {W : World} {g : Nat} {b : List Int} (h : Blk W g (numK .u8 b) 5) : By W g b.length b := ⟨rfl, fun j hj => h.cell (numK_get hj), h.lt⟩

set_option maxHeartbeats 2000000 in
theorem clone_any (g c : Nat) (b : List Int) (w : World) (h : Blk w g (numK .u8 b) 5) (hl : b.length = 468) : Calls Try.prog 82 #[.slice (some ⟨g, 0, none⟩) 468 c] w fun e w' => ∃ g' c', e = .returned (.slice (some ⟨g', 0, none⟩) 468 c') ∧ By w' g' 468 b ∧ Below w.heap.size w w' ∧ w.heap.size ≤ g' := by
  obtain ⟨i5, h5i, h5z, h51, h5b⟩ := info_parts info5
  have H := Lib.hid h
  have hnil : ∀ W : World, (binOp .eql 22 (.slice (some ⟨g, 0, none⟩) 468 c) (.slice none 0 0)).run Try.prog W = .ok (.bool false) W := fun W => by kernel_rfl
  clear h
  go_enter Try.func82, Try.ntmps82
  go_wp2_with (at_builtin; refine wpList_append_own _ rfl _ _ 22 rfl w.heap.size 5 i5 (.int .u8 0) 1 1 Try.underlying22 h5i h5z h51 h5b rfl (by decide) _ 0 [] rfl (own_none5 (Nat.le_refl _)) ⟨g, 0, none⟩ 468 c (numK .u8 b) rfl (by rw [numK_len, hl]) (fun j u hu => by rw [Addr.add_lit, Nat.zero_add]; exact (H.out.alloc _).cell hu) (one_numK _ _) (by simp only [maxLen]; omega) (by omega) (by simp) ?_; intro v' w3 hown3 hgrow3 _; (have HO3 := Lib.hid hown3); (have HB3 := Lib.hid ((one_alloc w (.cells #[] 5)).grown hgrow3 (by simp) (fun kk hk => ((own_none5 (w0 := w) (Nat.le_refl _)).lt kk hk).1))); clear hown3 hgrow3)
  go_ret
  have hown := HO3.out
  rw [Nat.zero_add, List.nil_append] at hown
  rcases hown.2 with ⟨h1, h2⟩ | ⟨g', cap, cur, h1, h2, h3, h4, h5, h6, h7⟩
  · simp at h2
  · refine ⟨g', cap, congrArg Ending.returned h1, ⟨hl, fun j hj => ?_, (Array.getElem?_eq_some_iff.1 h3).1⟩, HB3.out, h2⟩
    subst h1
    rw [hown.cellAt j (by omega), numK_get (by omega)]

set_option maxHeartbeats 4000000 in
/-- caught, entered by a frame that returns. -/
theorem caught_idle (m : Nat) (p q : Value) (w : World) : CallsDIn Fence.wide m Try.prog 80 #[p, q] .returning w fun e u' w' => e = .returned (.tuple #[]) ∧ u' = .returning ∧ w' = w := by
  refine callsDIn_of_wpSIn Try.func80 rfl trivial fun c₀ cs hu => ?_
  simp only [Try.ntmps80, List.size_toArray, List.length_cons, List.length_nil, Nat.reduceAdd, Nat.reduceSub, Array.replicate_succ, Array.replicate_zero, List.push_toArray, List.append_toArray, List.nil_append, List.cons_append]
  apply wpSIn_seq
  apply wpSIn_region
  simp [wpOpsSIn, go_sem, recoverD, hu, Exit.thenS]
  refine wpSIn_of_wpIn rfl ?_
  gi_wp2
  cases c₀
  simp_all [bodyPostS, results, Try.results80]
end Go.Proofs.Ytibohhiebejbmaa
/- Walks: bits.From. -/
namespace Go.Proofs.Ytibohhiebejbmaa
open Go.RowKit Go.Deep Go.Shelf
set_option linter.unusedVariables false
set_option linter.unusedSimpArgs false
set_option maxRecDepth 100000

theorem bcheck_at (g c : Nat) (w : World) : Calls Try.prog 84 #[.agg #[.int .i64 3744, .slice (some ⟨g, 0, none⟩) 468 c]] w fun x w' => x = .returned (.int .i64 0) ∧ Below w.heap.size w w' := bcheck_ok g c w
/-- Two cells of a block are written. -/
theorem Blk.two {W : World} {g : Nat} {u v u' v' : Value} {t : TypeId} (h : Blk W g [u, v] t) : Blk ((W.setCell ⟨g, 0, none⟩ u').setCell ⟨g, 1, none⟩ v') g [u', v'] t := (h.set 0 u').set 1 v'

theorem By.far {W : World} {g n : Nat} {b : List Int} (h : By W g n b) {p : Addr} (hp : g ≠ p.block) (v : Value) : By (W.setCell p v) g n b :=
  ⟨h.len, fun j hj => by rw [World.cell?_of_block (a := ⟨g, j, none⟩) (Below.heap_setCell W p v g hp)]; exact h.cell j hj, by rw [World.size_setCell]; exact h.lt⟩

set_option maxHeartbeats 4000000 in
theorem from_in (m : Nat) (hm : 1 ≤ m) (g c : Nat) (b : List Int) (w : World) (h : Blk w g (numK .u8 b) 5) (hl : b.length = 468) :
    CallsIn Fence.wide m Try.prog 68 #[.int .i64 3744, .slice (some ⟨g, 0, none⟩) 468 c] w fun e w' => ∃ g' c', e = .returned (.tuple #[bitsV g' c', .int .i64 0]) ∧ By w' g' 468 b ∧ Below w.heap.size w w' ∧ w.heap.size ≤ g' := by
  have H := Lib.hid h
  clear h
  refine callsIn_of_wp_marks Try.func68 rfl trivial ?_ rfl
  simp only [Try.ntmps68, List.size_toArray, List.length_cons, List.length_nil, Nat.reduceAdd, Nat.reduceSub, Array.replicate_succ, Array.replicate_zero, List.push_toArray, List.append_toArray, List.nil_append, List.cons_append]
  obtain ⟨B, hB⟩ : ∃ B, w.heap.size = B := ⟨_, rfl⟩
  have HB := Lib.hid hB
  gi_upto_region 2 with (fail)
  obtain ⟨W0, hW0⟩ : ∃ W, (w.alloc (.cells #[.int .i64 0, .slice none 0 0] 99)).alloc (.cells #[.int .i64 0] 35) = W := ⟨_, rfl⟩
  have K1 : Hid (Blk W0 B [.int .i64 0, .slice none 0 0] 99) := Lib.hid (by rw [← hW0, ← hB]; exact (Blk.new w [_, _] _).alloc _)
  have K2 : Hid (Blk W0 (B + 1) [.int .i64 0] 35) := Lib.hid (by
    have h := Blk.new (w.alloc (.cells #[.int .i64 0, .slice none 0 0] 99)) [.int .i64 0] 35
    rw [World.size_alloc, hB] at h
    rw [← hW0]
    exact h)
  have HB0 : Hid (Below w.heap.size w W0) := Lib.hid (by rw [← hW0]; exact below_al (one_alloc _ _) _)
  rw [hB, hW0]
  clear hW0 hB
  gi_upto_region 4 with (first
    | (refine ⟨trivial, ?_⟩; gi_at_call 81; refine (callsIn_wide.2 (bfits_ok _)).mono ?_; rintro e w1 ⟨rfl, rfl⟩)
    | (refine ⟨trivial, ?_⟩; gi_at_call 82; refine (callsIn_wide.2 (clone_any g c b _ (H.out.on HB0.out) hl)).mono ?_; rintro e w2 ⟨g2, c2, rfl, hby, hb, hle⟩; (have HY := Lib.hid hby); (have HB2 := Lib.hid (below_then HB0.out HB0.out.size hb)); (have HLE := Lib.hid hle); (have K1' := Lib.hid (K1.out.on hb)); (have K2' := Lib.hid (K2.out.on hb)); (have k0 := K1'.out.cell (j := 0) rfl); (have k1 := K1'.out.cell (j := 1) rfl); (have kf := K1'.out.fz); clear hby hb hle))
  have hgB : B < g2 := Nat.lt_of_lt_of_le K1.out.lt HLE.out
  obtain ⟨W3, hW3⟩ : ∃ W, (w2.setCell ⟨B, 0, none⟩ (.int .i64 3744)).setCell ⟨B, 1, none⟩ (.slice (some ⟨g2, 0, none⟩) 468 c2) = W := ⟨_, rfl⟩
  have J1 : Hid (Blk W3 B [.int .i64 3744, .slice (some ⟨g2, 0, none⟩) 468 c2] 99) := Lib.hid (by rw [← hW3]; exact K1'.out.two)
  have J2 : Hid (Blk W3 (B + 1) [.int .i64 0] 35) := Lib.hid (by rw [← hW3]; exact (K2'.out.far (by simp) _).far (by simp) _)
  have JY : Hid (By W3 g2 468 b) := Lib.hid (by rw [← hW3]; exact (HY.out.far (by simp; omega) _).far (by simp; omega) _)
  have JB : Hid (Below w.heap.size w W3) := Lib.hid (by rw [← hW3]; exact below_st (below_st HB2.out (by rw [HB.out]; exact Nat.le_refl _)) (by rw [HB.out]; exact Nat.le_refl _))
  rw [hW3]
  have k0 := J1.out.cell (j := 0) rfl
  have k1 := J1.out.cell (j := 1) rfl
  clear hW3 K1' K2' HY HB2 kf
  gi_upto_region 5 with (first
    | (refine ⟨trivial, ?_⟩; gi_at_call 83; refine (callsIn_wide.2 (want_ok 4 _)).mono ?_; rintro e w5 ⟨rfl, rfl⟩)
    | (refine ⟨trivial, ?_⟩; gi_at_call 84; refine (callsIn_wide.2 (bcheck_at g2 c2 _)).mono ?_; rintro e w4 ⟨rfl, hb⟩; (have J1' := Lib.hid (J1.out.on hb)); (have J2' := Lib.hid (J2.out.on hb)); (have JY' := Lib.hid (JY.out.on hb)); (have JB' := Lib.hid (below_then JB.out JB.out.size hb)); clear hb))
  have l0 := J1'.out.cell (j := 0) rfl
  have l1 := J1'.out.cell (j := 1) rfl
  have l2 := J2'.out.cell (j := 0) rfl
  have lf1 := J1'.out.fz
  have lf2 := J2'.out.fz
  clear k0 k1
  gi_wp2
  obtain ⟨W6, hW6⟩ : ∃ W, (((w5.setCell ⟨B, 0, none⟩ (.int .i64 3744)).setCell ⟨B, 1, none⟩ (.slice (some ⟨g2, 0, none⟩) 468 c2)).setCell ⟨B + 1, 0, none⟩ (.int .i64 0)) = W := ⟨_, rfl⟩
  have M1 : Blk W6 B [.int .i64 3744, .slice (some ⟨g2, 0, none⟩) 468 c2] 99 := by rw [← hW6]; exact J1'.out.two.far (by simp) _
  have M2 : Blk W6 (B + 1) [.int .i64 0] 35 := by rw [← hW6]; exact ((J2'.out.far (by simp) _).far (by simp) _).set 0 _
  have MY : Hid (By W6 g2 468 b) := Lib.hid (by
    rw [← hW6]
    have hg1 : g2 ≠ B + 1 := by have := K2.out.lt; have := HLE.out; omega
    exact ((JY'.out.far (by simp; omega) _).far (by simp; omega) _).far hg1 _)
  have MB : Hid (Below w.heap.size w W6) := Lib.hid (by rw [← hW6]; exact below_st (below_st (below_st JB'.out (by rw [HB.out]; exact Nat.le_refl _)) (by rw [HB.out]; exact Nat.le_refl _)) (by rw [HB.out]; simp))
  rw [hW6]
  clear hW6 l0 l1 l2 lf1 lf2
  have d0 := M1.cell (j := 0) rfl
  have d1 := M1.cell (j := 1) rfl
  have d2 := M2.cell (j := 0) rfl
  have eg := enters_of Try.func80 (by kernel_rfl) rfl
  refine ⟨by simp, .inr ⟨fun _ => hm, .func 80, #[], 80, #[.pointer (some ⟨B, 0, none⟩), .pointer (some ⟨B + 1, 0, none⟩)], rfl, by simp [invoke, go_sem, eg], fun _ _ => trivial, ?_⟩⟩
  refine (caught_idle (m - 1) _ _ W6).mono ?_
  rintro e u' w' ⟨rfl, rfl, rfl⟩
  simp [LeavesInM, LeavesIn, settle, results, Try.results68, go_sem, d0, d1, d2]
  exact ⟨g2, ⟨c2, rfl⟩, MY.out, MB.out, by rw [HB.out]; omega⟩
end Go.Proofs.Ytibohhiebejbmaa
