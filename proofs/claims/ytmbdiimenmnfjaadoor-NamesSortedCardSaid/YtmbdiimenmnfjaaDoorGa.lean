/- The plain model of names: bytes, code points, units. No program in sight. -/
import Derived.RowKit
import Derived.Test.YtmbdiimenmnfjaaDoorProg
import Derived.WalkKit
import Derived.WalkSpells
import Derived.WalkLawsBesides
import Derived.Deep.LoopGhost
import Derived.Deep.QuietTactic
import Derived.BigQuiet
import Derived.Deep.DeepCutAuto
import Derived.Deep.OwnShut
import Derived.Lib.Hide
import Derived.Maps.AppendAt
import Derived.RangeFuncBox
import Derived.RangeFuncNested
import Derived.RangeFuncBound
import Derived.RangeFuncCalls
import Derived.RangeFuncLeaves
import Derived.Shelf.Abstract
import Derived.Shelf.RegionOpen
import Derived.OwnWalkIn
import Derived.TacticsInMore
import Derived.LoopNIn
import Derived.LoopIn
import Derived.Sort.LoopGhostIn
import Derived.RegionTactic
import Derived.RecoverIn
import Derived.Laws.Rows
import Derived.Laws.Tables
import Derived.Deep.WholeRow
import Derived.Deep.CutBlock
import Derived.Great.BuildSlice
import Derived.Laws.OwnMore
import Derived.OwnWalk
import Derived.Laws.BytesString
import Derived.Deep.DrawnRows
import Derived.Deep.RegionLaw
namespace Go.Proofs.YtmbdiimenmnfjaaDoor
open Go.RowKit
set_option linter.unusedVariables false
set_option linter.unusedSimpArgs false

/-- The bytes of a string, as whole numbers. -/
def bts (s : ByteArray) : List Int := s.data.toList.map fun b => (b.toNat : Int)
theorem bts_len (s : ByteArray) : (bts s).length = s.size := by unfold bts; rw [List.length_map, Array.length_toList]; rfl
theorem bts_get (s : ByteArray) (i : Nat) (h : i < s.size) : (bts s).getD i 0 = ((s[i]'h).toNat : Int) := by
  have h' : i < s.data.size := h
  simp only [bts, List.getD_eq_getElem?_getD, List.getElem?_map]
  rw [List.getElem?_eq_getElem (by simpa using h')]
  rfl
theorem bts_range (s : ByteArray) : ∀ x ∈ bts s, 0 ≤ x ∧ x ≤ 255 := by
  intro x hx
  simp only [bts, List.mem_map] at hx
  obtain ⟨b, -, rfl⟩ := hx
  have := b.toNat_lt
  omega
theorem bts_bd (s : ByteArray) (i : Nat) : 0 ≤ (bts s).getD i 0 ∧ (bts s).getD i 0 ≤ 255 := by
  rcases Nat.lt_or_ge i (bts s).length with h | h
  · have := bts_range s _ (List.getElem_mem h)
    rw [List.getD_eq_getElem?_getD, List.getElem?_eq_getElem h]
    exact this
  · rw [List.getD_eq_getElem?_getD, List.getElem?_eq_none h]; simp
theorem extract_toList (s : ByteArray) (n : Nat) : (s.extract n s.size).data.toList = s.data.toList.drop n := by
  rw [ByteArray.data_extract, Array.toList_extract]
  have h : s.data.toList.length = s.size := by rw [Array.length_toList]; rfl
  rw [List.extract_eq_take_drop, List.take_of_length_le]
  rw [List.length_drop, h]
  omega
theorem bts_drop (s : ByteArray) (n : Nat) : bts (s.extract n s.size) = (bts s).drop n := by
  unfold bts
  rw [← List.map_drop]
  congr 1
  exact extract_toList s n
theorem bts_inj {s t : ByteArray} (h : bts s = bts t) : s = t := by
  have h1 : s.data.toList = t.data.toList := by
    unfold bts at h
    have hinj : ∀ a b : UInt8, ((a.toNat : Int) = (b.toNat : Int)) → a = b := fun a b e => UInt8.toNat_inj.1 (by omega)
    exact List.map_inj_right (fun a b e => hinj a b e) |>.1 h
  cases s; cases t
  congr
  exact Array.toList_inj.1 h1

/-- The byte i, if it goes on a code point. -/
def contM (s : List Int) (i : Nat) : Option Int := if i < s.length ∧ 128 ≤ s.getD i 0 ∧ s.getD i 0 ≤ 191 then some (s.getD i 0 - 128) else none
/-- k bytes more, from the i-th on. -/
def goM (s : List Int) : Nat → Nat → Int → Option Int
  | 0, _, c => some c
  | k + 1, i, c => match contM s i with
    | none => none
    | some x => goM s k (i + 1) (c * 64 + x)
/-- A code point of so many bytes, at least so great. -/
def pickP (size : Nat) (least : Int) : Option Int → Option (Int × Nat)
  | none => none
  | some c => if c < least ∨ 1114111 < c then none else some (c, size)
def pointC (s : List Int) (size : Nat) (least c0 : Int) : Option (Int × Nat) := pickP size least (goM s (size - 1) 1 c0)
/-- The code point with which bytes begin, and how many bytes it has. -/
def pointM (s : List Int) : Option (Int × Nat) :=
  if s.getD 0 0 < 128 then some (s.getD 0 0, 1)
  else if 192 ≤ s.getD 0 0 ∧ s.getD 0 0 < 224 then pointC s 2 128 (s.getD 0 0 - 192)
  else if 224 ≤ s.getD 0 0 ∧ s.getD 0 0 < 240 then pointC s 3 2048 (s.getD 0 0 - 224)
  else if 240 ≤ s.getD 0 0 ∧ s.getD 0 0 < 248 then pointC s 4 65536 (s.getD 0 0 - 240)
  else none
/-- The units of a code point. -/
def encU (c : Int) : List Int := if c < 65536 then [c] else [55296 + (c - 65536) / 1024, 56320 + (c - 65536) % 1024]
/-- What follows a code point that was read. -/
def stepU (b : Int) (s : List Int) (f : List Int → Int → Option (List Int)) : Option (Int × Nat) → Option (List Int)
  | none => none
  | some (c, n) => if 55296 ≤ b ∧ b < 56320 ∧ 56320 ≤ c ∧ c < 57344 then none else (f (s.drop n) c).map (encU c ++ ·)
/-- The units of bytes, behind a code point (the first number: rounds). -/
def unitsF : Nat → List Int → Int → Option (List Int)
  | 0, _, _ => none
  | f + 1, s, b => if s = [] then some [] else stepU b s (unitsF f) (pointM s)
def unitsM (s : List Int) : Option (List Int) := unitsF (s.length + 1) s 0
/-- What 'read' says. -/
def readM (s : List Int) : List Int × Bool := match unitsM s with
  | none => ([], false)
  | some l => (l, decide (l.length ≤ 4096))

theorem contM_bd {s : List Int} {i : Nat} {x : Int} (h : contM s i = some x) : 0 ≤ x ∧ x ≤ 63 ∧ i < s.length := by
  unfold contM at h
  split at h
  · cases h; omega
  · cases h
theorem goM_bd (s : List Int) : ∀ k i c r, goM s k i c = some r → 0 ≤ c → 0 ≤ r ∧ (0 < k → i + k ≤ s.length)
  | 0, i, c, r, h, hc => by cases h; exact ⟨hc, fun h => by omega⟩
  | k + 1, i, c, r, h, hc => by
    unfold goM at h
    cases hx : contM s i with
    | none => rw [hx] at h; cases h
    | some x =>
      rw [hx] at h
      have hb := contM_bd hx
      have := goM_bd s k (i + 1) (c * 64 + x) r h (by omega)
      refine ⟨this.1, fun _ => ?_⟩
      rcases Nat.eq_zero_or_pos k with h0 | h0
      · omega
      · have := this.2 h0; omega
theorem pointC_bd {s : List Int} {size : Nat} {least c0 c : Int} {n : Nat} (h : pointC s size least c0 = some (c, n)) (hs : 2 ≤ size) (hc : 0 ≤ c0) : 0 ≤ c ∧ c ≤ 1114111 ∧ n = size ∧ n ≤ s.length := by
  unfold pointC at h
  cases hg : goM s (size - 1) 1 c0 with
  | none => rw [hg] at h; cases h
  | some r =>
    rw [hg] at h
    have hb := goM_bd s _ _ _ _ hg hc
    have := hb.2 (by omega)
    simp only [pickP] at h
    split at h
    · cases h
    · cases h; omega
theorem pointM_bd {s : List Int} {c : Int} {n : Nat} (hs : s ≠ []) (h0 : 0 ≤ s.getD 0 0) (h : pointM s = some (c, n)) : 0 ≤ c ∧ c ≤ 1114111 ∧ 1 ≤ n ∧ n ≤ 4 ∧ n ≤ s.length := by
  have hl : 1 ≤ s.length := by cases s with | nil => exact absurd rfl hs | cons _ _ => simp
  unfold pointM at h
  repeat' split at h
  · cases h; omega
  all_goals first
    | (have := pointC_bd h (by omega) (by omega); omega)
    | cases h
theorem encU_len (c : Int) : 1 ≤ (encU c).length ∧ (encU c).length ≤ 2 := by unfold encU; split <;> simp
theorem encU_bd {c : Int} (h0 : 0 ≤ c) (h1 : c ≤ 1114111) : ∀ u ∈ encU c, 0 ≤ u ∧ u ≤ 65535 := by
  intro u hu
  unfold encU at hu
  split at hu
  · simp at hu; omega
  · simp at hu; omega
end Go.Proofs.YtmbdiimenmnfjaaDoor
/- Small words for the walks: slices that are read, rows that are owned, draws. -/
namespace Go.Proofs.YtmbdiimenmnfjaaDoor
open Go.RowKit Go.Deep
set_option linter.unusedVariables false
set_option linter.unusedSimpArgs false

/-- The world is the old one but for draws. -/
structure Drawn (w w' : World) : Prop where
  out : ∃ n, w' = w.drewN n
theorem Drawn.refl (w : World) : Drawn w w := ⟨0, rfl⟩

theorem one_alloc (w : World) (o : Obj) : Below w.heap.size w (w.alloc o) := (Below.refl _ _).alloc (Nat.le_refl _) _
theorem below_drewN {B : Nat} {w W : World} (h : Below B w W) (n : Nat) : Below B w (W.drewN n) := ⟨h.os, h.tape, h.output, h.size, h.block⟩
theorem below_drew1 {B : Nat} {w W : World} (h : Below B w W) : Below B w W.drew := ⟨h.os, h.tape, h.output, h.size, h.block⟩

theorem below_al {w W : World} (h : Below w.heap.size w W) (o : Obj) : Below w.heap.size w (W.alloc o) := h.alloc h.size o
theorem below_st {w W : World} {p : Addr} {v : Value} (h : Below w.heap.size w W) (hp : w.heap.size ≤ p.block) : Below w.heap.size w (W.setCell p v) := h.setCell hp v
theorem below_then {B : Nat} {w w1 w2 : World} (h : Below B w w1) (hB : B ≤ w1.heap.size) (k : Below w1.heap.size w1 w2) : Below B w w2 :=
  h.trans ⟨k.os, k.tape, k.output, k.size, fun i hi => k.block i (Nat.lt_of_lt_of_le hi hB)⟩

theorem bcell {W w1 : World} (hb : Below W.heap.size W w1) : (∀ b o, b < W.heap.size → w1.cell? ⟨b, o, none⟩ = W.cell? ⟨b, o, none⟩) ∧ (∀ b o, b < W.heap.size → w1.frozen? ⟨b, o, none⟩ = W.frozen? ⟨b, o, none⟩) :=
  ⟨fun b o h => hb.cell (p := ⟨b, o, none⟩) h, fun b o h => hb.frozen (p := ⟨b, o, none⟩) h⟩
theorem own_keep {w w1 : World} {base : Nat} {e : TypeId} {size n : Nat} {v : Value} {xs : List Value} (h : w.ownsRow base e size v n xs) (hb : Below w.heap.size w w1) : w1.ownsRow base e size v n xs :=
  h.kept (row := none) ⟨hb.os, hb.tape, hb.output, hb.size, fun k hk _ => hb.block k hk⟩ (by cases v.ownBlock <;> simp)

theorem own_weak {w : World} {base base' : Nat} {e : TypeId} {size n : Nat} {v : Value} {xs : List Value} (h : w.ownsRow base e size v n xs) (hb : base' ≤ base) : w.ownsRow base' e size v n xs := by
  obtain ⟨h1, h2 | ⟨g, cap, cur, rfl, hg, r⟩⟩ := h
  · exact ⟨h1, .inl h2⟩
  · exact ⟨h1, .inr ⟨g, cap, cur, rfl, Nat.le_trans hb hg, r⟩⟩
theorem own_st {w : World} {base : Nat} {e : TypeId} {size n : Nat} {v u : Value} {xs : List Value} {p : Addr} (h : w.ownsRow base e size v n xs) (hp : p.block < base) : (w.setCell p u).ownsRow base e size v n xs := by
  obtain ⟨h1, h2 | ⟨g, cap, cur, rfl, hg, hh, r⟩⟩ := h
  · exact ⟨h1, .inl h2⟩
  · exact ⟨h1, .inr ⟨g, cap, cur, rfl, hg, (Below.heap_setCell w p u g (by omega)).trans hh, r⟩⟩

/-- A slice of whole numbers that is read (nil and empty ones too). -/
structure Rd (w : World) (k : IntKind) (A : Option Addr) (n : Nat) (xs : List Int) : Prop where
  len : xs.length = n
  max : n ≤ 9223372036854775807
  at_ : ∀ j, j < n → ∃ ad, A = some ad ∧ w.cell? (ad.add j) = some (.int k (xs.getD j 0))

theorem cell_keep {w w' : World} (h : Below w.heap.size w w') {a : Addr} {v : Value} (hc : w.cell? a = some v) : w'.cell? a = some v :=
  (h.cell (World.block_lt_of_cell? w a hc)).trans hc

theorem Rd.below {w w' : World} {k : IntKind} {A : Option Addr} {n : Nat} {xs : List Int} (h : Rd w k A n xs) (hb : Below w.heap.size w w') : Rd w' k A n xs :=
  ⟨h.len, h.max, fun j hj => let ⟨ad, e, hc⟩ := h.at_ j hj; ⟨ad, e, cell_keep hb hc⟩⟩
theorem Rd.drewN {w : World} {k : IntKind} {A : Option Addr} {n : Nat} {xs : List Int} (h : Rd w k A n xs) (m : Nat) : Rd (w.drewN m) k A n xs :=
  ⟨h.len, h.max, fun j hj => let ⟨ad, e, hc⟩ := h.at_ j hj; ⟨ad, e, hc⟩⟩

theorem add_add (a : Addr) (l j : Nat) : (a.add l).add j = a.add (l + j) := by
  unfold Addr.add
  by_cases hl : l = 0
  · subst hl; simp
  · by_cases hj : j = 0
    · subst hj; simp [hl]
    · have : ¬ l + j = 0 := by omega
      simp [hl, hj, this, Nat.add_assoc]

/-- The rest of a slice, from l on, in the walk's own form. -/
theorem Rd.drop {w : World} {k : IntKind} {A : Option Addr} {n c : Nat} {xs : List Int} (h : Rd w k A n xs) (hc : n ≤ c) (l : Nat) (hl : l ≤ n) :
    Rd w k (if c = l then A else A.map fun x => x.add l) (n - l) (xs.drop l) := by
  refine ⟨by rw [List.length_drop, h.len], by have := h.max; omega, fun j hj => ?_⟩
  obtain ⟨ad, e, hcell⟩ := h.at_ (l + j) (by omega)
  have hne : ¬ c = l := by omega
  refine ⟨ad.add l, by rw [if_neg hne, e]; rfl, ?_⟩
  rw [add_add, hcell]
  simp [List.getD_eq_getElem?_getD]

def numK (k : IntKind) (xs : List Int) : List Value := xs.map fun x => .int k x
theorem numK_snoc (k : IntKind) (xs : List Int) (x : Int) : numK k (xs ++ [x]) = numK k xs ++ [.int k x] := by simp [numK]
theorem numK_append (k : IntKind) (xs ys : List Int) : numK k (xs ++ ys) = numK k xs ++ numK k ys := by simp [numK]
theorem numK_len (k : IntKind) (xs : List Int) : (numK k xs).length = xs.length := by simp [numK]

/-- An owned row of whole numbers is read. -/
theorem own_nums {w : World} {base n : Nat} {e : TypeId} {k : IntKind} {v : Value} {xs : List Int} (h : w.ownsRow base e 1 v n (numK k xs)) (hm : n ≤ 9223372036854775807) :
    ∃ A c, v = .slice A n c ∧ n ≤ c ∧ Rd w k A n xs ∧ ∀ ad, A = some ad → ad.off = 0 ∧ base ≤ ad.block ∧ ad.spot = none := by
  have hl : xs.length = n := by have := h.1; simpa [numK] using this
  have h0 := h
  obtain ⟨h1, ⟨rfl, rfl⟩ | ⟨g, cap, cur, rfl, hg, hh, hle, r⟩⟩ := h
  · exact ⟨none, 0, rfl, Nat.le_refl _, ⟨hl, hm, fun j hj => by omega⟩, fun ad e => by cases e⟩
  · refine ⟨some ⟨g, 0, none⟩, cap, rfl, hle, ⟨hl, hm, fun j hj => ⟨_, rfl, ?_⟩⟩, fun ad e => by cases e; exact ⟨rfl, hg, rfl⟩⟩
    have hc := h0.cells (g := g) rfl j (.int k (xs.getD j 0)) (by
      simp only [numK, List.getElem?_map]
      rw [List.getElem?_eq_getElem (by omega)]
      simp [List.getD_eq_getElem?_getD, List.getElem?_eq_getElem (show j < xs.length by omega)])
    exact hc
theorem own_is_slice {w : World} {base n : Nat} {e : TypeId} {size : Nat} {v : Value} {xs : List Value} (h : w.ownsRow base e size v n xs) : ∃ A c, v = .slice A n c ∧ n ≤ c := by
  obtain ⟨h1, ⟨rfl, rfl⟩ | ⟨g, cap, cur, rfl, hg, hh, hle, r⟩⟩ := h
  · exact ⟨none, 0, rfl, Nat.le_refl _⟩
  · exact ⟨_, cap, rfl, hle⟩
theorem rd_none (w : World) (k : IntKind) : Rd w k none 0 [] := ⟨rfl, by omega, fun j h => absurd h (by omega)⟩

theorem cells_new (W : World) (n : Nat) (hn : n = W.heap.size) (cs : List Value) (e : TypeId) : ∀ j u, cs[j]? = some u → (W.alloc (.cells cs.toArray e)).cell? ((⟨n, 0, none⟩ : Addr).add j) = some u := by
  intro j u hu
  subst hn
  rw [Addr.add_lit, cell_of_row _ _ _ cs.toArray e (0, 0) (heap_alloc_new W _)]
  simpa using hu
theorem cell_new1 (W : World) (n : Nat) (hn : n = W.heap.size) (v : Value) (e : TypeId) : ∀ j u, [v][j]? = some u → (W.alloc (.cells #[v] e)).cell? ((⟨n, 0, none⟩ : Addr).add j) = some u := cells_new W n hn [v] e

/-- A block that was not the one written reads as before. -/
theorem grown_block {W w3 : World} {row : Option Nat} (hg : W.grownBy w3 row) (b : Nat) (hb : b < W.heap.size) (hne : ∀ k, row = some k → k ≠ b) :
    (∀ o, w3.cell? ⟨b, o, none⟩ = W.cell? ⟨b, o, none⟩) ∧ (∀ o, w3.frozen? ⟨b, o, none⟩ = W.frozen? ⟨b, o, none⟩) := by
  have h := hg.block b hb (fun e => hne b e.symm rfl)
  exact ⟨fun o => World.cell?_of_block (a := ⟨b, o, none⟩) h, fun o => World.frozen?_of_block (a := ⟨b, o, none⟩) h⟩

theorem own_drewN {w : World} {base : Nat} {e : TypeId} {size n m : Nat} {v : Value} {xs : List Value} (h : w.ownsRow base e size v n xs) : (w.drewN m).ownsRow base e size v n xs := h
theorem own_keepD {w W w1 : World} {base : Nat} {e : TypeId} {size n : Nat} {v : Value} {xs : List Value} (h : w.ownsRow base e size v n xs) (hD : Drawn w W) (hb : Below W.heap.size W w1) : w1.ownsRow base e size v n xs := by
  obtain ⟨m, rfl⟩ := hD.out
  exact own_keep (w := w.drewN m) h hb
theorem drawn_below {w w' : World} (h : Drawn w w') : Below w.heap.size w w' := by
  obtain ⟨n, rfl⟩ := h.out
  exact below_drewN (Below.refl _ _) n
theorem below_drawn {n : Nat} {w w1 w2 : World} (h : Below n w w1) (h2 : Drawn w1 w2) : Below n w w2 := by
  obtain ⟨k, rfl⟩ := h2.out
  exact below_drewN h k
theorem one_cell {w : World} {b : Nat} {v : Value} {t : TypeId} (h : w.heap[b]? = some (.cells #[v] t (0, 0))) : w.cell? ⟨b, 0, none⟩ = some v ∧ w.frozen? ⟨b, 0, none⟩ = false ∧ b < w.heap.size :=
  ⟨by rw [cell_of_row _ _ _ _ _ _ h]; rfl, by simp [World.frozen?, h], (Array.getElem?_eq_some_iff.1 h).1⟩
/-- A store into a block of one cell. -/
theorem one_put {w : World} {b : Nat} {v u : Value} {t : TypeId} (h : w.heap[b]? = some (.cells #[v] t (0, 0))) : (w.setCell ⟨b, 0, none⟩ u).heap[b]? = some (.cells #[u] t (0, 0)) := by
  simp only [World.setCell]
  rw [Array.getElem?_modify]
  simp [h]
theorem heap_far {w : World} {b b' : Nat} {u : Value} {o : Obj} (h : w.heap[b']? = some o) (hne : b' ≠ b) : (w.setCell ⟨b, 0, none⟩ u).heap[b']? = some o := (Below.heap_setCell w ⟨b, 0, none⟩ u b' hne).trans h
theorem heap_al {w : World} {b : Nat} {o x : Obj} (h : w.heap[b]? = some o) : (w.alloc x).heap[b]? = some o := by
  rw [heap_alloc_old _ _ (Array.getElem?_eq_some_iff.1 h).1]; exact h
theorem grown_keep {W w3 : World} {row : Option Nat} {b : Nat} {o : Obj} (hg : W.grownBy w3 row) (h : W.heap[b]? = some o) (hrow : ∀ k, row = some k → k ≠ b) : w3.heap[b]? = some o :=
  (hg.block b (Array.getElem?_eq_some_iff.1 h).1 (fun e => hrow b e.symm rfl)).trans h
theorem below_heap {w w' : World} {b : Nat} {o : Obj} (h : w.heap[b]? = some o) (hb : Below w.heap.size w w') : w'.heap[b]? = some o := (hb.block b (Array.getElem?_eq_some_iff.1 h).1).trans h
theorem own_far {w : World} {base : Nat} {e : TypeId} {size n : Nat} {v u : Value} {xs : List Value} {p : Addr} (h : w.ownsRow base e size v n xs) (hp : ∀ k, v.ownBlock = some k → k ≠ p.block) : (w.setCell p u).ownsRow base e size v n xs := by
  obtain ⟨h1, h2 | ⟨g, cap, cur, rfl, hg, hh, r⟩⟩ := h
  · exact ⟨h1, .inl h2⟩
  · exact ⟨h1, .inr ⟨g, cap, cur, rfl, hg, (Below.heap_setCell w p u g (hp g rfl)).trans hh, r⟩⟩
theorem own_ne_type {w : World} {base : Nat} {e e' : TypeId} {size n : Nat} {v : Value} {xs : List Value} {b : Nat} {cs : Array Value} {fz : Nat × Nat} (h : w.ownsRow base e size v n xs) (hb : w.heap[b]? = some (.cells cs e' fz)) (hne : e ≠ e') : ∀ k, v.ownBlock = some k → k ≠ b := by
  rintro k hk rfl
  obtain ⟨h1, ⟨rfl, rfl⟩ | ⟨g, cap, cur, rfl, hg, hh, r⟩⟩ := h
  · simp [Value.ownBlock] at hk
  · have : g = k := by simpa [Value.ownBlock] using hk
    subst this
    rw [hh] at hb
    cases hb
    exact hne rfl
theorem info5 : (Tryd.prog.info? 5).map (fun i => (i.zero, i.size, i.bytes)) = some (some (.int .u8 0), 1, 1) := by kernel_rfl
theorem info46 : (Tryd.prog.info? 46).map (fun i => (i.zero, i.size, i.bytes)) = some (some (.int .u16 0), 1, 2) := by kernel_rfl
/-- What a string that is not well-formed gives up with. -/
def bad : Ending := .panicked [{ v := .iface 97 (.agg #[]), recovered := false }]
end Go.Proofs.YtmbdiimenmnfjaaDoor
/- Walks: point. -/
namespace Go.Proofs.YtmbdiimenmnfjaaDoor
open Go.RowKit Go.Deep
set_option linter.unusedVariables false
set_option linter.unusedSimpArgs false

set_option maxRecDepth 100000 in
set_option maxHeartbeats 1000000 in
theorem rest_bad (s : ByteArray) (i B : Nat) (w : World) (hs : s.size ≤ 9223372036854775807) (hi : i ≤ 9223372036854775807) (hc : w.cell? ⟨B, 0, none⟩ = some (.string s)) (h : contM (bts s) i = none) :
    Calls Tryd.prog 94 #[.int .i64 i, .pointer (some ⟨B, 0, none⟩)] w fun e w' => e = (.panicked [{ v := .iface 97 (.agg #[]), recovered := false }]) ∧ w = w' := by
  have hl := bts_len s
  by_cases h1 : i < s.size
  · have h1i : (i : Int) < s.size := by omega
    have hg := bts_get s i h1
    have hbd := bts_bd s i
    obtain ⟨x, hx⟩ : ∃ x, (bts s).getD i 0 = x := ⟨_, rfl⟩
    have hxx : ((s[i]'h1).toNat : Int) = x := by rw [← hg, hx]
    rw [hx] at hbd
    have hor : x < 128 ∨ 191 < x := by
      unfold contM at h
      rw [hx] at h
      split at h
      · cases h
      · omega
    clear hg hx hl h
    by_cases h2 : x < 128
    · clear hor
      go_enter Tryd.func94, Tryd.ntmps94
      go_wp2
      exact ⟨rfl, rfl, rfl⟩
    · have h3 : 191 < x := by omega
      clear hor
      go_enter Tryd.func94, Tryd.ntmps94
      go_wp2
      exact ⟨rfl, rfl, rfl⟩
  · have h1i : ¬ (i : Int) < s.size := by omega
    clear h hl
    go_enter Tryd.func94, Tryd.ntmps94
    go_wp2
    exact ⟨rfl, rfl, rfl⟩

set_option maxRecDepth 100000 in
set_option maxHeartbeats 1000000 in
theorem rest_ok (s : ByteArray) (i B : Nat) (y : Int) (w : World) (hs : s.size ≤ 9223372036854775807) (hc : w.cell? ⟨B, 0, none⟩ = some (.string s)) (h : contM (bts s) i = some y) :
    Calls Tryd.prog 94 #[.int .i64 i, .pointer (some ⟨B, 0, none⟩)] w fun e w' => e = .returned (.int .i64 y) ∧ w = w' := by
  have hl := bts_len s
  have hb := contM_bd h
  have h1 : i < s.size := by omega
  have h1i : (i : Int) < s.size := by omega
  have hg := bts_get s i h1
  obtain ⟨x, hx⟩ : ∃ x, (bts s).getD i 0 = x := ⟨_, rfl⟩
  have hxx : ((s[i]'h1).toNat : Int) = x := by rw [← hg, hx]
  have hxy : 128 ≤ x ∧ x ≤ 191 ∧ y = x - 128 := by
    unfold contM at h
    rw [hx] at h
    split at h
    · cases h; omega
    · cases h
  obtain ⟨h2, h3, rfl⟩ := hxy
  clear hg hx hl h hb
  go_enter Tryd.func94, Tryd.ntmps94
  go_wp2
  go_ret
  exact ⟨rfl, rfl⟩

/-- How 'point' ends. -/
def pointE : Option (Int × Nat) → Ending
  | none => .panicked [{ v := .iface 97 (.agg #[]), recovered := false }]
  | some (c, n) => .returned (.tuple #[.int .i64 c, .int .i64 n])

theorem head_at (s : ByteArray) (h : 0 < s.size) : ((s[0]'h).toNat : Int) = (bts s).getD 0 0 := (bts_get s 0 h).symm

set_option maxRecDepth 100000 in
set_option maxHeartbeats 4000000 in
theorem point_2 (s : ByteArray) (w : World) (h0 : 0 < s.size) (hs : s.size ≤ 9223372036854775807) (b : Int) (hb : (bts s).getD 0 0 = b) (h1 : 192 ≤ b) (h2 : b < 224) :
    Calls Tryd.prog 87 #[.string s] w fun e w' => e = pointE (pointC (bts s) 2 128 (b - 192)) ∧ Below w.heap.size w w' := by
  have hhd : ((s[0]'h0).toNat : Int) = b := by rw [head_at s h0, hb]
  obtain ⟨R, hR⟩ : ∃ R, goM (bts s) (2 - 1) 1 (b - 192) = R := ⟨_, rfl⟩
  have HE : Hid (pointC (bts s) 2 128 (b - 192) = pickP 2 128 R) := Lib.hid (by unfold pointC; rw [hR])
  have HR := Lib.hid hR
  have h0i : (0 : Int) < s.size := by omega
  clear hb hR
  go_enter Tryd.func87, Tryd.ntmps87
  go_wp2
  obtain ⟨B, hB⟩ : ∃ B, w.heap.size = B := ⟨_, rfl⟩
  obtain ⟨w0, hw0⟩ : ∃ w0, w.alloc (.cells #[.string s] 9) = w0 := ⟨_, rfl⟩
  have HC : Hid (w0.cell? ⟨B, 0, none⟩ = some (.string s)) := Lib.hid (by rw [← hw0, ← hB, cell_of_row _ _ _ _ _ _ (heap_alloc_new w _)]; rfl)
  have HW : Hid (Below w.heap.size w w0) := Lib.hid (by rw [← hw0]; exact one_alloc _ _)
  rw [hw0, hB]
  clear hw0 hB
  go_loopg [2, 7] (2 - 1) (fun kq v2 v7 W => ∃ (i : Nat) (c : Int), v7 = .int .i64 i ∧ v2 = .int .i64 c ∧ 1 ≤ i ∧ i ≤ 2 ∧ 0 ≤ c ∧ ((i = 1 ∧ c ≤ 31) ∨ (i = 2 ∧ c ≤ 2047) ∨ (i = 3 ∧ c ≤ 131071) ∨ (i = 4 ∧ c ≤ 8388607)) ∧ kq = 2 - i ∧ Hid (goM (bts s) (2 - i) i c = R) ∧ W = w0)
  case atStart => exact ⟨1, b - 192, by go_num, rfl, by omega, by omega, by omega, by omega, rfl, HR, rfl⟩
  case round =>
    obtain ⟨i, c, rfl, rfl, hi1, hi2, hc0, hcb, hkq, HG, rfl⟩ := hrel
    have hcu : c ≤ 8388607 := by omega
    by_cases hlt : i < 2
    · have hlti : (i : Int) < 2 := by omega
      have hG := HG.out
      rw [show 2 - i = (2 - (i + 1)) + 1 from by omega] at hG
      unfold goM at hG
      cases hx : contM (bts s) i with
      | none =>
        rw [hx] at hG
        have HX := Lib.hid hx
        have HRR : Hid (R = none) := Lib.hid hG.symm
        clear hG hx hcb
        go_wp2_with (go_at_call 94; refine (rest_bad s i B _ hs (by omega) HC.out HX.out).mono ?_; rintro e w' ⟨rfl, rfl⟩)
        exact ⟨rfl, by rw [HE.out, HRR.out]; rfl, HW.out⟩
      | some y =>
        rw [hx] at hG
        have hy := contM_bd hx
        have HX := Lib.hid hx
        have HG2 : Hid (goM (bts s) (2 - (i + 1)) (i + 1) (c * 64 + y) = R) := Lib.hid hG
        clear hG hx
        go_wp2_with (go_at_call 94; refine (rest_ok s i B y _ hs HC.out HX.out).mono ?_; rintro e w' ⟨rfl, rfl⟩)
        go_roundg (2 - (i + 1))
        case measure => omega
        case rel => exact ⟨i + 1, c * 64 + y, by go_num, rfl, by omega, by omega, by omega, by omega, rfl, HG2, rfl⟩
    · obtain rfl : i = 2 := by omega
      have hG := HG.out
      rw [Nat.sub_self] at hG
      unfold goM at hG
      have HRR : Hid (R = some c) := Lib.hid hG.symm
      clear hG HG hcb
      by_cases hl : c < 128
      · go_wp2
        exact ⟨rfl, by rw [HE.out, HRR.out]; simp only [pickP]; rw [if_pos (.inl hl)]; rfl, HW.out⟩
      · by_cases hu : 1114111 < c
        · go_wp2
          exact ⟨rfl, by rw [HE.out, HRR.out]; simp only [pickP]; rw [if_pos (.inr hu)]; rfl, HW.out⟩
        · go_wp2
          go_ret2
          exact ⟨by rw [HE.out, HRR.out]; simp only [pickP]; rw [if_neg (by omega)]; rfl, HW.out⟩

set_option maxRecDepth 100000 in
set_option maxHeartbeats 4000000 in
theorem point_3 (s : ByteArray) (w : World) (h0 : 0 < s.size) (hs : s.size ≤ 9223372036854775807) (b : Int) (hb : (bts s).getD 0 0 = b) (h1 : 224 ≤ b) (h2 : b < 240) :
    Calls Tryd.prog 87 #[.string s] w fun e w' => e = pointE (pointC (bts s) 3 2048 (b - 224)) ∧ Below w.heap.size w w' := by
  have hhd : ((s[0]'h0).toNat : Int) = b := by rw [head_at s h0, hb]
  obtain ⟨R, hR⟩ : ∃ R, goM (bts s) (3 - 1) 1 (b - 224) = R := ⟨_, rfl⟩
  have HE : Hid (pointC (bts s) 3 2048 (b - 224) = pickP 3 2048 R) := Lib.hid (by unfold pointC; rw [hR])
  have HR := Lib.hid hR
  have h0i : (0 : Int) < s.size := by omega
  clear hb hR
  go_enter Tryd.func87, Tryd.ntmps87
  go_wp2
  obtain ⟨B, hB⟩ : ∃ B, w.heap.size = B := ⟨_, rfl⟩
  obtain ⟨w0, hw0⟩ : ∃ w0, w.alloc (.cells #[.string s] 9) = w0 := ⟨_, rfl⟩
  have HC : Hid (w0.cell? ⟨B, 0, none⟩ = some (.string s)) := Lib.hid (by rw [← hw0, ← hB, cell_of_row _ _ _ _ _ _ (heap_alloc_new w _)]; rfl)
  have HW : Hid (Below w.heap.size w w0) := Lib.hid (by rw [← hw0]; exact one_alloc _ _)
  rw [hw0, hB]
  clear hw0 hB
  go_loopg [2, 7] (3 - 1) (fun kq v2 v7 W => ∃ (i : Nat) (c : Int), v7 = .int .i64 i ∧ v2 = .int .i64 c ∧ 1 ≤ i ∧ i ≤ 3 ∧ 0 ≤ c ∧ ((i = 1 ∧ c ≤ 31) ∨ (i = 2 ∧ c ≤ 2047) ∨ (i = 3 ∧ c ≤ 131071) ∨ (i = 4 ∧ c ≤ 8388607)) ∧ kq = 3 - i ∧ Hid (goM (bts s) (3 - i) i c = R) ∧ W = w0)
  case atStart => exact ⟨1, b - 224, by go_num, rfl, by omega, by omega, by omega, by omega, rfl, HR, rfl⟩
  case round =>
    obtain ⟨i, c, rfl, rfl, hi1, hi2, hc0, hcb, hkq, HG, rfl⟩ := hrel
    have hcu : c ≤ 8388607 := by omega
    by_cases hlt : i < 3
    · have hlti : (i : Int) < 3 := by omega
      have hG := HG.out
      rw [show 3 - i = (3 - (i + 1)) + 1 from by omega] at hG
      unfold goM at hG
      cases hx : contM (bts s) i with
      | none =>
        rw [hx] at hG
        have HX := Lib.hid hx
        have HRR : Hid (R = none) := Lib.hid hG.symm
        clear hG hx hcb
        go_wp2_with (go_at_call 94; refine (rest_bad s i B _ hs (by omega) HC.out HX.out).mono ?_; rintro e w' ⟨rfl, rfl⟩)
        exact ⟨rfl, by rw [HE.out, HRR.out]; rfl, HW.out⟩
      | some y =>
        rw [hx] at hG
        have hy := contM_bd hx
        have HX := Lib.hid hx
        have HG2 : Hid (goM (bts s) (3 - (i + 1)) (i + 1) (c * 64 + y) = R) := Lib.hid hG
        clear hG hx
        go_wp2_with (go_at_call 94; refine (rest_ok s i B y _ hs HC.out HX.out).mono ?_; rintro e w' ⟨rfl, rfl⟩)
        go_roundg (3 - (i + 1))
        case measure => omega
        case rel => exact ⟨i + 1, c * 64 + y, by go_num, rfl, by omega, by omega, by omega, by omega, rfl, HG2, rfl⟩
    · obtain rfl : i = 3 := by omega
      have hG := HG.out
      rw [Nat.sub_self] at hG
      unfold goM at hG
      have HRR : Hid (R = some c) := Lib.hid hG.symm
      clear hG HG hcb
      by_cases hl : c < 2048
      · go_wp2
        exact ⟨rfl, by rw [HE.out, HRR.out]; simp only [pickP]; rw [if_pos (.inl hl)]; rfl, HW.out⟩
      · by_cases hu : 1114111 < c
        · go_wp2
          exact ⟨rfl, by rw [HE.out, HRR.out]; simp only [pickP]; rw [if_pos (.inr hu)]; rfl, HW.out⟩
        · go_wp2
          go_ret2
          exact ⟨by rw [HE.out, HRR.out]; simp only [pickP]; rw [if_neg (by omega)]; rfl, HW.out⟩

set_option maxRecDepth 100000 in
set_option maxHeartbeats 4000000 in
theorem point_4 (s : ByteArray) (w : World) (h0 : 0 < s.size) (hs : s.size ≤ 9223372036854775807) (b : Int) (hb : (bts s).getD 0 0 = b) (h1 : 240 ≤ b) (h2 : b < 248) :
    Calls Tryd.prog 87 #[.string s] w fun e w' => e = pointE (pointC (bts s) 4 65536 (b - 240)) ∧ Below w.heap.size w w' := by
  have hhd : ((s[0]'h0).toNat : Int) = b := by rw [head_at s h0, hb]
  obtain ⟨R, hR⟩ : ∃ R, goM (bts s) (4 - 1) 1 (b - 240) = R := ⟨_, rfl⟩
  have HE : Hid (pointC (bts s) 4 65536 (b - 240) = pickP 4 65536 R) := Lib.hid (by unfold pointC; rw [hR])
  have HR := Lib.hid hR
  have h0i : (0 : Int) < s.size := by omega
  clear hb hR
  go_enter Tryd.func87, Tryd.ntmps87
  go_wp2
  obtain ⟨B, hB⟩ : ∃ B, w.heap.size = B := ⟨_, rfl⟩
  obtain ⟨w0, hw0⟩ : ∃ w0, w.alloc (.cells #[.string s] 9) = w0 := ⟨_, rfl⟩
  have HC : Hid (w0.cell? ⟨B, 0, none⟩ = some (.string s)) := Lib.hid (by rw [← hw0, ← hB, cell_of_row _ _ _ _ _ _ (heap_alloc_new w _)]; rfl)
  have HW : Hid (Below w.heap.size w w0) := Lib.hid (by rw [← hw0]; exact one_alloc _ _)
  rw [hw0, hB]
  clear hw0 hB
  go_loopg [2, 7] (4 - 1) (fun kq v2 v7 W => ∃ (i : Nat) (c : Int), v7 = .int .i64 i ∧ v2 = .int .i64 c ∧ 1 ≤ i ∧ i ≤ 4 ∧ 0 ≤ c ∧ ((i = 1 ∧ c ≤ 31) ∨ (i = 2 ∧ c ≤ 2047) ∨ (i = 3 ∧ c ≤ 131071) ∨ (i = 4 ∧ c ≤ 8388607)) ∧ kq = 4 - i ∧ Hid (goM (bts s) (4 - i) i c = R) ∧ W = w0)
  case atStart => exact ⟨1, b - 240, by go_num, rfl, by omega, by omega, by omega, by omega, rfl, HR, rfl⟩
  case round =>
    obtain ⟨i, c, rfl, rfl, hi1, hi2, hc0, hcb, hkq, HG, rfl⟩ := hrel
    have hcu : c ≤ 8388607 := by omega
    by_cases hlt : i < 4
    · have hlti : (i : Int) < 4 := by omega
      have hG := HG.out
      rw [show 4 - i = (4 - (i + 1)) + 1 from by omega] at hG
      unfold goM at hG
      cases hx : contM (bts s) i with
      | none =>
        rw [hx] at hG
        have HX := Lib.hid hx
        have HRR : Hid (R = none) := Lib.hid hG.symm
        clear hG hx hcb
        go_wp2_with (go_at_call 94; refine (rest_bad s i B _ hs (by omega) HC.out HX.out).mono ?_; rintro e w' ⟨rfl, rfl⟩)
        exact ⟨rfl, by rw [HE.out, HRR.out]; rfl, HW.out⟩
      | some y =>
        rw [hx] at hG
        have hy := contM_bd hx
        have HX := Lib.hid hx
        have HG2 : Hid (goM (bts s) (4 - (i + 1)) (i + 1) (c * 64 + y) = R) := Lib.hid hG
        clear hG hx
        go_wp2_with (go_at_call 94; refine (rest_ok s i B y _ hs HC.out HX.out).mono ?_; rintro e w' ⟨rfl, rfl⟩)
        go_roundg (4 - (i + 1))
        case measure => omega
        case rel => exact ⟨i + 1, c * 64 + y, by go_num, rfl, by omega, by omega, by omega, by omega, rfl, HG2, rfl⟩
    · obtain rfl : i = 4 := by omega
      have hG := HG.out
      rw [Nat.sub_self] at hG
      unfold goM at hG
      have HRR : Hid (R = some c) := Lib.hid hG.symm
      clear hG HG hcb
      by_cases hl : c < 65536
      · go_wp2
        exact ⟨rfl, by rw [HE.out, HRR.out]; simp only [pickP]; rw [if_pos (.inl hl)]; rfl, HW.out⟩
      · by_cases hu : 1114111 < c
        · go_wp2
          exact ⟨rfl, by rw [HE.out, HRR.out]; simp only [pickP]; rw [if_pos (.inr hu)]; rfl, HW.out⟩
        · go_wp2
          go_ret2
          exact ⟨by rw [HE.out, HRR.out]; simp only [pickP]; rw [if_neg (by omega)]; rfl, HW.out⟩

set_option maxRecDepth 100000 in
set_option maxHeartbeats 1000000 in
theorem point_ascii (s : ByteArray) (w : World) (h0 : 0 < s.size) (hs : s.size ≤ 9223372036854775807) (b : Int) (hb : (bts s).getD 0 0 = b) (h2 : b < 128) :
    Calls Tryd.prog 87 #[.string s] w fun e w' => e = .returned (.tuple #[.int .i64 b, .int .i64 1]) ∧ Below w.heap.size w w' := by
  have hhd : ((s[0]'h0).toNat : Int) = b := by rw [head_at s h0, hb]
  have h0b : 0 ≤ b := by rw [← hb]; exact (bts_bd s 0).1
  have h0i : (0 : Int) < s.size := by omega
  clear hb
  go_enter Tryd.func87, Tryd.ntmps87
  go_wp2
  go_ret2
  exact ⟨rfl, one_alloc _ _⟩

set_option maxRecDepth 100000 in
set_option maxHeartbeats 1000000 in
theorem point_none (s : ByteArray) (w : World) (h0 : 0 < s.size) (hs : s.size ≤ 9223372036854775807) (b : Int) (hb : (bts s).getD 0 0 = b) (h2 : (128 ≤ b ∧ b < 192) ∨ 248 ≤ b) :
    Calls Tryd.prog 87 #[.string s] w fun e w' => e = (.panicked [{ v := .iface 97 (.agg #[]), recovered := false }]) ∧ Below w.heap.size w w' := by
  have hhd : ((s[0]'h0).toNat : Int) = b := by rw [head_at s h0, hb]
  have h0b : b ≤ 255 := by rw [← hb]; exact (bts_bd s 0).2
  have h0i : (0 : Int) < s.size := by omega
  clear hb
  rcases h2 with ⟨h2, h3⟩ | h2
  · go_enter Tryd.func87, Tryd.ntmps87
    go_wp2
    exact ⟨rfl, rfl, one_alloc _ _⟩
  · go_enter Tryd.func87, Tryd.ntmps87
    go_wp2
    exact ⟨rfl, rfl, one_alloc _ _⟩

theorem point_any (s : ByteArray) (w : World) (h0 : 0 < s.size) (hs : s.size ≤ 9223372036854775807) :
    Calls Tryd.prog 87 #[.string s] w fun e w' => e = pointE (pointM (bts s)) ∧ Below w.heap.size w w' := by
  obtain ⟨b, hb⟩ : ∃ b, (bts s).getD 0 0 = b := ⟨_, rfl⟩
  have hbd := bts_bd s 0
  unfold pointM
  rw [hb] at hbd ⊢
  by_cases h1 : b < 128
  · rw [if_pos h1]
    exact point_ascii s w h0 hs b hb h1
  · rw [if_neg h1]
    by_cases h2 : 192 ≤ b ∧ b < 224
    · rw [if_pos h2]
      exact point_2 s w h0 hs b hb h2.1 h2.2
    · rw [if_neg h2]
      by_cases h3 : 224 ≤ b ∧ b < 240
      · rw [if_pos h3]
        exact point_3 s w h0 hs b hb h3.1 h3.2
      · rw [if_neg h3]
        by_cases h4 : 240 ≤ b ∧ b < 248
        · rw [if_pos h4]
          exact point_4 s w h0 hs b hb h4.1 h4.2
        · rw [if_neg h4]
          exact point_none s w h0 hs b hb (by omega)
theorem point_bad (s : ByteArray) (w : World) (h0 : 0 < s.size) (hs : s.size ≤ 9223372036854775807) (h : pointM (bts s) = none) :
    Calls Tryd.prog 87 #[.string s] w fun e w' => e = (.panicked [{ v := .iface 97 (.agg #[]), recovered := false }]) ∧ Below w.heap.size w w' :=
  (point_any s w h0 hs).mono fun e w' ⟨h1, h2⟩ => ⟨by rw [h1, h]; rfl, h2⟩
theorem point_ok (s : ByteArray) (w : World) (c : Int) (n : Nat) (h0 : 0 < s.size) (hs : s.size ≤ 9223372036854775807) (h : pointM (bts s) = some (c, n)) :
    Calls Tryd.prog 87 #[.string s] w fun e w' => e = .returned (.tuple #[.int .i64 c, .int .i64 n]) ∧ Below w.heap.size w w' :=
  (point_any s w h0 hs).mono fun e w' ⟨h1, h2⟩ => ⟨by rw [h1, h]; rfl, h2⟩
end Go.Proofs.YtmbdiimenmnfjaaDoor
/- Walks: units and its closure. -/
namespace Go.Proofs.YtmbdiimenmnfjaaDoor
open Go.RowKit Go.Deep Go.Shelf
set_option linter.unusedVariables false
set_option linter.unusedSimpArgs false
attribute [local go_sem] Oper.semAt_some

theorem grown_trans {A B C : World} {r : Option Nat} (h : A.grownBy B r) (k : B.grownBy C r) : A.grownBy C r :=
  ⟨k.os.trans h.os, k.tape.trans h.tape, k.output.trans h.output, Nat.le_trans h.size k.size, fun i hi hne => (k.block i (Nat.lt_of_lt_of_le hi h.size) hne).trans (h.block i hi hne)⟩
theorem grown_below {w w1 : World} (h : Below w.heap.size w w1) (r : Option Nat) : w.grownBy w1 r := ⟨h.os, h.tape, h.output, h.size, fun i hi _ => h.block i hi⟩
theorem grown_drew (w : World) (n : Nat) (r : Option Nat) : w.grownBy (w.drewN n) r := ⟨rfl, rfl, rfl, Nat.le_refl _, fun _ _ _ => rfl⟩
theorem grown_drew1 (w : World) (r : Option Nat) : w.grownBy w.drew r := ⟨rfl, rfl, rfl, Nat.le_refl _, fun _ _ _ => rfl⟩

set_option maxRecDepth 100000 in
set_option maxHeartbeats 1000000 in
theorem units_any (s : ByteArray) (w : World) :
    Calls Tryd.prog 69 #[.string s] w fun e w' => e = .returned (.func (.func 86) #[] #[.pointer (some ⟨w.heap.size, 0, none⟩)]) ∧ w' = w.alloc (.cells #[.string s] 9) := by
  have hmf : ∀ (fn : Fn) (first cap : Array Value) (w : World), (Instr.makeFunc fn first cap).run Tryd.prog w = .ok (.func fn first cap) w := fun _ _ _ _ => rfl
  go_enter Tryd.func69, Tryd.ntmps69
  go_wp2
  go_ret
  exact ⟨rfl, rfl⟩

/-- How the closure of 'units' ends. -/
def UEnd (r : Option (List Int)) (J : List Int → World → Prop) (e : Ending) (W' : World) : Prop := match r with
  | some ys => (∃ v, e = .returned v) ∧ J ys W'
  | none => e = (.panicked [{ v := .iface 97 (.agg #[]), recovered := false }]) ∧ ∃ pre, J pre W'

theorem unitsF_nil (f : Nat) (b : Int) : unitsF (f + 1) [] b = some [] := by unfold unitsF; rw [if_pos rfl]
theorem unitsF_step (f : Nat) (s : List Int) (b : Int) (h : s ≠ []) : unitsF (f + 1) s b = stepU b s (unitsF f) (pointM s) := by
  conv => lhs; unfold unitsF
  rw [if_neg h]
theorem map_app (pre a : List Int) (o : Option (List Int)) : (o.map (a ++ ·)).map (pre ++ ·) = o.map ((pre ++ a) ++ ·) := by
  cases o <;> simp
theorem wraps_i64' (n : Int) (h₀ : 0 ≤ n) (h₁ : n < 2 ^ 62) : IntKind.i64.wrap n = n := by rw [IntKind.wrap_i64]; omega
theorem and1023 (n : Int) (h0 : 0 ≤ n) (h1 : n < 2 ^ 62) : bits .and .i64 n 1023 = n % 1024 := bits_mask .i64 62 (by decide) wraps_i64' 10 (by decide) n h0 h1

set_option maxRecDepth 100000 in
set_option maxHeartbeats 8000000 in
theorem units1_in (m : Nat) (hm : 1 ≤ m) (l Bs : Nat) (s : ByteArray) (hs : s.size ≤ 1000000) (J : List Int → World → Prop)
    (hJ : ∀ pre W W', J pre W → W.grownBy W' (some Bs) → J pre W')
    (hY : ∀ pre x W (t : ByteArray), J pre W → W.heap[Bs]? = some (.cells #[.string t] 9 (0, 0)) → pre.length < 2 * s.size → 0 ≤ x → x ≤ 65535 → YieldAt Fence.wide (m - 1) Tryd.prog l #[.int .u16 x] W fun e W' => e = .returned (.bool true) ∧ J (pre ++ [x]) W' ∧ W'.heap[Bs]? = W.heap[Bs]?)
    (W : World) (hbox : W.heap[Bs]? = some (.cells #[.string s] 9 (0, 0))) (h0 : J [] W) :
    CallsIn Fence.wide m Tryd.prog 86 #[.func (.yield l) #[] #[], .pointer (some ⟨Bs, 0, none⟩)] W (UEnd (unitsM (bts s)) J) := by
  obtain ⟨R, hR⟩ : ∃ R, unitsM (bts s) = R := ⟨_, rfl⟩
  have HR : Hid ((unitsF (s.size + 1) (bts s) 0).map (([] : List Int) ++ ·) = R) := Lib.hid (by rw [← hR, unitsM, bts_len]; simp)
  have HJ0 := Lib.hid h0
  have HBX := Lib.hid hbox
  have HJG := Lib.hid hJ
  have HHY := Lib.hid hY
  rw [hR]
  clear hR h0 hbox hJ hY
  refine callsIn_of_wp Tryd.func86 rfl trivial ?_ rfl
  simp only [Tryd.ntmps86, List.size_toArray, List.length_cons, List.length_nil, Nat.reduceAdd, Nat.reduceSub, Array.replicate_succ, Array.replicate_zero, List.push_toArray, List.append_toArray, List.nil_append, List.cons_append]
  gi_wp2
  gi_loopg [3] (s.size + 1) (fun kq v3 wr => ∃ (t : ByteArray) (b : Int) (pre : List Int), v3 = .int .i64 b ∧ 0 ≤ b ∧ b ≤ 1114111 ∧ t.size ≤ s.size ∧ Hid (wr.heap[Bs]? = some (.cells #[.string t] 9 (0, 0))) ∧ Hid (J pre wr) ∧
    Hid (pre.length + 2 * t.size ≤ 2 * s.size) ∧ Hid (t.size < kq) ∧ Hid ((unitsF kq (bts t) b).map (pre ++ ·) = R))
  case atStart => exact ⟨s, 0, [], rfl, by omega, by omega, by omega, HBX, HJ0, Lib.hid (by simp), Lib.hid (by omega), HR⟩
  case round =>
    clear HJ0 HBX HR
    obtain ⟨t, b, pre, rfl, hb0, hb1, hts, HBX, HJ, HL, HK, HR⟩ := hrel
    cases gk with
    | zero => exact absurd HK.out (by omega)
    | succ k =>
      obtain ⟨hcb, hfz, hbl⟩ := one_cell HBX.out
      have htl := bts_len t
      by_cases h0 : 0 < t.size
      · have h0i : (0 : Int) < t.size := by omega
        have hne : bts t ≠ [] := by intro h; rw [h] at htl; simp at htl; omega
        have hR := HR.out
        rw [unitsF_step k (bts t) b hne] at hR
        have HTL := Lib.hid htl
        cases hp : pointM (bts t) with
        | none =>
          rw [hp] at hR
          simp only [stepU, Option.map_none] at hR
          have HP := Lib.hid hp
          have HRN : Hid (R = none) := Lib.hid hR.symm
          clear hR hp htl
          gi_wp2_with (refine ⟨trivial, ?_⟩; gi_at_call 87; refine (callsIn_wide.2 (point_bad t _ h0 (by omega) HP.out)).mono ?_; rintro e w1 ⟨rfl, hB⟩)
          refine ⟨rfl, ?_⟩
          rw [HRN.out]
          exact ⟨rfl, pre, HJG.out pre _ _ HJ.out (grown_below hB _)⟩
        | some cn =>
          obtain ⟨c, n⟩ := cn
          rw [hp] at hR
          simp only [stepU] at hR
          have hbd := pointM_bd hne (bts_bd t 0).1 hp
          obtain ⟨hc0, hc1, hn1, hn4, hnl⟩ := hbd
          rw [htl] at hnl
          have HP := Lib.hid hp
          clear hp htl
          by_cases hsur : 55296 ≤ b ∧ b < 56320 ∧ 56320 ≤ c ∧ c < 57344
          · rw [if_pos hsur, Option.map_none] at hR
            have HRN : Hid (R = none) := Lib.hid hR.symm
            obtain ⟨s1, s2, s3, s4⟩ := hsur
            clear hR
            gi_wp2_with (refine ⟨trivial, ?_⟩; gi_at_call 87; refine (callsIn_wide.2 (point_ok t _ c n h0 (by omega) HP.out)).mono ?_; rintro e w1 ⟨rfl, hB⟩)
            refine ⟨rfl, ?_⟩
            rw [HRN.out]
            exact ⟨rfl, pre, HJG.out pre _ _ HJ.out (grown_below hB _)⟩
          · rw [if_neg hsur, map_app] at hR
            have HR2 := Lib.hid hR
            have hor : ¬ 55296 ≤ b ∨ (55296 ≤ b ∧ ¬ b < 56320) ∨ (55296 ≤ b ∧ b < 56320 ∧ ¬ 56320 ≤ c) ∨ (55296 ≤ b ∧ b < 56320 ∧ 56320 ≤ c ∧ ¬ c < 57344) := by omega
            clear hsur hR
            have hnt : (n : Int) ≤ t.size := by omega
            have hbits := and1023 (c - 65536)
            have HBITS := Lib.hid hbits
            clear hbits
            rcases hor with s1 | ⟨s1, s2⟩ | ⟨s1, s2, s3⟩ | ⟨s1, s2, s3, s4⟩
            all_goals
              gi_wp2_with (refine ⟨trivial, ?_⟩; gi_at_call 87; refine (callsIn_wide.2 (point_ok t _ c n h0 (by omega) HP.out)).mono ?_; rintro e w1 ⟨rfl, hB⟩)
              have HBX1 := Lib.hid (below_heap HBX.out hB)
              obtain ⟨hcb1, hfz1, hbl1⟩ := one_cell HBX1.out
              refine wpIn_wide.2 ?_
              go_region
              obtain ⟨t2, ht2⟩ : ∃ t2, t.extract n t.size = t2 := ⟨_, rfl⟩
              rw [ht2]
              obtain ⟨W5, hW5⟩ : ∃ W5, (w1.setCell ⟨Bs, 0, none⟩ (.string t2)).drew = W5 := ⟨_, rfl⟩
              have HBX5 : Hid (W5.heap[Bs]? = some (.cells #[.string t2] 9 (0, 0))) := Lib.hid (by rw [← hW5]; exact one_put (w := w1) HBX1.out)
              have HJ5 : Hid (J pre W5) := Lib.hid (HJG.out pre _ _ HJ.out (by rw [← hW5]; exact grown_trans (grown_trans (grown_below hB _) (grownBy_setCell' w1 Bs _)) (grown_drew1 _ _)))
              have hl2 : t2.size = t.size - n := by rw [← ht2]; simp [ByteArray.size_extract]
              have HL2 := Lib.hid hl2
              have HBT : Hid (bts t2 = (bts t).drop n) := Lib.hid (by rw [← ht2]; exact bts_drop t n)
              rw [hW5]
              clear hcb1 hfz1 hbl1 hW5 ht2 HBX1 hB hcb hfz hbl HBX HJ hl2
              by_cases hbig : 65536 ≤ c
              · have hq := HBITS.out (by omega) (by omega)
                have hL := HL.out
                have hq1 : 0 ≤ (c - 65536) / 1024 ∧ (c - 65536) / 1024 ≤ 1023 := by omega
                have hq2 : 0 ≤ (c - 65536) % 1024 ∧ (c - 65536) % 1024 ≤ 1023 := by omega
                obtain ⟨fn, tmps, assign, body, hy, hRR⟩ := HHY.out pre (55296 + (c - 65536) / 1024) W5 t2 HJ5.out HBX5.out (by omega) (by omega) (by omega)
                have hy2 : (Instr.yield l #[.int .u16 (55296 + (c - 65536) / 1024)]).run Tryd.prog W5 = .ok (.round l fn tmps assign body) W5 := hy
                have HRR := Lib.hid hRR
                clear hRR hy
                gi_wp2
                refine HRR.out.mono ?_
                rintro e W6 ⟨rfl, hJ6, hk6⟩
                have HJ6 := Lib.hid hJ6
                have HBX6 : Hid (W6.heap[Bs]? = some (.cells #[.string t2] 9 (0, 0))) := Lib.hid (hk6.trans HBX5.out)
                obtain ⟨fn2, tmps2, assign2, body2, hy', hRR'⟩ := HHY.out (pre ++ [55296 + (c - 65536) / 1024]) (56320 + (c - 65536) % 1024) W6 t2 hJ6 HBX6.out (by simp; omega) (by omega) (by omega)
                have hy3 : (Instr.yield l #[.int .u16 (56320 + (c - 65536) % 1024)]).run Tryd.prog W6 = .ok (.round l fn2 tmps2 assign2 body2) W6 := hy'
                have HRR' := Lib.hid hRR'
                clear hRR' hy' hk6 hJ6 hy2 HRR
                gi_wp2
                refine HRR'.out.mono ?_
                rintro e W7 ⟨rfl, hJ7, hk7⟩
                have HJ7 := Lib.hid hJ7
                have HBX7 : Hid (W7.heap[Bs]? = some (.cells #[.string t2] 9 (0, 0))) := Lib.hid (hk7.trans HBX6.out)
                clear hJ7 hk7 hy3 HRR'
                gi_wp2
                have hl2 := HL2.out
                have hk := HK.out
                gi_roundg k
                case measure => omega
                case rel => exact ⟨t2, c, pre ++ encU c, rfl, hc0, hc1, by omega, HBX7, Lib.hid (by have := HJ7.out; unfold encU; rw [if_neg (by omega)]; simpa using this), Lib.hid (by have := (encU_len c).2; simp only [List.length_append]; omega), Lib.hid (by omega), Lib.hid (by rw [HBT.out]; exact HR2.out)⟩
              · have hL := HL.out
                obtain ⟨fn, tmps, assign, body, hy, hRR⟩ := HHY.out pre c W5 t2 HJ5.out HBX5.out (by omega) (by omega) (by omega)
                have hy2 : (Instr.yield l #[.int .u16 c]).run Tryd.prog W5 = .ok (.round l fn tmps assign body) W5 := hy
                have HRR := Lib.hid hRR
                clear hRR hy
                gi_wp2
                refine HRR.out.mono ?_
                rintro e W6 ⟨rfl, hJ6, hk6⟩
                have HJ6 := Lib.hid hJ6
                have HBX6 : Hid (W6.heap[Bs]? = some (.cells #[.string t2] 9 (0, 0))) := Lib.hid (hk6.trans HBX5.out)
                clear hk6 hJ6 hy2 HRR
                gi_wp2
                have hl2 := HL2.out
                have hk := HK.out
                gi_roundg k
                case measure => omega
                case rel => exact ⟨t2, c, pre ++ encU c, rfl, hc0, hc1, by omega, HBX6, Lib.hid (by have := HJ6.out; unfold encU; rw [if_pos (by omega)]; exact this), Lib.hid (by have := (encU_len c).2; simp only [List.length_append]; omega), Lib.hid (by omega), Lib.hid (by rw [HBT.out]; exact HR2.out)⟩
      · have hz : t.size = 0 := by omega
        have h0i : ¬ (0 : Int) < t.size := by omega
        have hR := HR.out
        have hnil : bts t = [] := List.eq_nil_of_length_eq_zero (by omega)
        rw [hnil, unitsF_nil] at hR
        have HRN : Hid (R = some pre) := Lib.hid (by rw [← hR]; simp)
        clear hR hnil hz htl
        gi_wp2
        go_end0
        rw [HRN.out]
        exact ⟨⟨_, rfl⟩, HJ.out⟩
end Go.Proofs.YtmbdiimenmnfjaaDoor
/- A range over a function whose iterator may panic and writes cells of its own: the statement and one round, at a loop that is never left early. -/
namespace Go.Proofs.YtmbdiimenmnfjaaDoor
open Go.RowKit
set_option linter.unusedVariables false
set_option linter.unusedSimpArgs false
variable {F : Fence} {n : Nat} {P : Program}

/-- The record of a loop over a function. -/
def recX (fn : FuncId) (tmps : Array Value) (ps : Array Tmp) (assign body : Code) (D : Nat) (st : LoopState) (pe : Option Code) : Loop := { state := st, pending := pe, fn, tmps, params := ps, assign, body, defers := D }

theorem wpIn_rangeFunc_X {g : Operand} {ps : Array Tmp} {assign body : Code} {Q : Exit → Act → World → Prop} {a : Act} {w : World}
    (hro : F.round = none) (h1 : 1 ≤ n) {gf : Nat} {lb : Array Value} (hg : a.eval g = .func (.func gf) #[] lb) (hFg : F.fn gf) (eg : ∀ args w, (callFunc gf args).run P w = .ok (.enter gf args) w)
    (l : Nat) (hl : l = w.heap.size + 1) (h : ∀ (fn : FuncId) (rd : Loop), F.fn fn → rd = recX fn a.tmps ps assign body w.heap.size .ready none → CallsIn F (n - 1) P gf (#[Value.func (Fn.yield l) #[] #[]] ++ lb) ((w.alloc (Obj.deferred (some []))).alloc (Obj.loop rd))
      (rangePost F n P l Q (Act.mk a.tmps ({ target := .collected w.heap.size, args := #[] } :: a.defers)))) :
    (Code.rangeFunc g ps assign body).wpIn F n P Q a w := by
  refine wpIn_rangeFunc ?_
  intro fn hfn
  subst hl
  rw [hro]
  obtain ⟨W1, hW1⟩ : ∃ W1, (w.alloc (.deferred (some []))).alloc (.loop (recX fn a.tmps ps assign body w.heap.size .ready none)) = W1 := ⟨_, rfl⟩
  have hc := h fn _ hfn rfl
  rw [hW1] at hc
  refine ⟨w.heap.size + 1, [{ target := .collected w.heap.size, args := #[] }], W1, { target := .fn (.func gf) lb, args := #[.func (.yield (w.heap.size + 1)) #[] #[]] }, W1, gf,
    #[.func (.yield (w.heap.size + 1)) #[] #[]] ++ lb, W1, ?_, ?_, ?_, ?_, fun _ => h1, ?_⟩
  · have hrun := run_enterLoop_outer (P := P) (w := w) fn a.tmps ps assign body
    rw [← hW1]
    unfold recX
    exact hrun
  · simp only [resolve, hg]
    simp [go_sem]
  · intro f' hf'; simp [Target.leads] at hf'; subst hf'; exact hFg
  · simp [invoke, go_sem, eg]
  · exact hc

/-- One round that goes on. -/
theorem yield_X {l D : Nat} {fn : FuncId} {tmps : Array Value} {ps : Array Tmp} {assign body : Code} {encs : Array Value} {a₁ : Act} {W : World} {m : Nat} {rd : Loop} {K' : World → Prop} (hfn : F.fn fn)
    (hrd : rd = recX fn tmps ps assign body D .ready none) (hl : W.heap[l]? = some (.loop rd)) (hps : encs.size = ps.size)
    (hassign : ∀ (K : Act → World → Prop), K a₁ W → assign.wpIn (F.inRound l) m P (Exit.then K (fun _ _ _ => False)) { tmps := (ps.zip encs).foldl (fun t (p, v) => t.setIfInBounds p v) tmps, defers := [] } W)
    (hbody : ∀ rb : Loop, rb = recX fn tmps ps assign body D .busy none → body.wpIn (F.inRound l) m P (fun e _ W3 => e = .normal ∧ W3.heap[l]? = some (.loop rb) ∧ K' (W3.putObj l (.loop rd))) a₁ (W.putObj l (.loop rb))) :
    YieldAt F m P l encs W fun e W' => e = .returned (.bool true) ∧ K' W' := by
  subst hrd
  have hy := run_yield (P := P) (args := encs) hl hps
  refine ⟨fn, _, assign, body, hy, roundIn_of_wpIn hfn (hassign _ ⟨_, run_beginRound hl rfl, ?_⟩)⟩
  refine wpIn_mono (hbody _ rfl) ?_
  rintro e a3 W3 ⟨rfl, hl3, hk⟩
  have := run_endRound (P := P) none hl3
  exact ⟨_, _, this, rfl, hk⟩

theorem putObj_block {W : World} {l b : Nat} {o : Obj} (h : b ≠ l) : (W.putObj l o).heap[b]? = W.heap[b]? := World.putObj_heap_other h
theorem putObj_own {W : World} {l : Nat} {o : Obj} {base : Nat} {e : TypeId} {size k : Nat} {v : Value} {xs : List Value} (h : W.ownsRow base e size v k xs) (hne : ∀ j, v.ownBlock = some j → j ≠ l) : (W.putObj l o).ownsRow base e size v k xs := by
  obtain ⟨h1, h2 | ⟨g, cap, cur, rfl, hg, hh, r⟩⟩ := h
  · exact ⟨h1, .inl h2⟩
  · exact ⟨h1, .inr ⟨g, cap, cur, rfl, hg, (putObj_block (hne g rfl)).trans hh, r⟩⟩
theorem putObj_below {B : Nat} {w W : World} {l : Nat} {o : Obj} (h : Below B w W) (hl : B ≤ l) (hB : B ≤ W.heap.size) : Below B w (W.putObj l o) :=
  h.grown (grownBy_putObj' W l o) hB (fun k e => by cases e; exact hl)
theorem own_not_loop {w : World} {base : Nat} {e : TypeId} {size n : Nat} {v : Value} {xs : List Value} {b : Nat} {r : Loop} (h : w.ownsRow base e size v n xs) (hb : w.heap[b]? = some (.loop r)) : ∀ k, v.ownBlock = some k → k ≠ b := by
  rintro k hk rfl
  obtain ⟨h1, ⟨rfl, rfl⟩ | ⟨g, cap, cur, rfl, hg, hh, r⟩⟩ := h
  · simp [Value.ownBlock] at hk
  · have : g = k := by simpa [Value.ownBlock] using hk
    subst this
    rw [hh] at hb
    cases hb
theorem own_not_deferred {w : World} {base : Nat} {e : TypeId} {size n : Nat} {v : Value} {xs : List Value} {b : Nat} {r : Option (List Deferred)} (h : w.ownsRow base e size v n xs) (hb : w.heap[b]? = some (.deferred r)) : ∀ k, v.ownBlock = some k → k ≠ b := by
  rintro k hk rfl
  obtain ⟨h1, ⟨rfl, rfl⟩ | ⟨g, cap, cur, rfl, hg, hh, r⟩⟩ := h
  · simp [Value.ownBlock] at hk
  · have : g = k := by simpa [Value.ownBlock] using hk
    subst this
    rw [hh] at hb
    cases hb
end Go.Proofs.YtmbdiimenmnfjaaDoor
/- Walks: read. -/
namespace Go.Proofs.YtmbdiimenmnfjaaDoor
open Go.RowKit Go.Deep Go.Shelf
set_option linter.unusedVariables false
set_option linter.unusedSimpArgs false
attribute [local go_sem] Oper.semAt_some

theorem ta_bad (w : World) : (Instr.typeAssert (.iface 97 (.agg #[])) 20 97 true).run Tryd.prog w = .ok (.tuple #[.agg #[], .bool true]) w := by kernel_rfl

/-- The deferred function, entered by a frame that panics with 'malformed'. -/
theorem read1_panicking (m : Nat) (Bl Bk : Nat) (v k : Value) (older : List PanicEntry) (w : World) (hl : w.cell? ⟨Bl, 0, none⟩ = some v) (hlz : w.frozen? ⟨Bl, 0, none⟩ = false) (hk : w.cell? ⟨Bk, 0, none⟩ = some k) (hkz : w.frozen? ⟨Bk, 0, none⟩ = false) (hne : Bl ≠ Bk) :
    CallsDIn Fence.wide m Tryd.prog 68 #[.pointer (some ⟨Bl, 0, none⟩), .pointer (some ⟨Bk, 0, none⟩)] (.panicking ({ v := .iface 97 (.agg #[]), recovered := false } :: older)) w fun e u' w' =>
      e = .returned (.tuple #[]) ∧ u' = .panicking ({ v := .iface 97 (.agg #[]), recovered := true } :: older) ∧ w' = ((w.alloc (.cells #[] 97)).setCell ⟨Bl, 0, none⟩ (.slice none 0 0)).setCell ⟨Bk, 0, none⟩ (.bool false) := by
  have hBl : Bl < w.heap.size := World.block_lt_of_cell? w _ hl
  have hBk : Bk < w.heap.size := World.block_lt_of_cell? w _ hk
  have hne' : Bk ≠ Bl := fun e => hne e.symm
  refine callsDIn_of_wpSIn Tryd.func68 rfl trivial fun c₀ cs hu => ?_
  apply wpSIn_seq
  apply wpSIn_region
  simp [wpOpsSIn, go_sem, recoverD, hu, Tryd.ntmps68, Exit.thenS, ta_bad]
  apply wpSIn_seq
  apply wpSIn_region
  simp [wpOpsSIn, go_sem, Tryd.ntmps68, Exit.thenS, ta_bad]
  refine wpSIn_cond (t := true) (by simp [Act.eval, Array.replicate]) ?_
  simp only [if_true]
  apply wpSIn_seq
  apply wpSIn_seq
  apply wpSIn_region
  simp [wpOpsSIn, go_sem, Tryd.ntmps68, Exit.thenS, ta_bad]
  apply wpSIn_seq
  apply wpSIn_region
  simp [wpOpsSIn, go_sem, Tryd.ntmps68, Exit.thenS, ta_bad]
  refine wpSIn_cond (t := false) (by simp [Act.eval, Array.replicate]) ?_
  simp only [Bool.false_eq_true, if_false]
  refine wpSIn_of_wpIn rfl (wpIn_skip ?_)
  simp only [Exit.thenS]
  apply wpSIn_region
  simp [wpOpsSIn, go_sem, hl, hlz, hk, hkz, hne, hne', hBl, hBk, bodyPostS, results, Tryd.results68]

theorem read1_idle (m : Nat) (Bl Bk : Nat) (w : World) :
    CallsDIn Fence.wide m Tryd.prog 68 #[.pointer (some ⟨Bl, 0, none⟩), .pointer (some ⟨Bk, 0, none⟩)] .returning w fun e u' w' => e = .returned (.tuple #[]) ∧ u' = .returning ∧ w' = w := by
  refine callsDIn_of_wpSIn Tryd.func68 rfl trivial fun c₀ cs hu => ?_
  apply wpSIn_seq
  apply wpSIn_region
  simp [wpOpsSIn, go_sem, recoverD, hu, Tryd.ntmps68, Exit.thenS, ta_bad]
  apply wpSIn_seq
  apply wpSIn_region
  simp [wpOpsSIn, go_sem, Tryd.ntmps68, Exit.thenS, ta_bad]
  refine wpSIn_cond (t := false) (by simp [Act.eval, Array.replicate]) ?_
  simp only [Bool.false_eq_true, if_false]
  refine wpSIn_of_wpIn rfl (wpIn_skip ?_)
  cases c₀
  simp_all [bodyPostS, results, Tryd.results68]

/-- What holds of the world between two rounds of 'read'. -/
structure RJ (w : World) (B : Nat) (rd : Loop) (pre : List Int) (W : World) : Prop where
  rec_ : W.heap[B + 4]? = some (.loop rd)
  def_ : W.heap[B + 3]? = some (.deferred (some []))
  ok_ : W.heap[B + 1]? = some (.cells #[.bool false] 4 (0, 0))
  box : ∃ v, W.heap[B]? = some (.cells #[v] 49 (0, 0)) ∧ W.ownsRow B 46 1 v pre.length (numK .u16 pre) ∧ ∀ k, v.ownBlock = some k → k ≠ B + 2
  below : Below B w W

theorem below_st' {B : Nat} {w W : World} {p : Addr} {v : Value} (h : Below B w W) (hp : B ≤ p.block) : Below B w (W.setCell p v) := h.setCell hp v
theorem RJ.turn {w W W' : World} {B : Nat} {rd : Loop} {pre : List Int} (h : RJ w B rd pre W) (hg : W.grownBy W' (some (B + 2))) (hB : B ≤ W.heap.size) : RJ w B rd pre W' := by
  obtain ⟨h1, h2, h3, ⟨v, h4, h5, h6⟩, h7⟩ := h
  have hne : ∀ b, b ≠ B + 2 → ∀ k, some (B + 2) = some k → k ≠ b := fun b hb k e => by cases e; exact fun e2 => hb e2.symm
  exact ⟨grown_keep hg h1 (hne _ (by omega)), grown_keep hg h2 (hne _ (by omega)), grown_keep hg h3 (hne _ (by omega)),
    ⟨v, grown_keep hg h4 (hne _ (by omega)), h5.kept hg (by
      cases hv : v.ownBlock with
      | none => exact .inl rfl
      | some k => exact .inr (fun e => by cases e; exact h6 _ hv rfl)), h6⟩, h7.grown hg hB (fun k e => by cases e; omega)⟩

set_option maxRecDepth 100000 in
set_option maxHeartbeats 4000000 in
theorem read_in (m : Nat) (hm : 4 ≤ m) (s : ByteArray) (hs : s.size ≤ 100000) (w : World) (r : List Int) (ok : Bool) (h : readM (bts s) = (r, ok)) :
    CallsIn Fence.wide m Tryd.prog 45 #[.string s] w fun e w' => ∃ v, e = .returned (.tuple #[v, .bool ok]) ∧ w'.ownsRow w.heap.size 46 1 v r.length (numK .u16 r) ∧ Below w.heap.size w w' := by
  have hmf : ∀ (fn : Fn) (first cap : Array Value) (w : World), (Instr.makeFunc fn first cap).run Tryd.prog w = .ok (.func fn first cap) w := fun _ _ _ _ => rfl
  obtain ⟨i0, hi, hz0, hz1, hz2⟩ := info_parts info46
  have h1m : 1 ≤ m := by omega
  have H := Lib.hid h
  clear h
  refine callsIn_of_wp_marks Tryd.func45 rfl trivial ?_ rfl
  simp only [Tryd.ntmps45, List.size_toArray, List.length_cons, List.length_nil, Nat.reduceAdd, Nat.reduceSub, Array.replicate_succ, Array.replicate_zero, List.push_toArray, List.append_toArray, List.nil_append, List.cons_append]
  gi_wp2_with (refine ⟨trivial, ?_⟩; gi_at_call 69; refine (callsIn_wide.2 (units_any s _)).mono ?_; rintro e w1 ⟨rfl, rfl⟩)
  obtain ⟨W0, hW0⟩ : ∃ W0, ((w.alloc (.cells #[.slice none 0 0] 49)).alloc (.cells #[.bool false] 4)).alloc (.cells #[.string s] 9) = W0 := ⟨_, rfl⟩
  have hsz : W0.heap.size = w.heap.size + 3 := by rw [← hW0]; simp
  have hb0 : W0.heap[w.heap.size]? = some (.cells #[.slice none 0 0] 49 (0, 0)) := by rw [← hW0]; exact heap_al (heap_al (heap_alloc_new _ _))
  have hb1 : W0.heap[w.heap.size + 1]? = some (.cells #[.bool false] 4 (0, 0)) := by
    rw [← hW0]; have := heap_alloc_new (w.alloc (.cells #[.slice none 0 0] 49)) (.cells #[.bool false] 4); rw [World.size_alloc] at this; exact heap_al this
  have hb2 : W0.heap[w.heap.size + 2]? = some (.cells #[.string s] 9 (0, 0)) := by
    rw [← hW0]; have := heap_alloc_new ((w.alloc (.cells #[.slice none 0 0] 49)).alloc (.cells #[.bool false] 4)) (.cells #[.string s] 9); simp only [World.size_alloc] at this; exact this
  have hbw : Below w.heap.size w W0 := by rw [← hW0]; exact below_al (below_al (one_alloc _ _) _) _
  rw [hW0]
  obtain ⟨B, hB⟩ : ∃ B, w.heap.size = B := ⟨_, rfl⟩
  have HB := Lib.hid hB
  rw [hB] at hsz hb0 hb1 hb2 hbw ⊢
  clear hW0 hB
  have e2 : B + 1 + 1 = B + 2 := rfl
  rw [e2]
  clear e2
  refine wpIn_rangeFunc_X rfl h1m (gf := 86) (lb := #[.pointer (some ⟨B + 2, 0, none⟩)]) rfl trivial (enters_of Tryd.func86 (by kernel_rfl) rfl) (B + 4) (by omega) ?_
  intro fn rd _ hrd
  rw [hsz] at hrd ⊢
  have HRD := Lib.hid hrd
  clear hrd
  obtain ⟨W1, hW1⟩ : ∃ W1, (W0.alloc (.deferred (some []))).alloc (.loop rd) = W1 := ⟨_, rfl⟩
  have hJ0 : RJ w B rd [] W1 := by
    rw [← hW1]
    refine ⟨?_, ?_, heap_al (heap_al hb1), ⟨_, heap_al (heap_al hb0), World.ownsRow_nil _ _ _ _, fun k e => by simp [Value.ownBlock] at e⟩, (hbw.alloc (by omega) _).alloc (by simp; omega) _⟩
    · have := heap_alloc_new (W0.alloc (.deferred (some []))) (.loop rd)
      rw [World.size_alloc, hsz] at this
      exact this
    · have := heap_alloc_new W0 (.deferred (some []))
      rw [hsz] at this
      exact heap_al this
  have hbx : W1.heap[B + 2]? = some (.cells #[.string s] 9 (0, 0)) := by rw [← hW1]; exact heap_al (heap_al hb2)
  rw [hW1]
  clear hW1 hb0 hb1 hb2 hbw hsz
  refine (units1_in (m - 1) (by omega) (B + 4) (B + 2) s (by omega) (RJ w B rd) (fun pre W W' hJ hg => hJ.turn hg (by have := (one_cell hJ.ok_).2.2; omega)) ?_ W1 hbx hJ0).mono ?_
  · intro pre x W t hJ hbt hlen hx0 hx1
    have HJ := Lib.hid hJ
    have HBT := Lib.hid hbt
    clear hJ hbt
    refine yield_X (l := B + 4) (a₁ := ?a1) (K' := fun W' => RJ w B rd (pre ++ [x]) W' ∧ W'.heap[B + 2]? = W.heap[B + 2]?) trivial HRD.out HJ.out.rec_ rfl ?assign ?body
    case assign =>
      intro K hK
      have HK := Lib.hid hK
      clear hK
      gi_wp2
      exact HK.out
    case body =>
      intro rb hrb
      clear hrb
      obtain ⟨h1, h2, h3, ⟨v, h4, h5, h6⟩, h7⟩ := HJ.out
      obtain ⟨W2, hW2⟩ : ∃ W2, W.putObj (B + 4) (.loop rb) = W2 := ⟨_, rfl⟩
      have g1 : W2.heap[B + 4]? = some (.loop rb) := by rw [← hW2]; exact World.putObj_heap_same (Array.getElem?_eq_some_iff.1 h1).1
      have g2 : W2.heap[B + 3]? = some (.deferred (some [])) := by rw [← hW2]; exact (putObj_block (by omega)).trans h2
      have g3 : W2.heap[B + 1]? = some (.cells #[.bool false] 4 (0, 0)) := by rw [← hW2]; exact (putObj_block (by omega)).trans h3
      have g4 : W2.heap[B]? = some (.cells #[v] 49 (0, 0)) := by rw [← hW2]; exact (putObj_block (by omega)).trans h4
      have g5 : W2.ownsRow B 46 1 v pre.length (numK .u16 pre) := by rw [← hW2]; exact putObj_own h5 (own_not_loop h5 h1)
      have g6 : W2.heap[B + 2]? = some (.cells #[.string t] 9 (0, 0)) := by rw [← hW2]; exact (putObj_block (by omega)).trans HBT.out
      have g7 : Below B w W2 := by rw [← hW2]; exact putObj_below h7 (by omega) (by have := (one_cell h3).2.2; omega)
      rw [hW2]
      obtain ⟨Av, cv, rfl, hcv⟩ := own_is_slice g5
      obtain ⟨c0, z0, l0⟩ := one_cell g4
      have G1 := Lib.hid g1
      have G2 := Lib.hid g2
      have G3 := Lib.hid g3
      have G4 := Lib.hid g4
      have G5 := Lib.hid g5
      have G6 := Lib.hid g6
      have G7 := Lib.hid g7
      clear hW2 h1 h2 h3 h4 h5 h6 h7 g1 g2 g3 g4 g5 g6 g7
      gi_wp2_with (gi_at_builtin; refine wpListIn_append_own _ rfl _ _ 49 rfl B 46 i0 (.int .u16 0) 1 2 Tryd.underlying49 hi hz0 hz1 hz2 rfl (by decide) _ pre.length (numK .u16 pre) rfl (World.ownsRow.alloc G5.out _) ⟨W2.heap.size, 0, none⟩ 1 1 [.int .u16 x] rfl rfl (cell_new1 _ _ rfl _ _) (by simp [Value.oneCell']) (by simp only [maxLen]; omega) (by omega) (by simp; omega) ?_; intro v' w3 hown3 hgrow3 _; obtain ⟨g', cap', rfl⟩ := ownsRow_succ hown3; obtain ⟨gc0, gf0⟩ := grown_block hgrow3 B (by simp; omega) (fun k hk => own_ne_type G5.out G4.out (by decide) k hk); (have HO3 := Lib.hid hown3); (have HG3 := Lib.hid hgrow3); clear hown3 hgrow3)
      have k1 : w3.heap[B + 4]? = some (.loop rb) := grown_keep HG3.out (heap_al G1.out) (own_not_loop G5.out G1.out)
      have k2 : w3.heap[B + 3]? = some (.deferred (some [])) := grown_keep HG3.out (heap_al G2.out) (own_not_deferred G5.out G2.out)
      have k3 := grown_keep HG3.out (heap_al G3.out) (own_ne_type G5.out G3.out (by decide))
      have k4 := grown_keep HG3.out (heap_al G4.out) (own_ne_type G5.out G4.out (by decide))
      have k6 := grown_keep HG3.out (heap_al G6.out) (own_ne_type G5.out G6.out (by decide))
      have k7 : Below B w w3 := (G7.out.alloc (by omega) _).grown HG3.out (by simp; omega) (fun kk hk => (G5.out.lt kk hk).1)
      refine ⟨heap_far k1 (by omega), ⟨?_, ?_, ?_, ⟨.slice (some ⟨g', 0, none⟩) (pre.length + 1) cap', ?_, ?_, ?_⟩, ?_⟩, ?_⟩
      · exact World.putObj_heap_same (by rw [World.size_setCell]; exact (Array.getElem?_eq_some_iff.1 k1).1)
      · exact (putObj_block (by omega)).trans (heap_far k2 (by omega))
      · exact (putObj_block (by omega)).trans (heap_far k3 (by omega))
      · exact (putObj_block (by omega)).trans (one_put k4)
      · refine putObj_own ?_ (own_not_loop HO3.out k1)
        rw [List.length_append, numK_snoc]
        exact own_far HO3.out (own_ne_type HO3.out k4 (by decide))
      · exact own_ne_type HO3.out k6 (by decide)
      · exact putObj_below (below_st' k7 (Nat.le_refl _)) (by omega) (by rw [World.size_setCell]; have := (one_cell k3).2.2; omega)
      · rw [putObj_block (by omega), Below.heap_setCell _ _ _ _ (by simp), k6, HBT.out]
  · intro e W2 hU
    obtain ⟨U, hUU⟩ : ∃ U, unitsM (bts s) = U := ⟨_, rfl⟩
    have hH := H.out
    unfold readM at hH
    rw [hUU] at hU hH
    cases U with
    | none =>
      obtain ⟨rfl, pre, hJ⟩ := hU
      cases hH
      have HJ := Lib.hid hJ
      clear hJ
      simp only [rangePost]
      gi_wp2
      obtain ⟨h1, h2, h3, ⟨v, h4, h5, h6⟩, h7⟩ := HJ.out
      obtain ⟨W5, hW5⟩ : ∃ W5, W2.putObj (B + 3) (.deferred none) = W5 := ⟨_, rfl⟩
      have g3 : W5.heap[B + 1]? = some (.cells #[.bool false] 4 (0, 0)) := by rw [← hW5]; exact (putObj_block (by omega)).trans h3
      have g4 : W5.heap[B]? = some (.cells #[v] 49 (0, 0)) := by rw [← hW5]; exact (putObj_block (by omega)).trans h4
      have g7 : Below B w W5 := by rw [← hW5]; exact putObj_below h7 (by omega) (by have := (one_cell h3).2.2; omega)
      obtain ⟨c0, z0, l0⟩ := one_cell g4
      obtain ⟨c1, z1, l1⟩ := one_cell g3
      have f4 : (((W5.alloc (.cells #[] 97)).setCell ⟨B, 0, none⟩ (.slice none 0 0)).setCell ⟨B + 1, 0, none⟩ (.bool false)).heap[B]? = some (.cells #[.slice none 0 0] 49 (0, 0)) := heap_far (one_put (heap_al g4)) (by omega)
      have f3 : (((W5.alloc (.cells #[] 97)).setCell ⟨B, 0, none⟩ (.slice none 0 0)).setCell ⟨B + 1, 0, none⟩ (.bool false)).heap[B + 1]? = some (.cells #[.bool false] 4 (0, 0)) := one_put (heap_far (heap_al g3) (by omega))
      have f7 : Below B w (((W5.alloc (.cells #[] 97)).setCell ⟨B, 0, none⟩ (.slice none 0 0)).setCell ⟨B + 1, 0, none⟩ (.bool false)) := below_st' (below_st' (g7.alloc (by omega) _) (Nat.le_refl _)) (by simp)
      obtain ⟨d0, -, -⟩ := one_cell f4
      obtain ⟨d1, -, -⟩ := one_cell f3
      have eg := enters_of Tryd.func68 (by kernel_rfl) rfl
      refine ⟨by simp, .inl ⟨B + 3, W5, rfl, by rw [← hW5]; exact run_takeDeferred h2, ?_⟩⟩
      refine ⟨by simp, .inr ⟨fun _ => h1m, .func 68, #[.pointer (some ⟨B, 0, none⟩), .pointer (some ⟨B + 1, 0, none⟩)], 68, #[.pointer (some ⟨B, 0, none⟩), .pointer (some ⟨B + 1, 0, none⟩)], rfl, by simp [invoke, go_sem, eg], fun _ _ => trivial, ?_⟩⟩
      refine (read1_panicking (m - 1) B (B + 1) v (.bool false) [] W5 c0 z0 c1 z1 (by omega)).mono ?_
      rintro e u' w' ⟨rfl, rfl, rfl⟩
      simp [LeavesInM, LeavesIn, settle, results, Tryd.results45, go_sem, d0, d1]
      rw [HB.out]
      exact ⟨World.ownsRow_nil _ _ _ _, f7⟩
    | some ys =>
      obtain ⟨⟨v, rfl⟩, hJ⟩ := hU
      cases hH
      have HJ := Lib.hid hJ
      have hend := run_endLoop (P := Tryd.prog) hJ.rec_ (by rw [HRD.out]; simp [recX])
      have hpd : rd.pending = none := by rw [HRD.out]; rfl
      obtain ⟨h1, h2, h3, ⟨v, h4, h5, h6⟩, h7⟩ := hJ
      obtain ⟨W4, hW4⟩ : ∃ W4, W2.putObj (B + 4) (.loop { rd with state := .exhausted }) = W4 := ⟨_, rfl⟩
      have g2 : W4.heap[B + 3]? = some (.deferred (some [])) := by rw [← hW4]; exact (putObj_block (by omega)).trans h2
      have g3 : W4.heap[B + 1]? = some (.cells #[.bool false] 4 (0, 0)) := by rw [← hW4]; exact (putObj_block (by omega)).trans h3
      have g4 : W4.heap[B]? = some (.cells #[v] 49 (0, 0)) := by rw [← hW4]; exact (putObj_block (by omega)).trans h4
      have g5 : W4.ownsRow B 46 1 v r.length (numK .u16 r) := by rw [← hW4]; exact putObj_own h5 (own_not_loop h5 h1)
      have g7 : Below B w W4 := by rw [← hW4]; exact putObj_below h7 (by omega) (by have := (one_cell h3).2.2; omega)
      have hend2 : (Instr.endLoop (B + 4)).run Tryd.prog W2 = .ok none W4 := by rw [hend, hW4, hpd]
      refine ⟨none, W4, hend2, ?_⟩
      obtain ⟨Av, cv, rfl, hcv⟩ := own_is_slice g5
      obtain ⟨c0, z0, l0⟩ := one_cell g4
      obtain ⟨c1, z1, l1⟩ := one_cell g3
      have G2 := Lib.hid g2
      have G3 := Lib.hid g3
      have G4 := Lib.hid g4
      have G5 := Lib.hid g5
      have G7 := Lib.hid g7
      clear hW4 h1 h2 h3 h4 h5 h6 h7 g2 g3 g4 g5 g7 hend hend2 hpd HJ HRD hJ0 hbx hUU
      simp only
      gi_wp2
      have hdec : decide ((r.length : Int) ≤ 4096) = decide (r.length ≤ 4096) := by
        rw [decide_eq_decide]; omega
      rw [hdec]
      obtain ⟨W6, hW6⟩ : ∃ W6, (W4.setCell ⟨B, 0, none⟩ (.slice Av r.length cv)).setCell ⟨B + 1, 0, none⟩ (.bool (decide (r.length ≤ 4096))) = W6 := ⟨_, rfl⟩
      have f4 : W6.heap[B]? = some (.cells #[.slice Av r.length cv] 49 (0, 0)) := by rw [← hW6]; exact heap_far (one_put G4.out) (by omega)
      have f3 : W6.heap[B + 1]? = some (.cells #[.bool (decide (r.length ≤ 4096))] 4 (0, 0)) := by rw [← hW6]; exact one_put (heap_far G3.out (by omega))
      have f2 : W6.heap[B + 3]? = some (.deferred (some [])) := by rw [← hW6]; exact heap_far (heap_far G2.out (by omega)) (by omega)
      have f5 : W6.ownsRow B 46 1 (.slice Av r.length cv) r.length (numK .u16 r) := by rw [← hW6]; exact own_far (own_far G5.out (own_ne_type G5.out G4.out (by decide))) (own_ne_type G5.out G3.out (by decide))
      have f7 : Below B w W6 := by rw [← hW6]; exact below_st' (below_st' G7.out (Nat.le_refl _)) (by simp)
      rw [hW6]
      clear hW6
      obtain ⟨W7, hW7⟩ : ∃ W7, W6.putObj (B + 3) (.deferred none) = W7 := ⟨_, rfl⟩
      have g4 : W7.heap[B]? = some (.cells #[.slice Av r.length cv] 49 (0, 0)) := by rw [← hW7]; exact (putObj_block (by omega)).trans f4
      have g3 : W7.heap[B + 1]? = some (.cells #[.bool (decide (r.length ≤ 4096))] 4 (0, 0)) := by rw [← hW7]; exact (putObj_block (by omega)).trans f3
      have g5 : W7.ownsRow B 46 1 (.slice Av r.length cv) r.length (numK .u16 r) := by rw [← hW7]; exact putObj_own f5 (own_not_deferred f5 f2)
      have g7 : Below B w W7 := by rw [← hW7]; exact putObj_below f7 (by omega) (by have := (one_cell f3).2.2; omega)
      obtain ⟨d0, -, -⟩ := one_cell g4
      obtain ⟨d1, -, -⟩ := one_cell g3
      have eg := enters_of Tryd.func68 (by kernel_rfl) rfl
      refine ⟨by simp, .inl ⟨B + 3, W7, rfl, by rw [← hW7]; exact run_takeDeferred f2, ?_⟩⟩
      refine ⟨by simp, .inr ⟨fun _ => h1m, .func 68, #[.pointer (some ⟨B, 0, none⟩), .pointer (some ⟨B + 1, 0, none⟩)], 68, #[.pointer (some ⟨B, 0, none⟩), .pointer (some ⟨B + 1, 0, none⟩)], rfl, by simp [invoke, go_sem, eg], fun _ _ => trivial, ?_⟩⟩
      refine (read1_idle (m - 1) B (B + 1) W7).mono ?_
      rintro e u' w' ⟨rfl, rfl, rfl⟩
      simp [LeavesInM, LeavesIn, settle, results, Tryd.results45, go_sem, d0, d1]
      rw [HB.out]
      exact ⟨g5, g7⟩

theorem read_any (s : ByteArray) (hs : s.size ≤ 100000) (w : World) (r : List Int) (ok : Bool) (h : readM (bts s) = (r, ok)) :
    Calls Tryd.prog 45 #[.string s] w fun e w' => ∃ v, e = .returned (.tuple #[v, .bool ok]) ∧ w'.ownsRow w.heap.size 46 1 v r.length (numK .u16 r) ∧ Below w.heap.size w w' :=
  callsIn_wide.1 (read_in 4 (by omega) s hs w r ok h)
end Go.Proofs.YtmbdiimenmnfjaaDoor
/- Walks: rows, Up. -/
namespace Go.Proofs.YtmbdiimenmnfjaaDoor
open Go.RowKit Go.Deep
set_option linter.unusedVariables false
set_option linter.unusedSimpArgs false

/-- The table of upper case: rows of four. -/
def rowsL : List (Int × Int × Int × Int) := [(97, 122, 1, (-32)), (224, 246, 1, (-32)), (248, 254, 1, (-32)), (255, 255, 1, 121), (257, 311, 2, (-1)), (314, 328, 2, (-1)), (331, 375, 2, (-1)), (945, 961, 1, (-32)), (962, 962, 1, (-31)), (963, 969, 1, (-32)), (1072, 1103, 1, (-32)), (1104, 1119, 1, (-80)), (1121, 1153, 2, (-1))]
def rowV (r : Int × Int × Int × Int) : Value := .agg #[.int .i64 r.1, .int .i64 r.2.1, .int .i64 r.2.2.1, .int .i64 r.2.2.2]
def rowsV : Array Value := #[.int .i64 97, .int .i64 122, .int .i64 1, .int .i64 (-32), .int .i64 224, .int .i64 246, .int .i64 1, .int .i64 (-32), .int .i64 248, .int .i64 254, .int .i64 1, .int .i64 (-32), .int .i64 255, .int .i64 255, .int .i64 1, .int .i64 121, .int .i64 257, .int .i64 311, .int .i64 2, .int .i64 (-1), .int .i64 314, .int .i64 328, .int .i64 2, .int .i64 (-1), .int .i64 331, .int .i64 375, .int .i64 2, .int .i64 (-1), .int .i64 945, .int .i64 961, .int .i64 1, .int .i64 (-32), .int .i64 962, .int .i64 962, .int .i64 1, .int .i64 (-31), .int .i64 963, .int .i64 969, .int .i64 1, .int .i64 (-32), .int .i64 1072, .int .i64 1103, .int .i64 1, .int .i64 (-32), .int .i64 1104, .int .i64 1119, .int .i64 1, .int .i64 (-80), .int .i64 1121, .int .i64 1153, .int .i64 2, .int .i64 (-1)]
theorem build_0 (w : World) : (Instr.build 87 #[(0, .int .i64 97), (1, .int .i64 122), (2, .int .i64 1), (3, .int .i64 (-32))]).run Tryd.prog w = .ok (.agg #[.int .i64 97, .int .i64 122, .int .i64 1, .int .i64 (-32)]) w := by kernel_rfl
theorem build_1 (w : World) : (Instr.build 87 #[(0, .int .i64 224), (1, .int .i64 246), (2, .int .i64 1), (3, .int .i64 (-32))]).run Tryd.prog w = .ok (.agg #[.int .i64 224, .int .i64 246, .int .i64 1, .int .i64 (-32)]) w := by kernel_rfl
theorem build_2 (w : World) : (Instr.build 87 #[(0, .int .i64 248), (1, .int .i64 254), (2, .int .i64 1), (3, .int .i64 (-32))]).run Tryd.prog w = .ok (.agg #[.int .i64 248, .int .i64 254, .int .i64 1, .int .i64 (-32)]) w := by kernel_rfl
theorem build_3 (w : World) : (Instr.build 87 #[(0, .int .i64 255), (1, .int .i64 255), (2, .int .i64 1), (3, .int .i64 121)]).run Tryd.prog w = .ok (.agg #[.int .i64 255, .int .i64 255, .int .i64 1, .int .i64 121]) w := by kernel_rfl
theorem build_4 (w : World) : (Instr.build 87 #[(0, .int .i64 257), (1, .int .i64 311), (2, .int .i64 2), (3, .int .i64 (-1))]).run Tryd.prog w = .ok (.agg #[.int .i64 257, .int .i64 311, .int .i64 2, .int .i64 (-1)]) w := by kernel_rfl
theorem build_5 (w : World) : (Instr.build 87 #[(0, .int .i64 314), (1, .int .i64 328), (2, .int .i64 2), (3, .int .i64 (-1))]).run Tryd.prog w = .ok (.agg #[.int .i64 314, .int .i64 328, .int .i64 2, .int .i64 (-1)]) w := by kernel_rfl
theorem build_6 (w : World) : (Instr.build 87 #[(0, .int .i64 331), (1, .int .i64 375), (2, .int .i64 2), (3, .int .i64 (-1))]).run Tryd.prog w = .ok (.agg #[.int .i64 331, .int .i64 375, .int .i64 2, .int .i64 (-1)]) w := by kernel_rfl
theorem build_7 (w : World) : (Instr.build 87 #[(0, .int .i64 945), (1, .int .i64 961), (2, .int .i64 1), (3, .int .i64 (-32))]).run Tryd.prog w = .ok (.agg #[.int .i64 945, .int .i64 961, .int .i64 1, .int .i64 (-32)]) w := by kernel_rfl
theorem build_8 (w : World) : (Instr.build 87 #[(0, .int .i64 962), (1, .int .i64 962), (2, .int .i64 1), (3, .int .i64 (-31))]).run Tryd.prog w = .ok (.agg #[.int .i64 962, .int .i64 962, .int .i64 1, .int .i64 (-31)]) w := by kernel_rfl
theorem build_9 (w : World) : (Instr.build 87 #[(0, .int .i64 963), (1, .int .i64 969), (2, .int .i64 1), (3, .int .i64 (-32))]).run Tryd.prog w = .ok (.agg #[.int .i64 963, .int .i64 969, .int .i64 1, .int .i64 (-32)]) w := by kernel_rfl
theorem build_10 (w : World) : (Instr.build 87 #[(0, .int .i64 1072), (1, .int .i64 1103), (2, .int .i64 1), (3, .int .i64 (-32))]).run Tryd.prog w = .ok (.agg #[.int .i64 1072, .int .i64 1103, .int .i64 1, .int .i64 (-32)]) w := by kernel_rfl
theorem build_11 (w : World) : (Instr.build 87 #[(0, .int .i64 1104), (1, .int .i64 1119), (2, .int .i64 1), (3, .int .i64 (-80))]).run Tryd.prog w = .ok (.agg #[.int .i64 1104, .int .i64 1119, .int .i64 1, .int .i64 (-80)]) w := by kernel_rfl
theorem build_12 (w : World) : (Instr.build 87 #[(0, .int .i64 1121), (1, .int .i64 1153), (2, .int .i64 2), (3, .int .i64 (-1))]).run Tryd.prog w = .ok (.agg #[.int .i64 1121, .int .i64 1153, .int .i64 2, .int .i64 (-1)]) w := by kernel_rfl
theorem build_all (w : World) : (Instr.build 88 #[(0, .agg #[.int .i64 97, .int .i64 122, .int .i64 1, .int .i64 (-32)]), (1, .agg #[.int .i64 224, .int .i64 246, .int .i64 1, .int .i64 (-32)]), (2, .agg #[.int .i64 248, .int .i64 254, .int .i64 1, .int .i64 (-32)]), (3, .agg #[.int .i64 255, .int .i64 255, .int .i64 1, .int .i64 121]), (4, .agg #[.int .i64 257, .int .i64 311, .int .i64 2, .int .i64 (-1)]), (5, .agg #[.int .i64 314, .int .i64 328, .int .i64 2, .int .i64 (-1)]), (6, .agg #[.int .i64 331, .int .i64 375, .int .i64 2, .int .i64 (-1)]), (7, .agg #[.int .i64 945, .int .i64 961, .int .i64 1, .int .i64 (-32)]), (8, .agg #[.int .i64 962, .int .i64 962, .int .i64 1, .int .i64 (-31)]), (9, .agg #[.int .i64 963, .int .i64 969, .int .i64 1, .int .i64 (-32)]), (10, .agg #[.int .i64 1072, .int .i64 1103, .int .i64 1, .int .i64 (-32)]), (11, .agg #[.int .i64 1104, .int .i64 1119, .int .i64 1, .int .i64 (-80)]), (12, .agg #[.int .i64 1121, .int .i64 1153, .int .i64 2, .int .i64 (-1)])]).run Tryd.prog w = .ok (.agg rowsV) w := by kernel_rfl
theorem zero_88 (w : World) : (zeroValue 88).run Tryd.prog w = .ok (.agg (Array.replicate 52 (.int .i64 0))) w := by kernel_rfl
theorem info88 : (Tryd.prog.info? 88).map (·.size) = some 52 := by kernel_rfl


theorem wpList_bld {ops : Array Oper} {rest : List Oper} {o : Oper} {a : Act} {w : World} {Q : Exit → Act → World → Prop} (hg : o.guard = none) (t : TypeId) (parts : Array (Nat × Operand)) (ho : o.op = .build t parts)
    (d : Option Tmp) (hd : o.dst = d) (ps : Array (Nat × Value)) (v : Value) (hp : parts.map (fun (i, x) => (i, a.eval x)) = ps)
    (hb : ∀ w, (Instr.build t ps).run Tryd.prog w = .ok v w) (h : wpList Tryd.prog ops Q rest (a.put d v) w) : wpList Tryd.prog ops Q (o :: rest) a w := by
  subst hd hp
  refine wpList_plain hg fun K hK => ?_
  unfold Oper.wp execOp
  simp only [ho, Sem.run_bind, hb w, Result.andThen_ok]
  exact hK _ _ h

set_option maxRecDepth 100000 in
set_option maxHeartbeats 1000000 in
theorem rows_any (w : World) : Calls Tryd.prog 60 #[] w fun e w' => e = .returned (.agg rowsV) ∧ Below w.heap.size w w' := by
  obtain ⟨zs, hzs⟩ : ∃ zs, rowsV = zs := ⟨_, rfl⟩
  obtain ⟨z0, hz0⟩ : ∃ z0 : Array Value, Array.replicate 52 (Value.int .i64 0) = z0 := ⟨_, rfl⟩
  have hsz : zs.size = 52 := by rw [← hzs]; rfl
  have HZ0 : Hid (z0.size = 52) := Lib.hid (by rw [← hz0]; simp)
  have hone : zs.all (·.oneCell') = true := by rw [← hzs]; kernel_rfl
  have hzero := zero_88
  rw [hz0] at hzero
  have hall := build_all
  rw [hzs] at hall
  have hb0 := build_0
  obtain ⟨r0, hr0⟩ : ∃ r : Value, .agg #[.int .i64 97, .int .i64 122, .int .i64 1, .int .i64 (-32)] = r := ⟨_, rfl⟩
  rw [hr0] at hb0 hall
  have hb1 := build_1
  obtain ⟨r1, hr1⟩ : ∃ r : Value, .agg #[.int .i64 224, .int .i64 246, .int .i64 1, .int .i64 (-32)] = r := ⟨_, rfl⟩
  rw [hr1] at hb1 hall
  have hb2 := build_2
  obtain ⟨r2, hr2⟩ : ∃ r : Value, .agg #[.int .i64 248, .int .i64 254, .int .i64 1, .int .i64 (-32)] = r := ⟨_, rfl⟩
  rw [hr2] at hb2 hall
  have hb3 := build_3
  obtain ⟨r3, hr3⟩ : ∃ r : Value, .agg #[.int .i64 255, .int .i64 255, .int .i64 1, .int .i64 121] = r := ⟨_, rfl⟩
  rw [hr3] at hb3 hall
  have hb4 := build_4
  obtain ⟨r4, hr4⟩ : ∃ r : Value, .agg #[.int .i64 257, .int .i64 311, .int .i64 2, .int .i64 (-1)] = r := ⟨_, rfl⟩
  rw [hr4] at hb4 hall
  have hb5 := build_5
  obtain ⟨r5, hr5⟩ : ∃ r : Value, .agg #[.int .i64 314, .int .i64 328, .int .i64 2, .int .i64 (-1)] = r := ⟨_, rfl⟩
  rw [hr5] at hb5 hall
  have hb6 := build_6
  obtain ⟨r6, hr6⟩ : ∃ r : Value, .agg #[.int .i64 331, .int .i64 375, .int .i64 2, .int .i64 (-1)] = r := ⟨_, rfl⟩
  rw [hr6] at hb6 hall
  have hb7 := build_7
  obtain ⟨r7, hr7⟩ : ∃ r : Value, .agg #[.int .i64 945, .int .i64 961, .int .i64 1, .int .i64 (-32)] = r := ⟨_, rfl⟩
  rw [hr7] at hb7 hall
  have hb8 := build_8
  obtain ⟨r8, hr8⟩ : ∃ r : Value, .agg #[.int .i64 962, .int .i64 962, .int .i64 1, .int .i64 (-31)] = r := ⟨_, rfl⟩
  rw [hr8] at hb8 hall
  have hb9 := build_9
  obtain ⟨r9, hr9⟩ : ∃ r : Value, .agg #[.int .i64 963, .int .i64 969, .int .i64 1, .int .i64 (-32)] = r := ⟨_, rfl⟩
  rw [hr9] at hb9 hall
  have hb10 := build_10
  obtain ⟨r10, hr10⟩ : ∃ r : Value, .agg #[.int .i64 1072, .int .i64 1103, .int .i64 1, .int .i64 (-32)] = r := ⟨_, rfl⟩
  rw [hr10] at hb10 hall
  have hb11 := build_11
  obtain ⟨r11, hr11⟩ : ∃ r : Value, .agg #[.int .i64 1104, .int .i64 1119, .int .i64 1, .int .i64 (-80)] = r := ⟨_, rfl⟩
  rw [hr11] at hb11 hall
  have hb12 := build_12
  obtain ⟨r12, hr12⟩ : ∃ r : Value, .agg #[.int .i64 1121, .int .i64 1153, .int .i64 2, .int .i64 (-1)] = r := ⟨_, rfl⟩
  rw [hr12] at hb12 hall
  rw [hzs]
  have HSZ := Lib.hid hsz
  have HONE := Lib.hid hone
  clear hzs hz0 hsz hone hr0 hr1 hr2 hr3 hr4 hr5 hr6 hr7 hr8 hr9 hr10 hr11 hr12
  go_enter Tryd.func60, Tryd.ntmps60
  go_upto_region 1 with (fail)
  rename_i Q' K hK
  apply wp_region_lit
  refine wpList_bld rfl 87 _ rfl (some 1) rfl _ _ (by simp [Act.eval]) hb0 ?_
  refine wpList_frame (a' := { tmps := #[.pointer (some ⟨w.heap.size, 0, none⟩), r0, undef, undef, undef, undef, undef, undef, undef, undef, undef, undef, undef, undef, undef], defers := [] }) (by rfl) ?_
  refine wpList_bld rfl 87 _ rfl (some 2) rfl _ _ (by simp [Act.eval]) hb1 ?_
  refine wpList_frame (a' := { tmps := #[.pointer (some ⟨w.heap.size, 0, none⟩), r0, r1, undef, undef, undef, undef, undef, undef, undef, undef, undef, undef, undef, undef], defers := [] }) (by rfl) ?_
  refine wpList_bld rfl 87 _ rfl (some 3) rfl _ _ (by simp [Act.eval]) hb2 ?_
  refine wpList_frame (a' := { tmps := #[.pointer (some ⟨w.heap.size, 0, none⟩), r0, r1, r2, undef, undef, undef, undef, undef, undef, undef, undef, undef, undef, undef], defers := [] }) (by rfl) ?_
  refine wpList_bld rfl 87 _ rfl (some 4) rfl _ _ (by simp [Act.eval]) hb3 ?_
  refine wpList_frame (a' := { tmps := #[.pointer (some ⟨w.heap.size, 0, none⟩), r0, r1, r2, r3, undef, undef, undef, undef, undef, undef, undef, undef, undef, undef], defers := [] }) (by rfl) ?_
  refine wpList_bld rfl 87 _ rfl (some 5) rfl _ _ (by simp [Act.eval]) hb4 ?_
  refine wpList_frame (a' := { tmps := #[.pointer (some ⟨w.heap.size, 0, none⟩), r0, r1, r2, r3, r4, undef, undef, undef, undef, undef, undef, undef, undef, undef], defers := [] }) (by rfl) ?_
  refine wpList_bld rfl 87 _ rfl (some 6) rfl _ _ (by simp [Act.eval]) hb5 ?_
  refine wpList_frame (a' := { tmps := #[.pointer (some ⟨w.heap.size, 0, none⟩), r0, r1, r2, r3, r4, r5, undef, undef, undef, undef, undef, undef, undef, undef], defers := [] }) (by rfl) ?_
  refine wpList_bld rfl 87 _ rfl (some 7) rfl _ _ (by simp [Act.eval]) hb6 ?_
  refine wpList_frame (a' := { tmps := #[.pointer (some ⟨w.heap.size, 0, none⟩), r0, r1, r2, r3, r4, r5, r6, undef, undef, undef, undef, undef, undef, undef], defers := [] }) (by rfl) ?_
  refine wpList_bld rfl 87 _ rfl (some 8) rfl _ _ (by simp [Act.eval]) hb7 ?_
  refine wpList_frame (a' := { tmps := #[.pointer (some ⟨w.heap.size, 0, none⟩), r0, r1, r2, r3, r4, r5, r6, r7, undef, undef, undef, undef, undef, undef], defers := [] }) (by rfl) ?_
  refine wpList_bld rfl 87 _ rfl (some 9) rfl _ _ (by simp [Act.eval]) hb8 ?_
  refine wpList_frame (a' := { tmps := #[.pointer (some ⟨w.heap.size, 0, none⟩), r0, r1, r2, r3, r4, r5, r6, r7, r8, undef, undef, undef, undef, undef], defers := [] }) (by rfl) ?_
  refine wpList_bld rfl 87 _ rfl (some 10) rfl _ _ (by simp [Act.eval]) hb9 ?_
  refine wpList_frame (a' := { tmps := #[.pointer (some ⟨w.heap.size, 0, none⟩), r0, r1, r2, r3, r4, r5, r6, r7, r8, r9, undef, undef, undef, undef], defers := [] }) (by rfl) ?_
  refine wpList_bld rfl 87 _ rfl (some 11) rfl _ _ (by simp [Act.eval]) hb10 ?_
  refine wpList_frame (a' := { tmps := #[.pointer (some ⟨w.heap.size, 0, none⟩), r0, r1, r2, r3, r4, r5, r6, r7, r8, r9, r10, undef, undef, undef], defers := [] }) (by rfl) ?_
  refine wpList_bld rfl 87 _ rfl (some 12) rfl _ _ (by simp [Act.eval]) hb11 ?_
  refine wpList_frame (a' := { tmps := #[.pointer (some ⟨w.heap.size, 0, none⟩), r0, r1, r2, r3, r4, r5, r6, r7, r8, r9, r10, r11, undef, undef], defers := [] }) (by rfl) ?_
  refine wpList_bld rfl 87 _ rfl (some 13) rfl _ _ (by simp [Act.eval]) hb12 ?_
  refine wpList_frame (a' := { tmps := #[.pointer (some ⟨w.heap.size, 0, none⟩), r0, r1, r2, r3, r4, r5, r6, r7, r8, r9, r10, r11, r12, undef], defers := [] }) (by rfl) ?_
  refine wpList_bld rfl 88 _ rfl (some 14) rfl _ _ (by simp [Act.eval]) hall ?_
  refine wpList_frame (a' := { tmps := #[.pointer (some ⟨w.heap.size, 0, none⟩), r0, r1, r2, r3, r4, r5, r6, r7, r8, r9, r10, r11, r12, (.agg zs)], defers := [] }) (by rfl) ?_
  refine wpList_store_row rfl 88 (.tmp 0) (.tmp 14) rfl w.heap.size zs (by rfl) (by rfl) 88 z0 (heap_alloc_new _ _) (by rw [HSZ.out]; exact info88) (by rw [HSZ.out, HZ0.out]) HONE.out ?_
  refine wpList_nil ?_
  rw [World.setRow_alloc_new]
  refine hK _ _ ?_
  refine wp_ret ?_
  refine (bodyPost_ret (fn := Tryd.f60) (results_cell_row (p := 0) (ty := 88) (by rfl) _ _ w.heap.size 88 zs (0, 0) (.array 13 87) (by rfl) (heap_alloc_new _ _) (by kernel_rfl) rfl (by rw [HSZ.out]; exact info88)) (by rfl) ?_)
  exact ⟨rfl, below_al (Below.refl _ _) _⟩
end Go.Proofs.YtmbdiimenmnfjaaDoor
/- Walks: Up. -/
namespace Go.Proofs.YtmbdiimenmnfjaaDoor
open Go.RowKit Go.Deep
set_option linter.unusedVariables false
set_option linter.unusedSimpArgs false

/-- Does a row of the table speak of the unit? -/
def hitR (u : Int) (r : Int × Int × Int × Int) : Prop := r.1 ≤ u ∧ u ≤ r.2.1 ∧ (u - r.1) % r.2.2.1 = 0
instance (u : Int) (r : Int × Int × Int × Int) : Decidable (hitR u r) := by unfold hitR; infer_instance
def upL (u : Int) : List (Int × Int × Int × Int) → Int
  | [] => u
  | r :: rs => if hitR u r then u + r.2.2.2 else upL u rs
/-- The upper case of a unit. -/
def upM (u : Int) : Int := upL u rowsL

theorem row_of (k : Nat) (hk : k < 13) : ∃ f t s d : Int, rowsL.drop k = (f, t, s, d) :: rowsL.drop (k + 1) ∧ 97 ≤ f ∧ f ≤ t ∧ t ≤ 1153 ∧ 1 ≤ s ∧ s ≤ 2 ∧ -80 ≤ d ∧ d ≤ 121 ∧
    ∀ w : World, (Instr.index 88 (.agg rowsV) (.int .i64 (k : Int))).run Tryd.prog w = .ok (.agg #[.int .i64 f, .int .i64 t, .int .i64 s, .int .i64 d]) w := by
  have h : k = 0 ∨ k = 1 ∨ k = 2 ∨ k = 3 ∨ k = 4 ∨ k = 5 ∨ k = 6 ∨ k = 7 ∨ k = 8 ∨ k = 9 ∨ k = 10 ∨ k = 11 ∨ k = 12 := by omega
  rcases h with rfl | rfl | rfl | rfl | rfl | rfl | rfl | rfl | rfl | rfl | rfl | rfl | rfl <;>
    exact ⟨_, _, _, _, rfl, by decide, by decide, by decide, by decide, by decide, by decide, by decide, fun w => by kernel_rfl⟩

set_option maxRecDepth 100000 in
set_option maxHeartbeats 1000000 in
theorem up_any (w : World) (u : Int) (h0 : 0 ≤ u) (h1 : u ≤ 65535) : Calls Tryd.prog 31 #[.int .u16 u] w fun e w' => e = .returned (.int .u16 (upM u)) ∧ Below w.heap.size w w' := by
  obtain ⟨zs, hzs⟩ : ∃ zs, rowsV = zs := ⟨_, rfl⟩
  have hcall : ∀ w, Calls Tryd.prog 60 #[] w fun e w' => e = .returned (.agg zs) ∧ Below w.heap.size w w' := fun w => hzs ▸ rows_any w
  obtain ⟨U, hU⟩ : ∃ U, upM u = U := ⟨_, rfl⟩
  rw [hU]
  have HU := Lib.hid hU
  clear hU
  go_enter Tryd.func31, Tryd.ntmps31
  go_wp2_with (go_at_call 60; refine (hcall _).mono ?_; rintro e w2 ⟨rfl, hb2⟩)
  have HB2 := Lib.hid hb2
  have HBo := Lib.hid (⟨h0, h1⟩ : 0 ≤ u ∧ u ≤ 65535)
  clear hb2 hcall h0 h1
  go_loopw [9] (fun i wr => ∃ k : Nat, k ≤ 13 ∧ i = .int .i64 k ∧ upL u (rowsL.drop k) = upM u ∧ Below w.heap.size w wr) (fun i _ => 13 - (intOf i).toNat)
  case atStart => exact ⟨0, by omega, rfl, rfl, HB2.out⟩
  case round =>
    obtain ⟨k, hk, rfl, hm, hbk⟩ := hrel
    by_cases hk2 : k < 13
    · obtain ⟨f, t, s, d, hd, hf, hft, ht, hs1, hs2, hd1, hd2, hix⟩ := row_of k hk2
      rw [hzs] at hix
      have hc : decide ((k : Int) < 13) = true := by simp; omega
      have hback : ∀ W : World, Below wr.heap.size wr W → ¬ hitR u (f, t, s, d) → (∃ k' : Nat, k' ≤ 13 ∧ Value.int .i64 ((k : Int) + 1) = .int .i64 (k' : Int) ∧ upL u (rowsL.drop k') = upM u ∧ Below w.heap.size w W) ∧
          13 - (intOf (Value.int IntKind.i64 (↑k + 1))).toNat < 13 - (intOf (Value.int IntKind.i64 ↑k)).toNat := by
        intro W hW hn
        refine ⟨⟨k + 1, by omega, by simp, ?_, below_then hbk hbk.size hW⟩, by simp only [intOf]; omega⟩
        rw [← hm, hd]
        simp only [upL]
        rw [if_neg hn]
      have HBK := Lib.hid hback
      clear hback
      go_wp2
      all_goals first
        | (refine HBK.out _ (below_al (Below.refl _ _) _) ?_
           simp only [hitR]
           simp_all
           try omega)
        | skip
      go_ret
      refine ⟨?_, below_then hbk hbk.size (below_al (Below.refl _ _) _)⟩
      rw [← HU.out, ← hm, hd]
      simp only [upL]
      rw [if_pos ⟨by assumption, by assumption, by simp_all⟩]
      rfl
    · have hk3 : k = 13 := by omega
      subst hk3
      have hc : decide (((13 : Nat) : Int) < 13) = false := by decide
      go_wp2
      go_ret
      refine ⟨?_, hbk⟩
      rw [← HU.out, ← hm]
      rfl
end Go.Proofs.YtmbdiimenmnfjaaDoor
/- Walks: raised; bytes to a string. -/
namespace Go.Proofs.YtmbdiimenmnfjaaDoor
open Go.RowKit Go.Deep
set_option linter.unusedVariables false
set_option linter.unusedSimpArgs false

theorem row_bd (u : Int) (r : Int × Int × Int × Int) (hr : r ∈ rowsL) (h : hitR u r) : 0 ≤ u + r.2.2.2 ∧ u + r.2.2.2 ≤ 65535 := by
  simp only [rowsL, List.mem_cons, List.not_mem_nil, or_false] at hr
  unfold hitR at h
  rcases hr with rfl | rfl | rfl | rfl | rfl | rfl | rfl | rfl | rfl | rfl | rfl | rfl | rfl <;> simp only at h ⊢ <;> omega
theorem upL_bd (u : Int) (h0 : 0 ≤ u) (h1 : u ≤ 65535) : ∀ l, (∀ r ∈ l, r ∈ rowsL) → 0 ≤ upL u l ∧ upL u l ≤ 65535
  | [], _ => ⟨h0, h1⟩
  | r :: rs, h => by
    simp only [upL]
    split
    · exact row_bd u r (h r (List.mem_cons_self ..)) ‹_›
    · exact upL_bd u h0 h1 rs fun x hx => h x (List.mem_cons_of_mem _ hx)
theorem upM_bd (u : Int) (h0 : 0 ≤ u) (h1 : u ≤ 65535) : 0 ≤ upM u ∧ upM u ≤ 65535 := upL_bd u h0 h1 rowsL fun r hr => hr

/-- Whole numbers that fit a unit. -/
def U16 (xs : List Int) : Prop := ∀ x ∈ xs, 0 ≤ x ∧ x ≤ 65535
theorem U16.get {xs : List Int} (h : U16 xs) (i : Nat) : 0 ≤ xs.getD i 0 ∧ xs.getD i 0 ≤ 65535 := by
  rcases Nat.lt_or_ge i xs.length with hi | hi
  · rw [List.getD_eq_getElem?_getD, List.getElem?_eq_getElem hi]; exact h _ (List.getElem_mem hi)
  · rw [List.getD_eq_getElem?_getD, List.getElem?_eq_none hi]; simp
theorem U16.map_up {xs : List Int} (h : U16 xs) : U16 (xs.map upM) := by
  intro x hx
  obtain ⟨y, hy, rfl⟩ := List.mem_map.1 hx
  exact upM_bd y (h y hy).1 (h y hy).2

theorem nums_at {w : World} {base n g c : Nat} {e : TypeId} {k : IntKind} {xs : List Int} (h : w.ownsRow base e 1 (.slice (some ⟨g, 0, none⟩) n c) n (numK k xs)) (j : Nat) (hj : j < n) : w.cell? ⟨g, j, none⟩ = some (.int k (xs.getD j 0)) := by
  have hl : xs.length = n := by have := h.1; simpa [numK] using this
  have hc := h.cells (g := g) rfl j (.int k (xs.getD j 0)) (by
    simp only [numK, List.getElem?_map]
    rw [List.getElem?_eq_getElem (by omega)]
    simp [List.getD_eq_getElem?_getD, List.getElem?_eq_getElem (show j < xs.length by omega)])
  rwa [Addr.add_lit, Nat.zero_add] at hc
theorem numK_set (k : IntKind) (xs : List Int) (j : Nat) (v : Int) : (numK k xs).set j (.int k v) = numK k (xs.set j v) := by simp [numK, List.map_set]
theorem numK_rep (k : IntKind) (n : Nat) : List.replicate n (Value.int k 0) = numK k (List.replicate n 0) := by simp [numK]

/-- The first i of the upper cases, then zeros. -/
def halfUp (xs : List Int) (i : Nat) : List Int := (xs.take i).map upM ++ List.replicate (xs.length - i) 0
theorem halfUp_len (xs : List Int) (i : Nat) (h : i ≤ xs.length) : (halfUp xs i).length = xs.length := by simp [halfUp]; omega
theorem halfUp_set (xs : List Int) (i : Nat) (h : i < xs.length) : (halfUp xs i).set i (upM (xs.getD i 0)) = halfUp xs (i + 1) := by
  unfold halfUp
  have hl : ((xs.take i).map upM).length = i := by simp; omega
  rw [List.set_append_right _ _ (by omega), hl, Nat.sub_self]
  obtain ⟨m, hm⟩ : ∃ m, xs.length - i = m + 1 := ⟨xs.length - i - 1, by omega⟩
  rw [hm, show xs.length - (i + 1) = m by omega, List.replicate_succ, List.set_cons_zero, List.take_add_one, List.map_append, List.append_assoc]
  congr 1
  rw [List.getD_eq_getElem?_getD, List.getElem?_eq_getElem h]
  rfl

set_option maxRecDepth 100000 in
set_option maxHeartbeats 4000000 in
theorem raised_any (A : Option Addr) (c : Nat) (xs : List Int) (hn : xs.length ≤ 100000) (hx : U16 xs) (w : World) (hR : Rd w .u16 A xs.length xs) :
    Calls Tryd.prog 47 #[.slice A xs.length c] w fun e w' => ∃ v, e = .returned v ∧ w'.ownsRow w.heap.size 46 1 v xs.length (numK .u16 (xs.map upM)) ∧ Below w.heap.size w w' := by
  obtain ⟨i0, hi, hz0, hz1, hz2⟩ := info_parts info46
  have HR := Lib.hid hR
  have HX := Lib.hid hx
  clear hR hx
  go_enter Tryd.func47, Tryd.ntmps47
  go_wp2_with (refine wpList_make_full _ rfl _ _ 49 rfl w.heap.size 46 i0 _ 1 Tryd.underlying49 hi hz0 hz1 .i64 .i64 _ _ xs.length rfl rfl rfl rfl (by rw [hz2]; omega) (by simp only [maxLen]; omega) (Nat.le_refl _) ?_; intro w1 hown1 hgrow1; (have HO1 := Lib.hid hown1); (have HB1 := Lib.hid ((Below.refl w.heap.size w).grown hgrow1 (Nat.le_refl _) (fun k e => by cases e))); clear hown1 hgrow1)
  have emk : (madeCells (Value.int .u16 0).cells (xs.length * 1)).toList = numK .u16 (halfUp xs 0) := by
    rw [Nat.mul_one, show (Value.int .u16 0).cells = #[.int .u16 0] from rfl, toList_madeCells_one, numK_rep]; rfl
  have ho1 := HO1.out
  rw [emk] at ho1
  have HO := Lib.hid ho1
  obtain ⟨g, hg⟩ : ∃ g, w.heap.size = g := ⟨_, rfl⟩
  rw [hg] at HO HB1 ⊢
  have HG := Lib.hid hg
  clear emk ho1 HO1 hg
  go_loopw [11] (fun v W => ∃ i : Nat, v = .int .i64 i ∧ i ≤ xs.length ∧ Hid (W.ownsRow g 46 1 (.slice (some ⟨g, 0, none⟩) xs.length xs.length) xs.length (numK .u16 (halfUp xs i))) ∧ Hid (Below g w W)) (fun i _ => xs.length - (intOf i).toNat)
  case atStart => exact ⟨0, rfl, by omega, HO, HB1⟩
  case round =>
    clear HO HB1
    obtain ⟨i, rfl, hil, HO, HB⟩ := hrel
    by_cases hlt : i < xs.length
    · have hlti : (i : Int) < xs.length := by omega
      obtain ⟨ad, hA, hc⟩ := (HR.out.below (by rw [HG.out]; exact HB.out)).at_ i hlt
      subst hA
      obtain ⟨x, hx⟩ : ∃ x, xs.getD i 0 = x := ⟨_, rfl⟩
      rw [hx] at hc
      have hxb := HX.out.get i
      rw [hx] at hxb
      have HXX := Lib.hid hx
      have hub := upM_bd x hxb.1 hxb.2
      obtain ⟨U, hU⟩ : ∃ U, upM x = U := ⟨_, rfl⟩
      have hset : (halfUp xs i).set i U = halfUp xs (i + 1) := by rw [← hU, ← hx]; exact halfUp_set xs i hlt
      have hlen := halfUp_len xs (i + 1) (by omega)
      obtain ⟨ys, hys⟩ : ∃ ys, halfUp xs i = ys := ⟨_, rfl⟩
      rw [hys] at HO hset
      rw [hU] at hub
      have HU := Lib.hid hU
      have HSET := Lib.hid hset
      clear hx hU hset hys hlen
      go_wp2_with (go_at_call 31; refine (up_any _ x hxb.1 hxb.2).mono ?_; rintro e w2 ⟨rfl, hB⟩; rw [HU.out]; (have HO2 := Lib.hid (own_keep HO.out hB)); (have HB2 := Lib.hid (below_then HB.out (by have := HB.out.size; have := HG.out; omega) hB)); (have hc2 := nums_at HO2.out i hlt); (have hf2 := HO2.out.frozenAt); clear hB)
      refine ⟨⟨i + 1, by simp, by omega, Lib.hid ?_, Lib.hid (below_st' HB2.out (Nat.le_refl _))⟩, by simp only [intOf]; omega⟩
      have h1 := (World.ownsRow.stored HO2.out i (.int .u16 U)).1
      rw [numK_set, HSET.out] at h1
      exact h1
    · have hie : i = xs.length := by omega
      subst hie
      have hlti : ¬ ((xs.length : Int) < xs.length) := by omega
      have he : halfUp xs xs.length = xs.map upM := by simp [halfUp]
      rw [he] at HO
      go_wp2
      go_ret
      rw [HG.out]
      exact ⟨_, rfl, HO.out, HB.out⟩
end Go.Proofs.YtmbdiimenmnfjaaDoor
/- Walks: text, String, Upper. -/
namespace Go.Proofs.YtmbdiimenmnfjaaDoor
open Go.RowKit Go.Deep
set_option linter.unusedVariables false
set_option linter.unusedSimpArgs false

/-- The string of some bytes. -/
def mkB (xs : List Int) : ByteArray := xs.foldl (fun r n => r.push (UInt8.ofNat n.toNat)) ByteArray.empty
theorem toList_push (r : ByteArray) (b : UInt8) : (r.push b).data.toList = r.data.toList ++ [b] := by
  show (r.data.push b).toList = _
  rw [Array.toList_push]
theorem bts_push (r : ByteArray) (n : Int) (h0 : 0 ≤ n) (h1 : n ≤ 255) : bts (r.push (UInt8.ofNat n.toNat)) = bts r ++ [n] := by
  unfold bts
  rw [toList_push, List.map_append]
  congr 1
  simp only [List.map_cons, List.map_nil]
  have : (UInt8.ofNat n.toNat).toNat = n.toNat := by simp [UInt8.toNat_ofNat']; omega
  rw [this]
  congr 1
  omega
theorem bts_fold : ∀ (xs : List Int) (r : ByteArray), (∀ x ∈ xs, 0 ≤ x ∧ x ≤ 255) → bts (xs.foldl (fun r n => r.push (UInt8.ofNat n.toNat)) r) = bts r ++ xs
  | [], r, _ => by simp
  | x :: xs, r, h => by
    have hx := h x (List.mem_cons_self ..)
    rw [List.foldl_cons, bts_fold xs _ (fun y hy => h y (List.mem_cons_of_mem _ hy)), bts_push r x hx.1 hx.2, List.append_assoc]
    rfl
theorem bts_mkB (xs : List Int) (h : ∀ x ∈ xs, 0 ≤ x ∧ x ≤ 255) : bts (mkB xs) = xs := by
  rw [mkB, bts_fold xs _ h]; rfl
theorem mkB_bts (s : ByteArray) : mkB (bts s) = s := bts_inj (bts_mkB _ (bts_range s))

theorem conv_rd (w : World) (A : Option Addr) (c : Nat) (xs : List Int) (n : Nat) (h : Rd w .u8 A n xs) : (convert 26 9 (.slice A n c)).run Tryd.prog w = .ok (.string (mkB xs)) w := by
  rw [run_convert_bytes_string w 26 9 5 A n c Tryd.underlying26 Tryd.underlying5 Tryd.underlying9]
  have hl := h.len
  cases A with
  | none =>
    have : n = 0 := by
      rcases Nat.eq_zero_or_pos n with h0 | h0
      · exact h0
      · obtain ⟨_, e, _⟩ := h.at_ 0 h0; cases e
    subst this
    have : xs = [] := List.length_eq_zero_iff.1 hl
    subst this
    rfl
  | some ad =>
    refine run_bytesToString w ad n c xs ?_
    have := run_loadCells_list (P := Tryd.prog) w ad (xs.map (Value.int .u8)) (fun j v hv => by
      rw [List.getElem?_map] at hv
      obtain ⟨x, hx, rfl⟩ := Option.map_eq_some_iff.1 hv
      obtain ⟨hj, hxj⟩ := List.getElem?_eq_some_iff.1 hx
      obtain ⟨ad', e, hc⟩ := h.at_ j (by omega)
      cases e
      rw [hc, List.getD_eq_getElem?_getD, hx]
      rfl)
    rw [List.length_map, hl] at this
    exact this

/-- The bytes of a code point. -/
def encB (c : Int) : List Int :=
  if c < 128 then [c] else if c < 2048 then [192 + c / 64, 128 + c % 64] else if c < 65536 then [224 + c / 4096, 128 + c / 64 % 64, 128 + c % 64]
  else [240 + c / 262144, 128 + c / 4096 % 64, 128 + c / 64 % 64, 128 + c % 64]
/-- Do two units make one code point? -/
def pairU (c d : Int) : Prop := 55296 ≤ c ∧ c < 56320 ∧ 56320 ≤ d ∧ d < 57344
instance (c d : Int) : Decidable (pairU c d) := by unfold pairU; infer_instance
/-- The bytes of units. -/
def textM : List Int → List Int
  | [] => []
  | [c] => encB c
  | c :: d :: r => if pairU c d then encB (65536 + (c - 55296) * 1024 + d - 56320) ++ textM r else encB c ++ textM (d :: r)

theorem own_box {W : World} {base : Nat} {e e' : TypeId} {size n b : Nat} {v u : Value} {xs : List Value} {cs : Array Value} (h : W.ownsRow base e size v n xs) (hb : W.heap[b]? = some (.cells cs e' (0, 0))) (hne : e ≠ e') (p : Nat) : (W.setCell ⟨b, p, none⟩ u).ownsRow base e size v n xs :=
  own_far h (p := ⟨b, p, none⟩) (own_ne_type h hb hne)

/-- The box of the bytes that are being written. -/
structure TS (w : World) (B : Nat) (ys : List Int) (W : World) : Prop where
  box : ∃ v, W.heap[B]? = some (.cells #[v] 26 (0, 0)) ∧ W.ownsRow B 5 1 v ys.length (numK .u8 ys)
  below : Below B w W

/-- An append of bytes as one step of a region that draws. -/
theorem step_app1 {ops : Array Oper} {o : Oper} {a : Act} {w : World} {K : Act → World → Prop} {Q : Exit → Act → World → Prop} {E : Prop}
    (hg : o.guard = none) (s x : Operand) (hop : o.op = Op.call { callee := Callee.builtin Builtin.append, args := #[s, x], argTypes := #[26, 26] })
    (base : Nat) (v : Value) (n : Nat) (xs : List Value) (hs : a.eval s = v) (hown : w.ownsRow base 5 1 v n xs) (ad : Addr) (m c : Nat) (news : List Value) (hx : a.eval x = .slice (some ad) m c)
    (hl : news.length = m) (hnews : ∀ j u, news[j]? = some u → w.cell? (ad.add j) = some u) (h1 : ∀ u ∈ news, u.oneCell' = true) (hm : n + m ≤ 1000000) (hbase : base ≤ w.heap.size)
    (hK : ∀ v' w', w'.ownsRow base 5 1 v' (n + m) (xs ++ news) → w.grownBy w' v.ownBlock → K (a.put o.dst v') w') :
    if Region.wanted o (yielded ops a.tmps) = true then Oper.wp Tryd.prog o a w K Q else E := by
  have hw : Region.wanted o (yielded ops a.tmps) = true := by simp [Region.wanted, hg]
  obtain ⟨i0, hi, hz0, hz1, hz2⟩ := info_parts info5
  rw [if_pos hw]
  exact wp_append_own w s x 26 hop base 5 i0 (.int .u8 0) 1 1 Tryd.underlying26 hi hz0 hz1 hz2 rfl (by decide) v n xs hs hown ad m c news hx (by omega) hnews h1 (by simp only [maxLen]; omega) (by omega) hbase (fun v' w' k1 k2 _ => hK v' w' k1 k2)

set_option maxRecDepth 100000 in
set_option maxHeartbeats 4000000 in
theorem more_any (w : World) (B : Nat) (ys : List Int) (W : World) (h : TS w B ys W) (hB : w.heap.size ≤ B) (hl : ys.length ≤ 200000) (c : Int) (k : Nat) (hc : 0 ≤ c ∧ c ≤ 1114111) (hk : k = 0 ∨ k = 6 ∨ k = 12) :
    Calls Tryd.prog 83 #[.int .i64 c, .int .i64 (k : Int), .pointer (some ⟨B, 0, none⟩)] W fun e W' => (∃ u, e = .returned u) ∧ TS w B (ys ++ [128 + c / 2 ^ k % 64]) W' := by
  obtain ⟨i0, hi, hz0, hz1, hz2⟩ := info_parts info5
  obtain ⟨⟨v, hb, ho⟩, hbw⟩ := h
  obtain ⟨Av, cv, rfl, hcv⟩ := own_is_slice ho
  obtain ⟨c0, z0, l0⟩ := one_cell hb
  have HO := Lib.hid ho
  have HBX := Lib.hid hb
  have HBW := Lib.hid hbw
  clear ho hb hbw
  have hm1 : 0 ≤ c / 2 ^ k := Int.ediv_nonneg hc.1 (Int.le_of_lt (Int.pow_pos (by decide)))
  obtain ⟨X, hX⟩ : ∃ X, c / 2 ^ k = X := ⟨_, rfl⟩
  rw [hX] at hm1 ⊢
  have hX' : c / 2 ^ k = X := hX
  have e1 : bits BinOp.and .i64 X 63 = X % 64 := by exact bits_mask .i64 62 (by decide) wraps_i64' 6 (by decide) X hm1 (by have := Int.ediv_le_self (b := 2 ^ k) hc.1; omega)
  have hmd : 0 ≤ X % 64 ∧ X % 64 < 64 := ⟨Int.emod_nonneg _ (by decide), Int.emod_lt_of_pos _ (by decide)⟩
  have e2 : IntKind.i64.wrap (128 + X % 64) = 128 + X % 64 := IntWalk.i64_in _ (by omega)
  have e3 : IntKind.u8.wrap (128 + X % 64) = 128 + X % 64 := Int.emod_eq_of_lt (by omega) (by simp [IntKind.bits]; omega)
  go_enter Tryd.func83, Tryd.ntmps83
  go_region_law (refine step_app1 rfl _ _ rfl B _ ys.length (numK .u8 ys) rfl (World.ownsRow.drew (World.ownsRow.alloc HO.out _)) ⟨_, 0, none⟩ 1 1 [.int .u8 (128 + X % 64)] rfl rfl (fun j u h => cell_new1 W _ rfl _ _ j u h) (by simp [Value.oneCell']) (by omega) (by simp; omega) ?_; intro v' w3 hown3 hgrow3; obtain ⟨g', cap', rfl⟩ := ownsRow_succ hown3; (have HO3 := Lib.hid hown3); (have HB3 := Lib.hid (grown_keep hgrow3 (heap_al HBX.out) (own_ne_type HO.out HBX.out (by decide)))); (have HW3 := Lib.hid ((HBW.out.alloc (by have := HBW.out.size; omega) _).grown (row := (Value.slice Av ys.length cv).ownBlock) ⟨hgrow3.os, hgrow3.tape, hgrow3.output, hgrow3.size, hgrow3.block⟩ (by simp; omega) (fun kk hk => (HO.out.lt kk hk).1))); obtain ⟨c3, z3, l3⟩ := one_cell HB3.out; clear hown3 hgrow3)
  all_goals
    refine ⟨rfl, .tuple #[], by simp [results, Tryd.results83, go_sem], ⟨_, rfl⟩, ⟨_, one_put HB3.out, ?_⟩, below_st' HW3.out (Nat.le_refl _)⟩
    rw [List.length_append, numK_append]
    exact own_box HO3.out HB3.out (by decide) 0

theorem ts_step {w w3 : World} {B : Nat} {ys : List Int} {x : Int} {v : Value} {g' cap' : Nat} (hB3 : w3.heap[B]? = some (.cells #[v] 26 (0, 0))) (hO3 : w3.ownsRow B 5 1 (.slice (some ⟨g', 0, none⟩) (ys.length + 1) cap') (ys.length + 1) (numK .u8 ys ++ [.int .u8 x])) (hW3 : Below B w w3) :
    TS w B (ys ++ [x]) (w3.setCell ⟨B, 0, none⟩ (.slice (some ⟨g', 0, none⟩) (ys.length + 1) cap')) := by
  refine ⟨⟨_, one_put hB3, ?_⟩, below_st' hW3 (Nat.le_refl _)⟩
  rw [List.length_append, numK_append]
  exact own_box hO3 hB3 (by decide) 0
theorem more_lit (w : World) (B : Nat) (ys : List Int) (W : World) (h : TS w B ys W) (hB : w.heap.size ≤ B) (hl : ys.length ≤ 200000) (c k : Int) (hc : 0 ≤ c ∧ c ≤ 1114111) (hk : k = 0 ∨ k = 6 ∨ k = 12) :
    Calls Tryd.prog 83 #[.int .i64 c, .int .i64 k, .pointer (some ⟨B, 0, none⟩)] W fun e W' => (∃ u, e = .returned u) ∧ TS w B (ys ++ [128 + c / 2 ^ k.toNat % 64]) W' := by
  have := more_any w B ys W h hB hl c k.toNat hc (by omega)
  rw [show ((k.toNat : Nat) : Int) = k by omega] at this
  exact this
theorem TS.parts {w W : World} {B : Nat} {ys : List Int} (h : TS w B ys W) : ∃ Av cv, W.heap[B]? = some (.cells #[.slice Av ys.length cv] 26 (0, 0)) ∧ W.ownsRow B 5 1 (.slice Av ys.length cv) ys.length (numK .u8 ys) ∧ ys.length ≤ cv := by
  obtain ⟨⟨v, hb, ho⟩, -⟩ := h
  obtain ⟨Av, cv, rfl, hcv⟩ := own_is_slice ho
  exact ⟨Av, cv, hb, ho, hcv⟩
theorem textM_pair (c d : Int) (r : List Int) (h : pairU c d) : textM (c :: d :: r) = encB (65536 + (c - 55296) * 1024 + d - 56320) ++ textM r := by simp only [textM]; rw [if_pos h]
theorem textM_one (c : Int) (r : List Int) (h : ∀ d r', r = d :: r' → ¬ pairU c d) : textM (c :: r) = encB c ++ textM r := by
  cases r with
  | nil => simp [textM]
  | cons d r => simp only [textM]; rw [if_neg (h d r rfl)]
theorem encB_len (c : Int) : (encB c).length ≤ 4 := by
  unfold encB; split
  · simp
  split
  · simp
  split <;> simp
theorem encB_1 (x : Int) (h : x < 128) : encB x = [x] := by unfold encB; rw [if_pos h]
theorem encB_2 (x : Int) (h : 128 ≤ x) (h2 : x < 2048) : encB x = [192 + x / 64] ++ [128 + x / 2 ^ Int.toNat 0 % 64] := by
  unfold encB; rw [if_neg (by omega), if_pos h2]; simp
theorem encB_3 (x : Int) (h : 2048 ≤ x) (h2 : x < 65536) : encB x = [224 + x / 4096] ++ [128 + x / 2 ^ Int.toNat 6 % 64] ++ [128 + x / 2 ^ Int.toNat 0 % 64] := by
  unfold encB; rw [if_neg (by omega), if_neg (by omega), if_pos h2]; simp
theorem encB_4 (x : Int) (h : 65536 ≤ x) : encB x = [240 + x / 262144] ++ [128 + x / 2 ^ Int.toNat 12 % 64] ++ [128 + x / 2 ^ Int.toNat 6 % 64] ++ [128 + x / 2 ^ Int.toNat 0 % 64] := by
  unfold encB; rw [if_neg (by omega), if_neg (by omega), if_neg (by omega)]; simp

/-- The end of a round that has written one code point. -/
theorem text_end1 {xs pre L : List Int} {i : Nat} {x : Int} {w W : World} {B : Nat} (hlt : i < xs.length) (HTX : Hid (textM xs = pre ++ textM (xs.drop i))) (HDR : Hid (xs.drop i = x :: xs.drop (i + 1)))
    (HNP : ∀ d r', xs.drop (i + 1) = d :: r' → ¬ pairU x d) (hpl : pre.length ≤ 4 * i) (he : encB x = L) (hT : Hid (TS w B (pre ++ L) W)) :
    (∃ (i1 : Nat) (pre1 : List Int), Value.int IntKind.i64 ((i : Int) + 1) = Value.int IntKind.i64 ↑i1 ∧ i1 ≤ xs.length ∧ Hid (textM xs = pre1 ++ textM (List.drop i1 xs)) ∧ pre1.length ≤ 4 * i1 ∧ Hid (TS w B pre1 W)) ∧
      xs.length - (intOf (Value.int IntKind.i64 ((i : Int) + 1))).toNat < xs.length - (intOf (Value.int IntKind.i64 ↑i)).toNat := by
  refine ⟨⟨i + 1, _, by simp, by omega, Lib.hid ?_, ?_, hT⟩, by simp only [intOf]; omega⟩
  · rw [HTX.out, HDR.out, textM_one x _ HNP, he]; simp only [List.append_assoc]
  · have : (encB x).length ≤ 4 := encB_len _
    rw [he] at this
    rw [List.length_append]
    omega
theorem text_end2 {xs pre L : List Int} {i : Nat} {x y : Int} {w W : World} {B : Nat} (hlt : i + 1 < xs.length) (HTX : Hid (textM xs = pre ++ textM (xs.drop i))) (HDR : Hid (xs.drop i = x :: xs.drop (i + 1)))
    (HD2 : Hid (xs.drop (i + 1) = y :: xs.drop (i + 2))) (HP : pairU x y) (hpl : pre.length ≤ 4 * i) (he : encB (65536 + (x - 55296) * 1024 + y - 56320) = L) (hT : Hid (TS w B (pre ++ L) W)) :
    (∃ (i1 : Nat) (pre1 : List Int), Value.int IntKind.i64 ((i : Int) + 1 + 1) = Value.int IntKind.i64 ↑i1 ∧ i1 ≤ xs.length ∧ Hid (textM xs = pre1 ++ textM (List.drop i1 xs)) ∧ pre1.length ≤ 4 * i1 ∧ Hid (TS w B pre1 W)) ∧
      xs.length - (intOf (Value.int IntKind.i64 ((i : Int) + 1 + 1))).toNat < xs.length - (intOf (Value.int IntKind.i64 ↑i)).toNat := by
  refine ⟨⟨i + 2, _, by simp; omega, by omega, Lib.hid ?_, ?_, hT⟩, by simp only [intOf]; omega⟩
  · rw [HTX.out, HDR.out, HD2.out, textM_pair x y _ HP, he]; simp only [List.append_assoc]
  · have : (encB (65536 + (x - 55296) * 1024 + y - 56320)).length ≤ 4 := encB_len _
    rw [he] at this
    rw [List.length_append]
    omega
theorem ap2 (p a b : List Int) : p ++ a ++ b = p ++ (a ++ b) := List.append_assoc ..
theorem ap3 (p a b c : List Int) : p ++ a ++ b ++ c = p ++ (a ++ b ++ c) := by simp only [List.append_assoc]
theorem ap4 (p a b c d : List Int) : p ++ a ++ b ++ c ++ d = p ++ (a ++ b ++ c ++ d) := by simp only [List.append_assoc]

end Go.Proofs.YtmbdiimenmnfjaaDoor
/- The units of a string: how many, how great. -/
namespace Go.Proofs.YtmbdiimenmnfjaaDoor
open Go.RowKit
set_option linter.unusedVariables false
set_option linter.unusedSimpArgs false

theorem getD_nonneg {s : List Int} (h : ∀ x ∈ s, 0 ≤ x ∧ x ≤ 255) (i : Nat) : 0 ≤ s.getD i 0 := by
  rcases Nat.lt_or_ge i s.length with hi | hi
  · rw [List.getD_eq_getElem?_getD, List.getElem?_eq_getElem hi]; exact (h _ (List.getElem_mem hi)).1
  · rw [List.getD_eq_getElem?_getD, List.getElem?_eq_none hi]; simp
theorem mem_drop' {s : List Int} {n : Nat} {x : Int} (h : x ∈ s.drop n) : x ∈ s := List.mem_of_mem_drop h
theorem goM_ub (s : List Int) : ∀ k i c r, goM s k i c = some r → 0 ≤ c → r + 1 ≤ (c + 1) * 64 ^ k
  | 0, i, c, r, h, hc => by cases h; simp
  | k + 1, i, c, r, h, hc => by
    unfold goM at h
    cases hx : contM s i with
    | none => rw [hx] at h; cases h
    | some x =>
      rw [hx] at h
      have hb := contM_bd hx
      have := goM_ub s k (i + 1) (c * 64 + x) r h (by omega)
      have h2 : (c * 64 + x + 1) * 64 ^ k ≤ ((c + 1) * 64) * 64 ^ k := Int.mul_le_mul_of_nonneg_right (by omega) (Int.pow_nonneg (by decide))
      rw [Int.pow_succ]
      have h3 : (c + 1) * (64 ^ k * 64) = ((c + 1) * 64) * 64 ^ k := by rw [Int.mul_comm (64 ^ k) 64, Int.mul_assoc]
      omega
theorem pointC_ub {s : List Int} {size : Nat} {least c0 c : Int} {n : Nat} (h : pointC s size least c0 = some (c, n)) (hc : 0 ≤ c0) : c + 1 ≤ (c0 + 1) * 64 ^ (size - 1) := by
  unfold pointC at h
  cases hg : goM s (size - 1) 1 c0 with
  | none => rw [hg] at h; cases h
  | some r =>
    rw [hg] at h
    have hb := goM_ub s _ _ _ _ hg hc
    simp only [pickP] at h
    split at h
    · cases h
    · cases h; exact hb
theorem pointM_two {s : List Int} {c : Int} {n : Nat} (h0 : 0 ≤ s.getD 0 0) (h : pointM s = some (c, n)) : 65536 ≤ c → 2 ≤ n := by
  intro hc
  unfold pointM at h
  repeat' split at h
  · cases h; omega
  · have := pointC_bd h (by omega) (by omega); omega
  · have := pointC_bd h (by omega) (by omega); omega
  · have := pointC_bd h (by omega) (by omega); omega
  · cases h
/-- A code point of two units has four bytes. -/
theorem pointM_len {s : List Int} {c : Int} {n : Nat} (hs : s ≠ []) (h0 : ∀ x ∈ s, 0 ≤ x ∧ x ≤ 255) (h : pointM s = some (c, n)) : 0 ≤ c ∧ c ≤ 1114111 ∧ n ≤ s.length ∧ (encU c).length ≤ n := by
  have hb := pointM_bd hs (getD_nonneg h0 0) h
  refine ⟨hb.1, hb.2.1, hb.2.2.2.2, ?_⟩
  unfold encU
  split
  · simp; omega
  · have := pointM_two (getD_nonneg h0 0) h (by omega); simp; omega
theorem unitsF_props : ∀ (f : Nat) (s : List Int) (b : Int) (l : List Int), (∀ x ∈ s, 0 ≤ x ∧ x ≤ 255) → unitsF f s b = some l → (∀ u ∈ l, 0 ≤ u ∧ u ≤ 65535) ∧ l.length ≤ s.length
  | 0, s, b, l, _, h => by simp [unitsF] at h
  | f + 1, s, b, l, hs, h => by
    simp only [unitsF] at h
    split at h
    · cases h; simp
    · rename_i hne
      cases hp : pointM s with
      | none => rw [hp] at h; simp [stepU] at h
      | some cn =>
        obtain ⟨c, n⟩ := cn
        rw [hp] at h
        simp only [stepU] at h
        split at h
        · cases h
        · obtain ⟨l', hl', rfl⟩ := Option.map_eq_some_iff.1 h
          have hb := pointM_len hne hs hp
          have ih := unitsF_props f (s.drop n) c l' (fun x hx => hs x (mem_drop' hx)) hl'
          refine ⟨fun u hu => ?_, ?_⟩
          · rcases List.mem_append.1 hu with h1 | h1
            · exact encU_bd hb.1 hb.2.1 u h1
            · exact ih.1 u h1
          · rw [List.length_append]
            have := ih.2
            rw [List.length_drop] at this
            omega
theorem unitsM_props {s : List Int} {l : List Int} (hs : ∀ x ∈ s, 0 ≤ x ∧ x ≤ 255) (h : unitsM s = some l) : (∀ u ∈ l, 0 ≤ u ∧ u ≤ 65535) ∧ l.length ≤ s.length := unitsF_props _ _ _ _ hs h
theorem readM_props {s : ByteArray} {r : List Int} {ok : Bool} (h : readM (bts s) = (r, ok)) : (∀ u ∈ r, 0 ≤ u ∧ u ≤ 65535) ∧ r.length ≤ s.size ∧ (ok = true → r.length ≤ 4096) := by
  unfold readM at h
  cases hu : unitsM (bts s) with
  | none => rw [hu] at h; cases h; simp
  | some l =>
    rw [hu] at h
    cases h
    have := unitsM_props (bts_range s) hu
    rw [bts_len] at this
    exact ⟨this.1, this.2, fun h => by simpa using h⟩
end Go.Proofs.YtmbdiimenmnfjaaDoor
