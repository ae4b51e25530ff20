/- Walks: the runs of a bitmap (a function that is ranged over). -/
import Derived.Test.YtibohhiebejbmaaGa
import Derived.RangeFuncNested
import Derived.RangeFuncBound
import Derived.RangeFuncCalls
import Derived.RangeFuncLeaves
import Derived.Shelf.RegionOpen
import Derived.OwnWalkIn
import Derived.TacticsInMore
import Derived.LoopNIn
import Derived.LoopIn
import Derived.Sort.LoopGhostIn
import Derived.BigQuiet
import Derived.RecoverIn
import Derived.Sort.CutIn
import Derived.Shelf.Abstract
namespace Go.Proofs.Ytibohhiebejbmaa
open Go.RowKit Go.Deep Go.Shelf
open Go.BigFrame
set_option linter.unusedVariables false
set_option linter.unusedSimpArgs false
set_option maxRecDepth 100000
attribute [local go_sem] Oper.semAt_some

/-- A region that draws its order, at a class of worlds that is spelt by a function. -/
theorem region_quiet_f {S : Type} (f : S → World) {id : Nat} {Q : Exit → Act → World → Prop} {a : Act} {w : World} {l : List Oper} (hB : Region.lexB .any l.toArray = true) (hC : ∃ u, w.drew = f u)
    (h : wpQuiet Try.prog l.toArray (fun w' => ∃ u, w' = f u) (fun a' => ∀ w', (∃ u, w' = f u) → Q .normal a' w') l a) : (Code.region id l.toArray true).wp Try.prog Q a w :=
  wp_region_quiet (C := fun w' => ∃ u, w' = f u) (by kernel_rfl) hB hC (by simpa using h)
/-- The class of the worlds that have grown out of one. -/
theorem grown_class (wr : World) : ∃ (S : Type) (_ : Nonempty S) (f : S → World), (∀ W, Below wr.heap.size wr W → ∃ u, W = f u) ∧ (∀ u, Below wr.heap.size wr (f u)) :=
  ⟨{ W : World // Below wr.heap.size wr W }, ⟨⟨wr, Below.refl _ _⟩⟩, Subtype.val, fun W h => ⟨⟨W, h⟩, rfl⟩, fun u => u.2⟩

theorem consR_len (p : Nat) (l : List (Nat × Nat)) : (consR p l).length ≤ l.length + 1 := by
  unfold consR
  repeat' split
  all_goals simp_all
theorem runsL_len : ∀ (l : List Bool) (p : Nat), (runsL l p).length ≤ l.length
  | [], p => by simp [runsL]
  | true :: t, p => by rw [runsL_true]; have := consR_len p (runsL t (p + 1)); have := runsL_len t (p + 1); simp only [List.length_cons]; omega
  | false :: t, p => by rw [runsL_false]; have := runsL_len t (p + 1); simp only [List.length_cons]; omega
theorem RR_len (f : Nat → Bool) (a t9 : Nat) : (RR f a t9).length ≤ t9 - a := by
  have := runsL_len (bitsR f a t9) a
  rw [bitsR_len] at this
  exact this

set_option maxHeartbeats 2000000 in
theorem get_by (g c : Nat) (b : List Int) (i : Nat) (hi : i < 3744) (w : World) (h : By w g 468 b) (hb : ∀ x ∈ b, 0 ≤ x ∧ x ≤ 255) :
    Calls Try.prog 92 #[.agg #[.int .i64 3744, .slice (some ⟨g, 0, none⟩) 468 c], .int .i64 i] w fun x w' => x = .returned (.bool (bitB b i)) ∧ Below w.heap.size w w' := by
  have hl := h.len
  obtain ⟨q, hq⟩ : ∃ q, i / 8 = q := ⟨_, rfl⟩
  have hqb : q < 468 := by omega
  have hqz : (i : Int) / 8 = (q : Int) := by omega
  have hqi : (q : Int) < 468 := by omega
  obtain ⟨x, hx⟩ : ∃ x, b.getD q 0 = x := ⟨_, rfl⟩
  have hc : (w.alloc (.cells #[.int .i64 3744, .slice (some ⟨g, 0, none⟩) 468 c] 99)).cell? ⟨g, q, none⟩ = some (.int .u8 x) := by rw [← hx]; exact (h.on (one_alloc _ _)).cell q hqb
  clear h
  go_enter Try.func92, Try.ntmps92
  go_wp2
  go_ret
  refine ⟨?_, one_alloc _ _⟩
  have hxb : 0 ≤ x ∧ x ≤ 255 := by
    refine hb x ?_
    rw [← hx, List.getD_eq_getElem?_getD, List.getElem?_eq_getElem (by omega)]
    exact List.getElem_mem _
  have hp : (0 : Int) < 2 ^ (i % 8) := Int.pow_pos (by decide)
  have h0 : 0 ≤ x / 2 ^ (i % 8) := Int.ediv_nonneg hxb.1 (by omega)
  have h1 : x / 2 ^ (i % 8) < 256 := by
    have := Int.ediv_le_self (2 ^ (i % 8)) hxb.1
    omega
  have hm : bits .and .u8 (x / 2 ^ (i % 8)) 1 = x / 2 ^ (i % 8) % 2 := bits_mask .u8 8 (by decide) wraps_u8 1 (by decide) _ h0 h1
  rw [hm]
  unfold bitB
  rw [hq, hx]
  rfl

/-- What a bitmap that is ranged over needs of the world. -/
structure BitsIn (W : World) (gb go g c : Nat) (b : List Int) : Prop where
  box : Blk W gb [.int .i64 3744, .slice (some ⟨g, 0, none⟩) 468 c] 99
  on_ : Blk W go [.bool true] 4
  row : By W g 468 b

set_option maxHeartbeats 8000000 in
theorem bruns1_in (m : Nat) (hm : 1 ≤ m) (l gb go g c : Nat) (b : List Int) (hb : ∀ x ∈ b, 0 ≤ x ∧ x ≤ 255) (J : List (Nat × Nat) → World → Prop)
    (hJ : ∀ pre W W', J pre W → Below W.heap.size W W' → J pre W') (hJb : ∀ pre W, J pre W → BitsIn W gb go g c b)
    (hY : ∀ pre (x : Nat × Nat) W, J pre W → x.1 + x.2 ≤ 3744 → pre.length < 3744 → YieldAt Fence.wide (m - 1) Try.prog l #[.agg #[.int .i64 x.1, .int .i64 x.2]] W fun e W' => e = .returned (.bool true) ∧ J (pre ++ [x]) W')
    (W : World) (h0 : J [] W) :
    CallsIn Fence.wide m Try.prog 91 #[.func (.yield l) #[] #[], .pointer (some ⟨gb, 0, none⟩), .pointer (some ⟨go, 0, none⟩)] W fun e W' => (∃ v, e = .returned v) ∧ J (RR (bitB b) 0 3744) W' := by
  obtain ⟨A, hA⟩ : ∃ A, RR (bitB b) 0 3744 = A := ⟨_, rfl⟩
  rw [hA]
  have HAL : Hid (A.length ≤ 3744) := Lib.hid (by rw [← hA]; exact RR_len _ _ _)
  have HA : Hid (([] : List (Nat × Nat)) ++ RR (bitB b) 0 3744 = A) := Lib.hid (by rw [List.nil_append]; exact hA)
  have HJ0 := Lib.hid h0
  have HJG := Lib.hid hJ
  have HJB := Lib.hid hJb
  have HHY := Lib.hid hY
  have HBY := Lib.hid hb
  clear hA h0 hJ hJb hY hb
  refine callsIn_of_wp Try.func91 rfl trivial ?_ rfl
  simp only [Try.ntmps91, List.size_toArray, List.length_cons, List.length_nil, Nat.reduceAdd, Nat.reduceSub, Array.replicate_succ, Array.replicate_zero, List.push_toArray, List.append_toArray, List.nil_append, List.cons_append]
  gi_wp2
  gi_loopg [4] 3745 (fun kq v wr => ∃ (i : Nat) (pre : List (Nat × Nat)), v = .int .i64 i ∧ i ≤ 3744 ∧ 3744 - i < kq ∧ Hid (pre ++ RR (bitB b) i 3744 = A) ∧ Hid (J pre wr))
  case atStart => exact ⟨0, [], by simp, by omega, by omega, HA, HJ0⟩
  case round =>
    clear HA HJ0
    obtain ⟨i, pre, rfl, hi, hkq, HA, HJ⟩ := hrel
    have hbi := HJB.out pre _ HJ.out
    have c0 := hbi.box.cell (j := 0) rfl
    by_cases hlt : i < 3744
    · have hlti : (i : Int) < 3744 := by omega
      clear hbi
      gi_wp2
      clear c0
      gi_loopg [4] (3744 - i) (fun k2 v wr => ∃ e : Nat, v = .int .i64 e ∧ i ≤ e ∧ e ≤ 3744 ∧ 3744 - e ≤ k2 ∧ Hid (∀ j, i ≤ j → j < e → bitB b j = true) ∧ Hid (J pre wr))
      case atStart => exact ⟨i, rfl, by omega, by omega, by omega, Lib.hid fun j h1 h2 => by omega, HJ⟩
      case round =>
        clear HJ
        obtain ⟨e, rfl, hie, he, hk2, HE, HJ⟩ := hrel
        have hbi := HJB.out pre _ HJ.out
        have c0 := hbi.box.cell (j := 0) rfl
        have c1 := hbi.box.cell (j := 1) rfl
        have c2 := hbi.on_.cell (j := 0) rfl
        have HY := Lib.hid hbi.row
        clear hbi
        by_cases hlt2 : e < 3744
        · have hlti2 : (e : Int) < 3744 := by omega
          cases hbit : bitB b e with
          | true =>
            have HBIT := Lib.hid hbit
            clear hbit
            gi_wp2
            obtain ⟨S, hne, f, hf1, hf2⟩ := grown_class wr
            have q0 : ∀ u, (f u).cell? ⟨gb, 0, none⟩ = some (.int .i64 3744) := fun u => cell_keep (hf2 u) c0
            have q1 : ∀ u, (f u).cell? ⟨gb, 1, none⟩ = some (.slice (some ⟨g, 0, none⟩) 468 c) := fun u => cell_keep (hf2 u) c1
            have q2 : ∀ u, (f u).cell? ⟨go, 0, none⟩ = some (.bool true) := fun u => cell_keep (hf2 u) c2
            have HF1 := Lib.hid hf1
            have HF2 := Lib.hid hf2
            clear hf1 hf2
            refine wpIn_wide.2 ?_
            refine region_quiet_f f (by kernel_rfl) (HF1.out _ (below_drew1 (Below.refl _ _))) ?_
            repeat (go_big_quiet_step ((go_at_call 92; refine (get_by g c b e (by omega) _ (HY.out.on (HF2.out _)) HBY.out).mono ?_; rintro e5 w5 ⟨rfl, hB⟩; rw [HBIT.out]; exact ⟨rfl, HF1.out _ (below_then (HF2.out _) (HF2.out _).size hB)⟩)))
            refine wpQuiet_nil ?_
            rintro W5 ⟨u, rfl⟩
            have HJ5 := Lib.hid (HJG.out pre _ _ HJ.out (HF2.out u))
            generalize f u = W5 at *
            gi_wp2
            gi_roundg (3744 - (e + 1))
            case measure => omega
            case rel => exact ⟨e + 1, by simp, by omega, by omega, by omega, Lib.hid fun j h1 h2 => by by_cases hj : j = e; (rw [hj]; exact HBIT.out); exact HE.out j h1 (by omega), HJ5⟩
          | false =>
            have HBIT := Lib.hid hbit
            clear hbit
            gi_wp2
            obtain ⟨S, hne, f, hf1, hf2⟩ := grown_class wr
            have q0 : ∀ u, (f u).cell? ⟨gb, 0, none⟩ = some (.int .i64 3744) := fun u => cell_keep (hf2 u) c0
            have q1 : ∀ u, (f u).cell? ⟨gb, 1, none⟩ = some (.slice (some ⟨g, 0, none⟩) 468 c) := fun u => cell_keep (hf2 u) c1
            have q2 : ∀ u, (f u).cell? ⟨go, 0, none⟩ = some (.bool true) := fun u => cell_keep (hf2 u) c2
            have HF1 := Lib.hid hf1
            have HF2 := Lib.hid hf2
            clear hf1 hf2
            refine wpIn_wide.2 ?_
            refine region_quiet_f f (by kernel_rfl) (HF1.out _ (below_drew1 (Below.refl _ _))) ?_
            repeat (go_big_quiet_step ((go_at_call 92; refine (get_by g c b e (by omega) _ (HY.out.on (HF2.out _)) HBY.out).mono ?_; rintro e5 w5 ⟨rfl, hB⟩; rw [HBIT.out]; exact ⟨rfl, HF1.out _ (below_then (HF2.out _) (HF2.out _).size hB)⟩)))
            refine wpQuiet_nil ?_
            rintro W5 ⟨u, rfl⟩
            have HJ5 := Lib.hid (HJG.out pre _ _ HJ.out (HF2.out u))
            generalize f u = W5 at *
            by_cases hie2 : i < e
            · have HEB : Hid (∀ d, e ≤ d → bitB b d = true → i < d) := Lib.hid fun d h1 _ => by omega
              have HA2 : Hid ((pre ++ [(i, e - i)]) ++ RR (bitB b) e 3744 = A) := Lib.hid (by have h9 := HA.out; rw [RR_run (bitB b) hie2 he HE.out (.inr HBIT.out)] at h9; simpa using h9)
              have hlen8 : pre.length < 3744 := by
                have h7 := HA2.out
                have h8 := HAL.out
                rw [← h7] at h8
                simp only [List.length_append, List.length_cons, List.length_nil] at h8
                omega
              have hie3 : (i : Int) < (e : Int) := by omega
              have hsub : (e : Int) - (i : Int) = ((e - i : Nat) : Int) := by omega
              obtain ⟨fn, tmps, assign, body, hy, hRR⟩ := HHY.out pre (i, e - i) W5 HJ5.out (by show i + (e - i) ≤ 3744; omega) hlen8
              have hy2 : (Instr.yield l #[.agg #[.int .i64 i, .int .i64 ((e : Int) - (i : Int))]]).run Try.prog W5 = .ok (.round l fn tmps assign body) W5 := by rw [hsub]; exact hy
              have HRR := Lib.hid hRR
              clear hRR hy hsub
              gi_wp2
              refine HRR.out.mono ?_
              rintro e6 W6 ⟨rfl, hJ6⟩
              have HJ6 := Lib.hid hJ6
              clear hJ6 hy2 HRR
              gi_wp2
              gi_loopg [4] (3744 - e) (fun k3 v wr => ∃ d : Nat, v = .int .i64 d ∧ e ≤ d ∧ d ≤ 3744 ∧ 3744 - d ≤ k3 ∧ Hid (∀ j, e ≤ j → j < d → bitB b j = false) ∧ Hid (J (pre ++ [(i, e - i)]) wr))
              case atStart => exact ⟨e, rfl, by omega, by omega, by omega, Lib.hid fun j h1 h2 => by omega, HJ6⟩
              case round =>
                clear HJ6
                obtain ⟨d, rfl, hed, hd, hk3, HD, HJ⟩ := hrel
                have hbi := HJB.out (pre ++ [(i, e - i)]) _ HJ.out
                have c0 := hbi.box.cell (j := 0) rfl
                have c1 := hbi.box.cell (j := 1) rfl
                have c2 := hbi.on_.cell (j := 0) rfl
                have HY := Lib.hid hbi.row
                clear hbi
                by_cases hlt3 : d < 3744
                · have hlti3 : (d : Int) < 3744 := by omega
                  cases hbit : bitB b d with
                  | false =>
                    have HBIT := Lib.hid hbit
                    clear hbit
                    gi_wp2
                    obtain ⟨S, hne, f, hf1, hf2⟩ := grown_class wr
                    have q0 : ∀ u, (f u).cell? ⟨gb, 0, none⟩ = some (.int .i64 3744) := fun u => cell_keep (hf2 u) c0
                    have q1 : ∀ u, (f u).cell? ⟨gb, 1, none⟩ = some (.slice (some ⟨g, 0, none⟩) 468 c) := fun u => cell_keep (hf2 u) c1
                    have q2 : ∀ u, (f u).cell? ⟨go, 0, none⟩ = some (.bool true) := fun u => cell_keep (hf2 u) c2
                    have HF1 := Lib.hid hf1
                    have HF2 := Lib.hid hf2
                    clear hf1 hf2
                    refine wpIn_wide.2 ?_
                    refine region_quiet_f f (by kernel_rfl) (HF1.out _ (below_drew1 (Below.refl _ _))) ?_
                    repeat (go_big_quiet_step ((go_at_call 92; refine (get_by g c b d (by omega) _ (HY.out.on (HF2.out _)) HBY.out).mono ?_; rintro e5 w5 ⟨rfl, hB⟩; rw [HBIT.out]; exact ⟨rfl, HF1.out _ (below_then (HF2.out _) (HF2.out _).size hB)⟩)))
                    refine wpQuiet_nil ?_
                    rintro W7 ⟨u, rfl⟩
                    have HJ7 := Lib.hid (HJG.out (pre ++ [(i, e - i)]) _ _ HJ.out (HF2.out u))
                    generalize f u = W7 at *
                    gi_wp2
                    gi_roundg (3744 - (d + 1))
                    case measure => omega
                    case rel => exact ⟨d + 1, by simp, by omega, by omega, by omega, Lib.hid fun j h1 h2 => by by_cases hj : j = d; (rw [hj]; exact HBIT.out); exact HD.out j h1 (by omega), HJ7⟩
                  | true =>
                    have HBIT := Lib.hid hbit
                    clear hbit
                    gi_wp2
                    obtain ⟨S, hne, f, hf1, hf2⟩ := grown_class wr
                    have q0 : ∀ u, (f u).cell? ⟨gb, 0, none⟩ = some (.int .i64 3744) := fun u => cell_keep (hf2 u) c0
                    have q1 : ∀ u, (f u).cell? ⟨gb, 1, none⟩ = some (.slice (some ⟨g, 0, none⟩) 468 c) := fun u => cell_keep (hf2 u) c1
                    have q2 : ∀ u, (f u).cell? ⟨go, 0, none⟩ = some (.bool true) := fun u => cell_keep (hf2 u) c2
                    have HF1 := Lib.hid hf1
                    have HF2 := Lib.hid hf2
                    clear hf1 hf2
                    refine wpIn_wide.2 ?_
                    refine region_quiet_f f (by kernel_rfl) (HF1.out _ (below_drew1 (Below.refl _ _))) ?_
                    repeat (go_big_quiet_step ((go_at_call 92; refine (get_by g c b d (by omega) _ (HY.out.on (HF2.out _)) HBY.out).mono ?_; rintro e5 w5 ⟨rfl, hB⟩; rw [HBIT.out]; exact ⟨rfl, HF1.out _ (below_then (HF2.out _) (HF2.out _).size hB)⟩)))
                    refine wpQuiet_nil ?_
                    rintro W7 ⟨u, rfl⟩
                    have HJ7 := Lib.hid (HJG.out (pre ++ [(i, e - i)]) _ _ HJ.out (HF2.out u))
                    generalize f u = W7 at *
                    have hid : i < d := HEB.out d hed HBIT.out
                    have HA3 : Hid ((pre ++ [(i, e - i)]) ++ RR (bitB b) d 3744 = A) := Lib.hid (by have h9 := HA2.out; rw [RR_skip (bitB b) 3744 (d - e) e (by omega) (fun j h1 h2 => HD.out j h1 (by omega)), show e + (d - e) = d by omega] at h9; exact h9)
                    gi_wp2
                    gi_roundg (3745 - d)
                    case measure => omega
                    case rel => exact ⟨d, pre ++ [(i, e - i)], rfl, by omega, by omega, HA3, HJ7⟩
                · have hlti3 : ¬ (d : Int) < 3744 := by omega
                  have hdd : 3744 ≤ d := by omega
                  gi_wp2
                  obtain ⟨S, hne, f, hf1, hf2⟩ := grown_class wr
                  have q0 : ∀ u, (f u).cell? ⟨gb, 0, none⟩ = some (.int .i64 3744) := fun u => cell_keep (hf2 u) c0
                  have q1 : ∀ u, (f u).cell? ⟨gb, 1, none⟩ = some (.slice (some ⟨g, 0, none⟩) 468 c) := fun u => cell_keep (hf2 u) c1
                  have q2 : ∀ u, (f u).cell? ⟨go, 0, none⟩ = some (.bool true) := fun u => cell_keep (hf2 u) c2
                  have HF1 := Lib.hid hf1
                  have HF2 := Lib.hid hf2
                  clear hf1 hf2
                  refine wpIn_wide.2 ?_
                  refine region_quiet_f f (by kernel_rfl) (HF1.out _ (below_drew1 (Below.refl _ _))) ?_
                  have hltQ : ¬ ((d : Nat) : Int) < 3744 := by omega
                  repeat (first | go_big_quiet_step ((go_at_call 92; done)) | simp only [decide_eq_false hltQ])
                  refine wpQuiet_nil ?_
                  rintro W7 ⟨u, rfl⟩
                  have HJ7 := Lib.hid (HJG.out (pre ++ [(i, e - i)]) _ _ HJ.out (HF2.out u))
                  generalize f u = W7 at *
                  have HA3 : Hid ((pre ++ [(i, e - i)]) ++ RR (bitB b) d 3744 = A) := Lib.hid (by have h9 := HA2.out; rw [RR_skip (bitB b) 3744 (d - e) e (by omega) (fun j h1 h2 => HD.out j h1 (by omega)), show e + (d - e) = d by omega] at h9; exact h9)
                  gi_wp2
                  gi_roundg (3745 - d)
                  case measure => omega
                  case rel => exact ⟨d, pre ++ [(i, e - i)], rfl, by omega, by omega, HA3, HJ7⟩
            · have HEB : Hid (∀ d, e ≤ d → bitB b d = true → i < d) := Lib.hid fun d h1 h2 => by by_cases hde : d = e; (rw [hde, HBIT.out] at h2; exact absurd h2 (by decide)); omega
              have HA2 : Hid (pre ++ RR (bitB b) e 3744 = A) := Lib.hid (by have h9 := HA.out; rw [show i = e by omega] at h9; exact h9)
              have hie3 : ¬ (i : Int) < (e : Int) := by omega
              gi_wp2
              refine ⟨by simp, ?_⟩
              go_at_K
              gi_wp2
              gi_loopg [4] (3744 - e) (fun k3 v wr => ∃ d : Nat, v = .int .i64 d ∧ e ≤ d ∧ d ≤ 3744 ∧ 3744 - d ≤ k3 ∧ Hid (∀ j, e ≤ j → j < d → bitB b j = false) ∧ Hid (J (pre) wr))
              case atStart => exact ⟨e, rfl, by omega, by omega, by omega, Lib.hid fun j h1 h2 => by omega, HJ5⟩
              case round =>
                clear HJ5
                obtain ⟨d, rfl, hed, hd, hk3, HD, HJ⟩ := hrel
                have hbi := HJB.out (pre) _ HJ.out
                have c0 := hbi.box.cell (j := 0) rfl
                have c1 := hbi.box.cell (j := 1) rfl
                have c2 := hbi.on_.cell (j := 0) rfl
                have HY := Lib.hid hbi.row
                clear hbi
                by_cases hlt3 : d < 3744
                · have hlti3 : (d : Int) < 3744 := by omega
                  cases hbit : bitB b d with
                  | false =>
                    have HBIT := Lib.hid hbit
                    clear hbit
                    gi_wp2
                    obtain ⟨S, hne, f, hf1, hf2⟩ := grown_class wr
                    have q0 : ∀ u, (f u).cell? ⟨gb, 0, none⟩ = some (.int .i64 3744) := fun u => cell_keep (hf2 u) c0
                    have q1 : ∀ u, (f u).cell? ⟨gb, 1, none⟩ = some (.slice (some ⟨g, 0, none⟩) 468 c) := fun u => cell_keep (hf2 u) c1
                    have q2 : ∀ u, (f u).cell? ⟨go, 0, none⟩ = some (.bool true) := fun u => cell_keep (hf2 u) c2
                    have HF1 := Lib.hid hf1
                    have HF2 := Lib.hid hf2
                    clear hf1 hf2
                    refine wpIn_wide.2 ?_
                    refine region_quiet_f f (by kernel_rfl) (HF1.out _ (below_drew1 (Below.refl _ _))) ?_
                    repeat (go_big_quiet_step ((go_at_call 92; refine (get_by g c b d (by omega) _ (HY.out.on (HF2.out _)) HBY.out).mono ?_; rintro e5 w5 ⟨rfl, hB⟩; rw [HBIT.out]; exact ⟨rfl, HF1.out _ (below_then (HF2.out _) (HF2.out _).size hB)⟩)))
                    refine wpQuiet_nil ?_
                    rintro W7 ⟨u, rfl⟩
                    have HJ7 := Lib.hid (HJG.out (pre) _ _ HJ.out (HF2.out u))
                    generalize f u = W7 at *
                    gi_wp2
                    gi_roundg (3744 - (d + 1))
                    case measure => omega
                    case rel => exact ⟨d + 1, by simp, by omega, by omega, by omega, Lib.hid fun j h1 h2 => by by_cases hj : j = d; (rw [hj]; exact HBIT.out); exact HD.out j h1 (by omega), HJ7⟩
                  | true =>
                    have HBIT := Lib.hid hbit
                    clear hbit
                    gi_wp2
                    obtain ⟨S, hne, f, hf1, hf2⟩ := grown_class wr
                    have q0 : ∀ u, (f u).cell? ⟨gb, 0, none⟩ = some (.int .i64 3744) := fun u => cell_keep (hf2 u) c0
                    have q1 : ∀ u, (f u).cell? ⟨gb, 1, none⟩ = some (.slice (some ⟨g, 0, none⟩) 468 c) := fun u => cell_keep (hf2 u) c1
                    have q2 : ∀ u, (f u).cell? ⟨go, 0, none⟩ = some (.bool true) := fun u => cell_keep (hf2 u) c2
                    have HF1 := Lib.hid hf1
                    have HF2 := Lib.hid hf2
                    clear hf1 hf2
                    refine wpIn_wide.2 ?_
                    refine region_quiet_f f (by kernel_rfl) (HF1.out _ (below_drew1 (Below.refl _ _))) ?_
                    repeat (go_big_quiet_step ((go_at_call 92; refine (get_by g c b d (by omega) _ (HY.out.on (HF2.out _)) HBY.out).mono ?_; rintro e5 w5 ⟨rfl, hB⟩; rw [HBIT.out]; exact ⟨rfl, HF1.out _ (below_then (HF2.out _) (HF2.out _).size hB)⟩)))
                    refine wpQuiet_nil ?_
                    rintro W7 ⟨u, rfl⟩
                    have HJ7 := Lib.hid (HJG.out (pre) _ _ HJ.out (HF2.out u))
                    generalize f u = W7 at *
                    have hid : i < d := HEB.out d hed HBIT.out
                    have HA3 : Hid ((pre) ++ RR (bitB b) d 3744 = A) := Lib.hid (by have h9 := HA2.out; rw [RR_skip (bitB b) 3744 (d - e) e (by omega) (fun j h1 h2 => HD.out j h1 (by omega)), show e + (d - e) = d by omega] at h9; exact h9)
                    gi_wp2
                    gi_roundg (3745 - d)
                    case measure => omega
                    case rel => exact ⟨d, pre, rfl, by omega, by omega, HA3, HJ7⟩
                · have hlti3 : ¬ (d : Int) < 3744 := by omega
                  have hdd : 3744 ≤ d := by omega
                  gi_wp2
                  obtain ⟨S, hne, f, hf1, hf2⟩ := grown_class wr
                  have q0 : ∀ u, (f u).cell? ⟨gb, 0, none⟩ = some (.int .i64 3744) := fun u => cell_keep (hf2 u) c0
                  have q1 : ∀ u, (f u).cell? ⟨gb, 1, none⟩ = some (.slice (some ⟨g, 0, none⟩) 468 c) := fun u => cell_keep (hf2 u) c1
                  have q2 : ∀ u, (f u).cell? ⟨go, 0, none⟩ = some (.bool true) := fun u => cell_keep (hf2 u) c2
                  have HF1 := Lib.hid hf1
                  have HF2 := Lib.hid hf2
                  clear hf1 hf2
                  refine wpIn_wide.2 ?_
                  refine region_quiet_f f (by kernel_rfl) (HF1.out _ (below_drew1 (Below.refl _ _))) ?_
                  have hltQ : ¬ ((d : Nat) : Int) < 3744 := by omega
                  repeat (first | go_big_quiet_step ((go_at_call 92; done)) | simp only [decide_eq_false hltQ])
                  refine wpQuiet_nil ?_
                  rintro W7 ⟨u, rfl⟩
                  have HJ7 := Lib.hid (HJG.out (pre) _ _ HJ.out (HF2.out u))
                  generalize f u = W7 at *
                  have HA3 : Hid ((pre) ++ RR (bitB b) d 3744 = A) := Lib.hid (by have h9 := HA2.out; rw [RR_skip (bitB b) 3744 (d - e) e (by omega) (fun j h1 h2 => HD.out j h1 (by omega)), show e + (d - e) = d by omega] at h9; exact h9)
                  gi_wp2
                  gi_roundg (3745 - d)
                  case measure => omega
                  case rel => exact ⟨d, pre, rfl, by omega, by omega, HA3, HJ7⟩
        · have hlti2 : ¬ (e : Int) < 3744 := by omega
          have hee : 3744 ≤ e := by omega
          gi_wp2
          obtain ⟨S, hne, f, hf1, hf2⟩ := grown_class wr
          have q0 : ∀ u, (f u).cell? ⟨gb, 0, none⟩ = some (.int .i64 3744) := fun u => cell_keep (hf2 u) c0
          have q1 : ∀ u, (f u).cell? ⟨gb, 1, none⟩ = some (.slice (some ⟨g, 0, none⟩) 468 c) := fun u => cell_keep (hf2 u) c1
          have q2 : ∀ u, (f u).cell? ⟨go, 0, none⟩ = some (.bool true) := fun u => cell_keep (hf2 u) c2
          have HF1 := Lib.hid hf1
          have HF2 := Lib.hid hf2
          clear hf1 hf2
          refine wpIn_wide.2 ?_
          refine region_quiet_f f (by kernel_rfl) (HF1.out _ (below_drew1 (Below.refl _ _))) ?_
          have hltQ : ¬ ((e : Nat) : Int) < 3744 := by omega
          repeat (first | go_big_quiet_step ((go_at_call 92; done)) | simp only [decide_eq_false hltQ])
          refine wpQuiet_nil ?_
          rintro W5 ⟨u, rfl⟩
          have HJ5 := Lib.hid (HJG.out pre _ _ HJ.out (HF2.out u))
          generalize f u = W5 at *
          have hie2 : i < e := by omega
          have HEB : Hid (∀ d, e ≤ d → bitB b d = true → i < d) := Lib.hid fun d h1 _ => by omega
          have HA2 : Hid ((pre ++ [(i, e - i)]) ++ RR (bitB b) e 3744 = A) := Lib.hid (by have h9 := HA.out; rw [RR_run (bitB b) hie2 he HE.out (.inl (by omega))] at h9; simpa using h9)
          have hlen8 : pre.length < 3744 := by
            have h7 := HA2.out
            have h8 := HAL.out
            rw [← h7] at h8
            simp only [List.length_append, List.length_cons, List.length_nil] at h8
            omega
          have hie3 : (i : Int) < (e : Int) := by omega
          have hsub : (e : Int) - (i : Int) = ((e - i : Nat) : Int) := by omega
          obtain ⟨fn, tmps, assign, body, hy, hRR⟩ := HHY.out pre (i, e - i) W5 HJ5.out (by show i + (e - i) ≤ 3744; omega) hlen8
          have hy2 : (Instr.yield l #[.agg #[.int .i64 i, .int .i64 ((e : Int) - (i : Int))]]).run Try.prog W5 = .ok (.round l fn tmps assign body) W5 := by rw [hsub]; exact hy
          have HRR := Lib.hid hRR
          clear hRR hy hsub
          gi_wp2
          refine HRR.out.mono ?_
          rintro e6 W6 ⟨rfl, hJ6⟩
          have HJ6 := Lib.hid hJ6
          clear hJ6 hy2 HRR
          gi_wp2
          gi_loopg [4] (3744 - e) (fun k3 v wr => ∃ d : Nat, v = .int .i64 d ∧ e ≤ d ∧ d ≤ 3744 ∧ 3744 - d ≤ k3 ∧ Hid (∀ j, e ≤ j → j < d → bitB b j = false) ∧ Hid (J (pre ++ [(i, e - i)]) wr))
          case atStart => exact ⟨e, rfl, by omega, by omega, by omega, Lib.hid fun j h1 h2 => by omega, HJ6⟩
          case round =>
            clear HJ6
            obtain ⟨d, rfl, hed, hd, hk3, HD, HJ⟩ := hrel
            have hbi := HJB.out (pre ++ [(i, e - i)]) _ HJ.out
            have c0 := hbi.box.cell (j := 0) rfl
            have c1 := hbi.box.cell (j := 1) rfl
            have c2 := hbi.on_.cell (j := 0) rfl
            have HY := Lib.hid hbi.row
            clear hbi
            by_cases hlt3 : d < 3744
            · omega
            · have hlti3 : ¬ (d : Int) < 3744 := by omega
              have hdd : 3744 ≤ d := by omega
              gi_wp2
              obtain ⟨S, hne, f, hf1, hf2⟩ := grown_class wr
              have q0 : ∀ u, (f u).cell? ⟨gb, 0, none⟩ = some (.int .i64 3744) := fun u => cell_keep (hf2 u) c0
              have q1 : ∀ u, (f u).cell? ⟨gb, 1, none⟩ = some (.slice (some ⟨g, 0, none⟩) 468 c) := fun u => cell_keep (hf2 u) c1
              have q2 : ∀ u, (f u).cell? ⟨go, 0, none⟩ = some (.bool true) := fun u => cell_keep (hf2 u) c2
              have HF1 := Lib.hid hf1
              have HF2 := Lib.hid hf2
              clear hf1 hf2
              refine wpIn_wide.2 ?_
              refine region_quiet_f f (by kernel_rfl) (HF1.out _ (below_drew1 (Below.refl _ _))) ?_
              have hltQ : ¬ ((d : Nat) : Int) < 3744 := by omega
              repeat (first | go_big_quiet_step ((go_at_call 92; done)) | simp only [decide_eq_false hltQ])
              refine wpQuiet_nil ?_
              rintro W7 ⟨u, rfl⟩
              have HJ7 := Lib.hid (HJG.out (pre ++ [(i, e - i)]) _ _ HJ.out (HF2.out u))
              generalize f u = W7 at *
              have HA3 : Hid ((pre ++ [(i, e - i)]) ++ RR (bitB b) d 3744 = A) := Lib.hid (by have h9 := HA2.out; rw [RR_skip (bitB b) 3744 (d - e) e (by omega) (fun j h1 h2 => HD.out j h1 (by omega)), show e + (d - e) = d by omega] at h9; exact h9)
              gi_wp2
              gi_roundg (3745 - d)
              case measure => omega
              case rel => exact ⟨d, pre ++ [(i, e - i)], rfl, by omega, by omega, HA3, HJ7⟩
    · have hlti : ¬ (i : Int) < 3744 := by omega
      have HAA : Hid (pre = A) := Lib.hid (by have := HA.out; rw [RR_none _ (by omega), List.append_nil] at this; exact this)
      clear hbi
      gi_wp2
      go_end0
      exact ⟨⟨_, rfl⟩, by rw [← HAA.out]; exact HJ.out⟩
end Go.Proofs.Ytibohhiebejbmaa
/- A range over a function whose iterator may panic and writes cells of its own: the statement and one round, at a loop that is never left early. -/
namespace Go.Proofs.Ytibohhiebejbmaa
open Go.RowKit
set_option linter.unusedVariables false
set_option linter.unusedSimpArgs false
variable {F : Fence} {n : Nat} {P : Program}

/-- The record of a loop over a function. -/
def recX (fn : FuncId) (tmps : Array Value) (ps : Array Tmp) (assign body : Code) (D : Nat) (st : LoopState) (pe : Option Code) : Loop := { state := st, pending := pe, fn, tmps, params := ps, assign, body, defers := D }

theorem wpIn_rangeFunc_X {g : Operand} {ps : Array Tmp} {assign body : Code} {Q : Exit → Act → World → Prop} {a : Act} {w : World}
    (hro : F.round = none) (h1 : 1 ≤ n) {gf : Nat} {lb : Array Value} (hg : a.eval g = .func (.func gf) #[] lb) (hFg : F.fn gf) (eg : ∀ args w, (callFunc gf args).run P w = .ok (.enter gf args) w)
    (l : Nat) (hl : l = w.heap.size + 1) (h : ∀ (fn : FuncId) (rd : Loop), F.fn fn → rd = recX fn a.tmps ps assign body w.heap.size .ready none → CallsIn F (n - 1) P gf (#[Value.func (Fn.yield l) #[] #[]] ++ lb) ((w.alloc (Obj.deferred (some []))).alloc (Obj.loop rd))
      (rangePost F n P l Q (Act.mk a.tmps ({ target := .collected w.heap.size, args := #[] } :: a.defers)))) :
    (Code.rangeFunc g ps assign body).wpIn F n P Q a w := by
  refine wpIn_rangeFunc ?_
  intro fn hfn
  subst hl
  rw [hro]
  obtain ⟨W1, hW1⟩ : ∃ W1, (w.alloc (.deferred (some []))).alloc (.loop (recX fn a.tmps ps assign body w.heap.size .ready none)) = W1 := ⟨_, rfl⟩
  have hc := h fn _ hfn rfl
  rw [hW1] at hc
  refine ⟨w.heap.size + 1, [{ target := .collected w.heap.size, args := #[] }], W1, { target := .fn (.func gf) lb, args := #[.func (.yield (w.heap.size + 1)) #[] #[]] }, W1, gf,
    #[.func (.yield (w.heap.size + 1)) #[] #[]] ++ lb, W1, ?_, ?_, ?_, ?_, fun _ => h1, ?_⟩
  · have hrun := run_enterLoop_outer (P := P) (w := w) fn a.tmps ps assign body
    rw [← hW1]
    unfold recX
    exact hrun
  · simp only [resolve, hg]
    simp [go_sem]
  · intro f' hf'; simp [Target.leads] at hf'; subst hf'; exact hFg
  · simp [invoke, go_sem, eg]
  · exact hc

/-- One round that goes on. -/
theorem yield_X {l D : Nat} {fn : FuncId} {tmps : Array Value} {ps : Array Tmp} {assign body : Code} {encs : Array Value} {a₁ : Act} {W : World} {m : Nat} {rd : Loop} {K' : World → Prop} (hfn : F.fn fn)
    (hrd : rd = recX fn tmps ps assign body D .ready none) (hl : W.heap[l]? = some (.loop rd)) (hps : encs.size = ps.size)
    (hassign : ∀ (K : Act → World → Prop), K a₁ W → assign.wpIn (F.inRound l) m P (Exit.then K (fun _ _ _ => False)) { tmps := (ps.zip encs).foldl (fun t (p, v) => t.setIfInBounds p v) tmps, defers := [] } W)
    (hbody : ∀ rb : Loop, rb = recX fn tmps ps assign body D .busy none → body.wpIn (F.inRound l) m P (fun e _ W3 => e = .normal ∧ W3.heap[l]? = some (.loop rb) ∧ K' (W3.putObj l (.loop rd))) a₁ (W.putObj l (.loop rb))) :
    YieldAt F m P l encs W fun e W' => e = .returned (.bool true) ∧ K' W' := by
  subst hrd
  have hy := run_yield (P := P) (args := encs) hl hps
  refine ⟨fn, _, assign, body, hy, roundIn_of_wpIn hfn (hassign _ ⟨_, run_beginRound hl rfl, ?_⟩)⟩
  refine wpIn_mono (hbody _ rfl) ?_
  rintro e a3 W3 ⟨rfl, hl3, hk⟩
  have := run_endRound (P := P) none hl3
  exact ⟨_, _, this, rfl, hk⟩

/-- One round that goes on; the cell of the round's own variable is made at its head. -/
theorem yield_X3 {l D : Nat} {fn : FuncId} {tmps : Array Value} {ps : Array Tmp} {assign body : Code} {encs : Array Value} {a₁ : Act} {W W1 : World} {m : Nat} {rd : Loop} {K' : World → Prop} (hfn : F.fn fn)
    (hrd : rd = recX fn tmps ps assign body D .ready none) (hl : W.heap[l]? = some (.loop rd)) (hl1 : W1.heap[l]? = some (.loop rd)) (hps : encs.size = ps.size)
    (hassign : ∀ (K : Act → World → Prop), K a₁ W1 → assign.wpIn (F.inRound l) m P (Exit.then K (fun _ _ _ => False)) { tmps := (ps.zip encs).foldl (fun t (p, v) => t.setIfInBounds p v) tmps, defers := [] } W)
    (hbody : ∀ rb : Loop, rb = recX fn tmps ps assign body D .busy none → body.wpIn (F.inRound l) m P (fun e _ W3 => e = .normal ∧ W3.heap[l]? = some (.loop rb) ∧ K' (W3.putObj l (.loop rd))) a₁ (W1.putObj l (.loop rb))) :
    YieldAt F m P l encs W fun e W' => e = .returned (.bool true) ∧ K' W' := by
  subst hrd
  have hy := run_yield (P := P) (args := encs) hl hps
  refine ⟨fn, _, assign, body, hy, roundIn_of_wpIn hfn (hassign _ ⟨_, run_beginRound hl1 rfl, ?_⟩)⟩
  refine wpIn_mono (hbody _ rfl) ?_
  rintro e a3 W3 ⟨rfl, hl3, hk⟩
  have := run_endRound (P := P) none hl3
  exact ⟨_, _, this, rfl, hk⟩

theorem putObj_block {W : World} {l b : Nat} {o : Obj} (h : b ≠ l) : (W.putObj l o).heap[b]? = W.heap[b]? := World.putObj_heap_other h
theorem putObj_own {W : World} {l : Nat} {o : Obj} {base : Nat} {e : TypeId} {size k : Nat} {v : Value} {xs : List Value} (h : W.ownsRow base e size v k xs) (hne : ∀ j, v.ownBlock = some j → j ≠ l) : (W.putObj l o).ownsRow base e size v k xs := by
  obtain ⟨h1, h2 | ⟨g, cap, cur, rfl, hg, hh, r⟩⟩ := h
  · exact ⟨h1, .inl h2⟩
  · exact ⟨h1, .inr ⟨g, cap, cur, rfl, hg, (putObj_block (hne g rfl)).trans hh, r⟩⟩
theorem putObj_below {B : Nat} {w W : World} {l : Nat} {o : Obj} (h : Below B w W) (hl : B ≤ l) (hB : B ≤ W.heap.size) : Below B w (W.putObj l o) :=
  h.grown (grownBy_putObj' W l o) hB (fun k e => by cases e; exact hl)
theorem own_not_loop {w : World} {base : Nat} {e : TypeId} {size n : Nat} {v : Value} {xs : List Value} {b : Nat} {r : Loop} (h : w.ownsRow base e size v n xs) (hb : w.heap[b]? = some (.loop r)) : ∀ k, v.ownBlock = some k → k ≠ b := by
  rintro k hk rfl
  obtain ⟨h1, ⟨rfl, rfl⟩ | ⟨g, cap, cur, rfl, hg, hh, r⟩⟩ := h
  · simp [Value.ownBlock] at hk
  · have : g = k := by simpa [Value.ownBlock] using hk
    subst this
    rw [hh] at hb
    cases hb
theorem own_not_deferred {w : World} {base : Nat} {e : TypeId} {size n : Nat} {v : Value} {xs : List Value} {b : Nat} {r : Option (List Deferred)} (h : w.ownsRow base e size v n xs) (hb : w.heap[b]? = some (.deferred r)) : ∀ k, v.ownBlock = some k → k ≠ b := by
  rintro k hk rfl
  obtain ⟨h1, ⟨rfl, rfl⟩ | ⟨g, cap, cur, rfl, hg, hh, r⟩⟩ := h
  · simp [Value.ownBlock] at hk
  · have : g = k := by simpa [Value.ownBlock] using hk
    subst this
    rw [hh] at hb
    cases hb
end Go.Proofs.Ytibohhiebejbmaa
/- Walks: slices.AppendSeq and Collect over the runs of a bitmap; caught; bits.Runs. -/
namespace Go.Proofs.Ytibohhiebejbmaa
open Go.RowKit Go.Deep Go.Shelf
set_option linter.unusedVariables false
set_option linter.unusedSimpArgs false
set_option maxRecDepth 100000
attribute [local go_sem] Oper.semAt_some

def rngV (l : List (Nat × Nat)) : List Value := l.flatMap fun x => [.int .i64 x.1, .int .i64 x.2]
theorem rngV_snoc (l : List (Nat × Nat)) (x : Nat × Nat) : rngV (l ++ [x]) = rngV l ++ [.int .i64 x.1, .int .i64 x.2] := by simp [rngV]
theorem BitsIn.on {W W' : World} {gb go g c : Nat} {b : List Int} (h : BitsIn W gb go g c b) (hb : Below W.heap.size W W') : BitsIn W' gb go g c b := ⟨h.box.on hb, h.on_.on hb, h.row.on hb⟩
theorem heap_far' {w : World} {b' : Nat} {p : Addr} {u : Value} {o : Obj} (h : w.heap[b']? = some o) (hne : b' ≠ p.block) : (w.setCell p u).heap[b']? = some o := (Below.heap_setCell w p u b' hne).trans h
/-- Between two runs. -/
structure CJ (w : World) (B : Nat) (rd : Loop) (pre : List (Nat × Nat)) (W : World) : Prop where
  rec_ : W.heap[B + 2]? = some (.loop rd)
  def_ : W.heap[B + 1]? = some (.deferred (some []))
  box : ∃ v, W.heap[B]? = some (.cells #[v] 102 (0, 0)) ∧ W.ownsRow B 106 2 v pre.length (rngV pre)
  below : Below B w W
theorem CJ.lt {w W : World} {B : Nat} {rd : Loop} {pre : List (Nat × Nat)} (h : CJ w B rd pre W) : B + 2 < W.heap.size := (Array.getElem?_eq_some_iff.1 h.rec_).1
theorem CJ.on {w W W' : World} {B : Nat} {rd : Loop} {pre : List (Nat × Nat)} (h : CJ w B rd pre W) (hb : Below W.heap.size W W') : CJ w B rd pre W' :=
  ⟨below_heap h.rec_ hb, below_heap h.def_ hb, (by obtain ⟨v, h1, h2⟩ := h.box; exact ⟨v, below_heap h1 hb, own_keep h2 hb⟩), below_then h.below (by have := h.lt; omega) hb⟩

set_option maxHeartbeats 8000000 in
theorem appendseq_in (m : Nat) (hm : 4 ≤ m) (gb go g c : Nat) (b : List Int) (hb : ∀ x ∈ b, 0 ≤ x ∧ x ≤ 255) (w : World) (h : BitsIn w gb go g c b) :
    CallsIn Fence.wide m Try.prog 90 #[.slice none 0 0, .func (.func 91) #[] #[.pointer (some ⟨gb, 0, none⟩), .pointer (some ⟨go, 0, none⟩)]] w fun e w' =>
      ∃ v, e = .returned v ∧ w'.ownsRow w.heap.size 106 2 v (RR (bitB b) 0 3744).length (rngV (RR (bitB b) 0 3744)) ∧ Below w.heap.size w w' := by
  obtain ⟨i0, hi, hz0, hz1, hz2⟩ := info_parts info106
  have h1m : 1 ≤ m := by omega
  obtain ⟨R, hR⟩ : ∃ R, RR (bitB b) 0 3744 = R := ⟨_, rfl⟩
  rw [hR]
  have HR := Lib.hid hR
  have H := Lib.hid h
  have HBY := Lib.hid hb
  clear h hb hR
  refine callsIn_of_wp_marks Try.func90 rfl trivial ?_ rfl
  simp only [Try.ntmps90, List.size_toArray, List.length_cons, List.length_nil, Nat.reduceAdd, Nat.reduceSub, Array.replicate_succ, Array.replicate_zero, List.push_toArray, List.append_toArray, List.nil_append, List.cons_append]
  gi_wp2
  obtain ⟨W0, hW0⟩ : ∃ W0, w.alloc (.cells #[.slice none 0 0] 102) = W0 := ⟨_, rfl⟩
  have hsz : W0.heap.size = w.heap.size + 1 := by rw [← hW0]; simp
  have hb0 : W0.heap[w.heap.size]? = some (.cells #[.slice none 0 0] 102 (0, 0)) := by rw [← hW0]; exact heap_alloc_new _ _
  have hbw : Below w.heap.size w W0 := by rw [← hW0]; exact one_alloc _ _
  rw [hW0]
  have HI : Hid (∀ W, Below w.heap.size w W → BitsIn W gb go g c b) := Lib.hid fun W hbe => H.out.on hbe
  obtain ⟨B, hB⟩ : ∃ B, w.heap.size = B := ⟨_, rfl⟩
  have HB := Lib.hid hB
  rw [hB] at hsz hb0 hbw HI ⊢
  clear hW0 hB
  refine wpIn_rangeFunc_X rfl h1m (gf := 91) (lb := #[.pointer (some ⟨gb, 0, none⟩), .pointer (some ⟨go, 0, none⟩)]) rfl trivial (enters_of Try.func91 (by kernel_rfl) rfl) (B + 2) (by omega) ?_
  intro fn rd _ hrd
  rw [hsz] at hrd ⊢
  have HRD := Lib.hid hrd
  clear hrd
  obtain ⟨W1, hW1⟩ : ∃ W1, (W0.alloc (.deferred (some []))).alloc (.loop rd) = W1 := ⟨_, rfl⟩
  have hJ0 : CJ w B rd [] W1 := by
    rw [← hW1]
    refine ⟨?_, ?_, ⟨_, heap_al (heap_al hb0), World.ownsRow_nil _ _ _ _⟩, (hbw.alloc (by omega) _).alloc (by simp; omega) _⟩
    · have := heap_alloc_new (W0.alloc (.deferred (some []))) (.loop rd)
      rw [World.size_alloc, hsz] at this
      exact this
    · have := heap_alloc_new W0 (.deferred (some []))
      rw [hsz] at this
      exact heap_al this
  rw [hW1]
  clear hW1 hb0 hbw hsz
  refine (bruns1_in (m - 1) (by omega) (B + 2) gb go g c b HBY.out (CJ w B rd) (fun pre W W' hJ hg => hJ.on hg) (fun pre W hJ => HI.out W hJ.below) ?_ W1 hJ0).mono ?_
  · intro pre x W hJ hx hlen
    have HJ := Lib.hid hJ
    have hlt := hJ.lt
    clear hJ hJ0
    obtain ⟨n, hn⟩ : ∃ n, W.heap.size = n := ⟨_, rfl⟩
    rw [hn] at hlt
    obtain ⟨x1, x2⟩ := x
    simp only at hx ⊢
    refine yield_X3 (l := B + 2) (a₁ := ?a1) (W1 := W.alloc (.cells #[.int .i64 x1, .int .i64 x2] 106)) (K' := fun W' => CJ w B rd (pre ++ [(x1, x2)]) W') trivial HRD.out HJ.out.rec_ ?hl1 rfl ?assign ?body
    case assign =>
      intro K hK
      have HK := Lib.hid hK
      clear hK
      gi_wp2
      exact HK.out
    case hl1 => exact heap_al HJ.out.rec_
    case body =>
      intro rb hrb
      clear hrb
      obtain ⟨V, hV⟩ : ∃ V, W.alloc (.cells #[.int .i64 x1, .int .i64 x2] 106) = V := ⟨_, rfl⟩
      have hVJ : CJ w B rd pre V := by rw [← hV]; exact HJ.out.on (one_alloc _ _)
      have hVB : Blk V n [.int .i64 x1, .int .i64 x2] 106 := by rw [← hV, ← hn]; exact Blk.new W [.int .i64 x1, .int .i64 x2] 106
      rw [hV]
      clear hV hn HJ
      obtain ⟨h1, h2, ⟨v, h4, h5⟩, h7⟩ := hVJ
      obtain ⟨W2, hW2⟩ : ∃ W2, V.putObj (B + 2) (.loop rb) = W2 := ⟨_, rfl⟩
      have g1 : W2.heap[B + 2]? = some (.loop rb) := by rw [← hW2]; exact World.putObj_heap_same (Array.getElem?_eq_some_iff.1 h1).1
      have g2 : W2.heap[B + 1]? = some (.deferred (some [])) := by rw [← hW2]; exact (putObj_block (by omega)).trans h2
      have g4 : W2.heap[B]? = some (.cells #[v] 102 (0, 0)) := by rw [← hW2]; exact (putObj_block (by omega)).trans h4
      have g5 : W2.ownsRow B 106 2 v pre.length (rngV pre) := by rw [← hW2]; exact putObj_own h5 (own_not_loop h5 h1)
      have g6 : Blk W2 n [.int .i64 x1, .int .i64 x2] 106 := by rw [← hW2]; exact (putObj_block (by omega)).trans hVB
      have g7 : Below B w W2 := by rw [← hW2]; exact putObj_below h7 (by omega) (by have := (one_cell h4).2.2; omega)
      rw [hW2]
      obtain ⟨Av, cv, rfl, hcv⟩ := own_is_slice g5
      obtain ⟨c0, z0, l0⟩ := one_cell g4
      have e0 := g6.cell (j := 0) rfl
      have e1 := g6.cell (j := 1) rfl
      have G1 := Lib.hid g1
      have G2 := Lib.hid g2
      have G4 := Lib.hid g4
      have G5 := Lib.hid g5
      have G7 := Lib.hid g7
      clear hW2 h1 h2 h4 h5 h7 g1 g2 g4 g5 g6 g7 hVB
      gi_wp2_with (gi_at_builtin; refine wpListIn_append_own _ rfl _ _ 102 rfl B 106 i0 (.agg #[.int .i64 0, .int .i64 0]) 2 16 Try.underlying102 hi hz0 hz1 hz2 rfl (by decide) _ pre.length (rngV pre) rfl (World.ownsRow.alloc G5.out _) ⟨W2.heap.size, 0, none⟩ 1 1 [.int .i64 x1, .int .i64 x2] rfl rfl (cells_new _ _ rfl [.int .i64 x1, .int .i64 x2] _) (by simp [Value.oneCell']) (by simp only [maxLen]; omega) (by omega) (by simp; omega) ?_; intro v' w3 hown3 hgrow3 _; obtain ⟨g', cap', rfl⟩ := ownsRow_succ hown3; obtain ⟨gc0, gf0⟩ := grown_block hgrow3 B (by simp; omega) (fun k hk => own_ne_type G5.out G4.out (by decide) k hk); (have HO3 := Lib.hid hown3); (have HG3 := Lib.hid hgrow3); clear hown3 hgrow3)
      have k1 : w3.heap[B + 2]? = some (.loop rb) := grown_keep HG3.out (heap_al G1.out) (own_not_loop G5.out G1.out)
      have k2 : w3.heap[B + 1]? = some (.deferred (some [])) := grown_keep HG3.out (heap_al G2.out) (own_not_deferred G5.out G2.out)
      have k4 := grown_keep HG3.out (heap_al G4.out) (own_ne_type G5.out G4.out (by decide))
      have k7 : Below B w w3 := (G7.out.alloc (by omega) _).grown HG3.out (by simp; omega) (fun kk hk => (G5.out.lt kk hk).1)
      refine ⟨heap_far k1 (by omega), ⟨?_, ?_, ⟨.slice (some ⟨g', 0, none⟩) (pre.length + 1) cap', ?_, ?_⟩, ?_⟩⟩
      · exact World.putObj_heap_same (by rw [World.size_setCell]; exact (Array.getElem?_eq_some_iff.1 k1).1)
      · exact (putObj_block (by omega)).trans (heap_far k2 (by omega))
      · exact (putObj_block (by omega)).trans (one_put k4)
      · refine putObj_own ?_ (own_not_loop HO3.out k1)
        rw [List.length_append, rngV_snoc]
        exact own_far HO3.out (own_ne_type HO3.out k4 (by decide))
      · exact putObj_below (k7.setCell (Nat.le_refl _) _) (by omega) (by rw [World.size_setCell]; have := (one_cell k4).2.2; omega)
  · rintro e W2 ⟨⟨v0, rfl⟩, hJ⟩
    rw [HR.out] at hJ
    have hend := run_endLoop (P := Try.prog) hJ.rec_ (by rw [HRD.out]; simp [recX])
    have hpd : rd.pending = none := by rw [HRD.out]; rfl
    obtain ⟨h1, h2, ⟨v, h4, h5⟩, h7⟩ := hJ
    obtain ⟨W4, hW4⟩ : ∃ W4, W2.putObj (B + 2) (.loop { rd with state := .exhausted }) = W4 := ⟨_, rfl⟩
    have g2 : W4.heap[B + 1]? = some (.deferred (some [])) := by rw [← hW4]; exact (putObj_block (by omega)).trans h2
    have g4 : W4.heap[B]? = some (.cells #[v] 102 (0, 0)) := by rw [← hW4]; exact (putObj_block (by omega)).trans h4
    have g5 : W4.ownsRow B 106 2 v R.length (rngV R) := by rw [← hW4]; exact putObj_own h5 (own_not_loop h5 h1)
    have g7 : Below B w W4 := by rw [← hW4]; exact putObj_below h7 (by omega) (by have := (one_cell h4).2.2; omega)
    have hend2 : (Instr.endLoop (B + 2)).run Try.prog W2 = .ok none W4 := by rw [hend, hW4, hpd]
    refine ⟨none, W4, hend2, ?_⟩
    obtain ⟨c0, z0, l0⟩ := one_cell g4
    have G2 := Lib.hid g2
    have G4 := Lib.hid g4
    have G5 := Lib.hid g5
    have G7 := Lib.hid g7
    clear hW4 h1 h2 h4 h5 h7 g2 g4 g5 g7 hend hend2 hpd HRD hJ0
    simp only
    gi_wp2
    obtain ⟨W7, hW7⟩ : ∃ W7, W4.putObj (B + 1) (.deferred none) = W7 := ⟨_, rfl⟩
    have g5 : W7.ownsRow B 106 2 v R.length (rngV R) := by rw [← hW7]; exact putObj_own G5.out (own_not_deferred G5.out G2.out)
    have g7 : Below B w W7 := by rw [← hW7]; exact putObj_below G7.out (by omega) (by have := (one_cell G4.out).2.2; omega)
    refine ⟨by simp, .inl ⟨B + 1, W7, rfl, by rw [← hW7]; exact run_takeDeferred G2.out, ?_⟩⟩
    simp [LeavesInM, LeavesIn, settle, results, Try.results90, go_sem]
    rw [HB.out]
    exact ⟨g5, g7⟩
end Go.Proofs.Ytibohhiebejbmaa
/- Walks: Collect, right, bits.Runs. -/
namespace Go.Proofs.Ytibohhiebejbmaa
open Go.RowKit Go.Deep Go.Shelf
set_option linter.unusedVariables false
set_option linter.unusedSimpArgs false
set_option maxRecDepth 100000
attribute [local go_sem] Oper.semAt_some

set_option maxHeartbeats 2000000 in
theorem collect_in (m : Nat) (hm : 5 ≤ m) (gb go g c : Nat) (b : List Int) (hb : ∀ x ∈ b, 0 ≤ x ∧ x ≤ 255) (w : World) (h : BitsIn w gb go g c b) :
    CallsIn Fence.wide m Try.prog 87 #[.func (.func 91) #[] #[.pointer (some ⟨gb, 0, none⟩), .pointer (some ⟨go, 0, none⟩)]] w fun e w' =>
      ∃ v, e = .returned v ∧ w'.ownsRow w.heap.size 106 2 v (RR (bitB b) 0 3744).length (rngV (RR (bitB b) 0 3744)) ∧ Below w.heap.size w w' := by
  have h1m : 1 ≤ m := by omega
  have H := Lib.hid h
  have HBY := Lib.hid hb
  clear h hb
  refine callsIn_of_wp Try.func87 rfl trivial ?_ rfl
  simp only [Try.ntmps87, List.size_toArray, List.length_cons, List.length_nil, Nat.reduceAdd, Nat.reduceSub, Array.replicate_succ, Array.replicate_zero, List.push_toArray, List.append_toArray, List.nil_append, List.cons_append]
  gi_wp2_with (refine ⟨trivial, ?_⟩; gi_at_call 90; refine (appendseq_in (m - 1) (by omega) gb go g c b HBY.out _ H.out).mono ?_; rintro e w1 ⟨v, rfl, ho, hB⟩; (have HO := Lib.hid ho); (have HB := Lib.hid hB); clear ho hB)
  go_ret
  exact ⟨_, rfl, HO.out, HB.out⟩

set_option maxHeartbeats 2000000 in
theorem right_ok (h g c : Nat) (w : World) (hb : Blk w h [.int .i64 3744, .slice (some ⟨g, 0, none⟩) 468 c] 99) : Calls Try.prog 86 #[.slice (some ⟨h, 0, none⟩) 1 1] w fun e w' => e = .returned (.tuple #[]) ∧ Below w.heap.size w w' := by
  have H := Lib.hid hb
  clear hb
  go_enter Try.func86, Try.ntmps86
  go_wp2
  go_loopg [6] 2 (fun k v W => ∃ i : Nat, v = .int .i64 i ∧ i ≤ 1 ∧ 1 - i < k ∧ Hid (Below w.heap.size w W))
  case atStart => exact ⟨0, by simp, by omega, by omega, Lib.hid (Below.refl _ _)⟩
  case round =>
    obtain ⟨i, rfl, hi, hk, HB⟩ := hrel
    by_cases hlt : i < 1
    · have hi0 : i = 0 := by omega
      subst hi0
      have hx := H.out.on HB.out
      have c0 := hx.cell (j := 0) rfl
      have c1 := hx.cell (j := 1) rfl
      clear hx
      go_wp2_with (first
        | (go_at_call 84; refine (bcheck_at g c _).mono ?_; rintro e w1 ⟨rfl, hB⟩; (have HB1 := Lib.hid (below_then (below_al HB.out (.cells #[.int .i64 3744, .slice (some ⟨g, 0, none⟩) 468 c] 99)) (below_al HB.out (.cells #[.int .i64 3744, .slice (some ⟨g, 0, none⟩) 468 c] 99)).size hB)); clear hB)
        | (go_at_call 83; refine (want_ok 9 _).mono ?_; rintro e w2 ⟨rfl, rfl⟩))
      go_roundg 1
      case measure => omega
      case rel => exact ⟨1, by simp, by omega, by omega, HB1⟩
    · have hi1 : ¬ (i : Int) < 1 := by omega
      go_wp2
      go_end0
      exact ⟨rfl, HB.out⟩

set_option maxHeartbeats 2000000 in
theorem runs88_any (g c : Nat) (w : World) : Calls Try.prog 88 #[.agg #[.int .i64 3744, .slice (some ⟨g, 0, none⟩) 468 c], .bool true] w fun e w' =>
    e = .returned (.func (.func 91) #[] #[.pointer (some ⟨w.heap.size, 0, none⟩), .pointer (some ⟨w.heap.size + 1, 0, none⟩)]) ∧ w' = (w.alloc (.cells #[.int .i64 3744, .slice (some ⟨g, 0, none⟩) 468 c] 99)).alloc (.cells #[.bool true] 4) := by
  have hmf : ∀ (fn : Fn) (first cap : Array Value) (w : World), (Instr.makeFunc fn first cap).run Try.prog w = .ok (.func fn first cap) w := fun _ _ _ _ => rfl
  go_enter Try.func88, Try.ntmps88
  go_wp2
  go_ret
  simp

set_option maxHeartbeats 4000000 in
/-- caught, entered by a frame that returns. -/
theorem caught85_idle (m : Nat) (p q : Value) (w : World) : CallsDIn Fence.wide m Try.prog 85 #[p, q] .returning w fun e u' w' => e = .returned (.tuple #[]) ∧ u' = .returning ∧ w' = w := by
  refine callsDIn_of_wpSIn Try.func85 rfl trivial fun c₀ cs hu => ?_
  simp only [Try.ntmps85, List.size_toArray, List.length_cons, List.length_nil, Nat.reduceAdd, Nat.reduceSub, Array.replicate_succ, Array.replicate_zero, List.push_toArray, List.append_toArray, List.nil_append, List.cons_append]
  apply wpSIn_seq
  apply wpSIn_region
  simp [wpOpsSIn, go_sem, recoverD, hu, Exit.thenS]
  refine wpSIn_of_wpIn rfl ?_
  gi_wp2
  cases c₀
  simp_all [bodyPostS, results, Try.results85]

set_option maxHeartbeats 4000000 in
theorem bitsruns_in (m : Nat) (hm : 6 ≤ m) (g c : Nat) (b : List Int) (w : World) (h : By w g 468 b) (hb : ∀ x ∈ b, 0 ≤ x ∧ x ≤ 255) :
    CallsIn Fence.wide m Try.prog 69 #[.agg #[.int .i64 3744, .slice (some ⟨g, 0, none⟩) 468 c], .bool true] w fun e w' =>
      ∃ v, e = .returned (.tuple #[v, .int .i64 0]) ∧ w'.ownsRow w.heap.size 106 2 v (RR (bitB b) 0 3744).length (rngV (RR (bitB b) 0 3744)) ∧ Below w.heap.size w w' := by
  obtain ⟨R, hR⟩ : ∃ R, RR (bitB b) 0 3744 = R := ⟨_, rfl⟩
  rw [hR]
  have HR := Lib.hid hR
  have h1m : 1 ≤ m := by omega
  have H := Lib.hid h
  have HBY := Lib.hid hb
  clear h hb hR
  refine callsIn_of_wp_marks Try.func69 rfl trivial ?_ rfl
  simp only [Try.ntmps69, List.size_toArray, List.length_cons, List.length_nil, Nat.reduceAdd, Nat.reduceSub, Array.replicate_succ, Array.replicate_zero, List.push_toArray, List.append_toArray, List.nil_append, List.cons_append]
  obtain ⟨B, hB⟩ : ∃ B, w.heap.size = B := ⟨_, rfl⟩
  have HB := Lib.hid hB
  gi_upto_region 2 with (fail)
  obtain ⟨W0, hW0⟩ : ∃ W, ((w.alloc (.cells #[.int .i64 3744, .slice (some ⟨g, 0, none⟩) 468 c] 99)).alloc (.cells #[.slice none 0 0] 102)).alloc (.cells #[.int .i64 0] 35) = W := ⟨_, rfl⟩
  have K1 : Hid (Blk W0 B [.int .i64 3744, .slice (some ⟨g, 0, none⟩) 468 c] 99) := Lib.hid (by rw [← hW0, ← hB]; exact ((Blk.new w [.int .i64 3744, .slice (some ⟨g, 0, none⟩) 468 c] 99).alloc _).alloc _)
  have K2 : Hid (Blk W0 (B + 1) [.slice none 0 0] 102) := Lib.hid (by
    have h := (Blk.new (w.alloc (.cells #[.int .i64 3744, .slice (some ⟨g, 0, none⟩) 468 c] 99)) [.slice none 0 0] 102).alloc (.cells #[.int .i64 0] 35)
    rw [World.size_alloc, hB] at h
    rw [← hW0]
    exact h)
  have K3 : Hid (Blk W0 (B + 1 + 1) [.int .i64 0] 35) := Lib.hid (by
    have h := Blk.new ((w.alloc (.cells #[.int .i64 3744, .slice (some ⟨g, 0, none⟩) 468 c] 99)).alloc (.cells #[.slice none 0 0] 102)) [.int .i64 0] 35
    rw [World.size_alloc, World.size_alloc, hB] at h
    rw [← hW0]
    exact h)
  have HB0 : Hid (Below w.heap.size w W0) := Lib.hid (by rw [← hW0]; exact below_al (below_al (one_alloc _ _) _) _)
  rw [hW0]
  clear hW0 hB
  have k0 := K1.out.cell (j := 0) rfl
  have k1 := K1.out.cell (j := 1) rfl
  gi_upto_region 3 with (refine ⟨trivial, ?_⟩; gi_at_call 86; refine (callsIn_wide.2 (right_ok _ g c _ (Blk.new W0 [.int .i64 3744, .slice (some ⟨g, 0, none⟩) 468 c] 99))).mono ?_; rintro e w1 ⟨rfl, hb⟩; (have hb0 := below_then (one_alloc W0 (.cells #[.int .i64 3744, .slice (some ⟨g, 0, none⟩) 468 c] 99)) (one_alloc W0 (.cells #[.int .i64 3744, .slice (some ⟨g, 0, none⟩) 468 c] 99)).size hb); (have HB1 := Lib.hid (below_then HB0.out HB0.out.size hb0)); (have K1' := Lib.hid (K1.out.on hb0)); (have K2' := Lib.hid (K2.out.on hb0)); (have K3' := Lib.hid (K3.out.on hb0)); (have j0 := K1'.out.cell (j := 0) rfl); (have j1 := K1'.out.cell (j := 1) rfl); clear hb hb0)
  clear k0 k1
  have HBI : Hid (BitsIn ((w1.alloc (.cells #[.int .i64 3744, .slice (some ⟨g, 0, none⟩) 468 c] 99)).alloc (.cells #[.bool true] 4)) w1.heap.size (w1.heap.size + 1) g c b) := Lib.hid ⟨(Blk.new w1 [.int .i64 3744, .slice (some ⟨g, 0, none⟩) 468 c] 99).alloc _, by
    have h := Blk.new (w1.alloc (.cells #[.int .i64 3744, .slice (some ⟨g, 0, none⟩) 468 c] 99)) [.bool true] 4
    rw [World.size_alloc] at h
    exact h, H.out.on (below_al (below_al HB1.out _) _)⟩
  gi_wp2_with (first
    | (refine ⟨trivial, ?_⟩; gi_at_call 88; refine (callsIn_wide.2 (runs88_any g c _)).mono ?_; rintro e w2 ⟨rfl, hw2⟩; (have HB2 := Lib.hid (show Below w1.heap.size w1 w2 by rw [hw2]; exact below_al (one_alloc _ _) _)); (have HBI2 := Lib.hid (show BitsIn w2 w1.heap.size (w1.heap.size + 1) g c b by rw [hw2]; exact HBI.out)); clear hw2)
    | (refine ⟨trivial, ?_⟩; gi_at_call 87; refine (collect_in (m - 1) (by omega) w1.heap.size (w1.heap.size + 1) g c b HBY.out _ HBI2.out).mono ?_; rintro e w3 ⟨v, rfl, ho, hb⟩; obtain ⟨Av, cv, rfl, hcv⟩ := own_is_slice ho; rw [HR.out] at ho ⊢; (have HO := Lib.hid ho); (have hb3 := below_then HB2.out HB2.out.size hb); (have HB3 := Lib.hid (below_then HB1.out HB1.out.size hb3)); (have K2'' := Lib.hid (K2'.out.on hb3)); (have K3'' := Lib.hid (K3'.out.on hb3)); (have f2 := K2''.out.fz); (have f3 := K3''.out.fz); (have d2 := K2''.out.cell (j := 0) rfl); (have d3 := K3''.out.cell (j := 0) rfl); clear ho hb hb3))
  obtain ⟨W6, hW6⟩ : ∃ W, (w3.setCell ⟨B + 1, 0, none⟩ (.slice Av R.length cv)).setCell ⟨B + 1 + 1, 0, none⟩ (.int .i64 0) = W := ⟨_, rfl⟩
  have M1 : Blk W6 (B + 1) [.slice Av R.length cv] 102 := by rw [← hW6]; exact (K2''.out.set 0 _).far (by simp) _
  have M2 : Blk W6 (B + 1 + 1) [.int .i64 0] 35 := by rw [← hW6]; exact (K3''.out.far (by simp) _).set 0 _
  have hl2 : B + 1 + 1 < w2.heap.size := Nat.lt_of_lt_of_le K3'.out.lt HB2.out.size
  have MO : Hid (W6.ownsRow B 106 2 (.slice Av R.length cv) R.length (rngV R)) := Lib.hid (by rw [← hW6]; exact own_weak (own_st (own_st HO.out (by simp; omega)) (by simp; omega)) (by omega))
  have MB : Hid (Below w.heap.size w W6) := Lib.hid (by rw [← hW6]; exact below_st (below_st HB3.out (by rw [HB.out]; simp)) (by rw [HB.out]; simp; omega))
  rw [hW6]
  clear hW6 d2 d3 f2 f3
  have d1 := M1.cell (j := 0) rfl
  have d2 := M2.cell (j := 0) rfl
  have eg := enters_of Try.func85 (by kernel_rfl) rfl
  refine ⟨by simp, .inr ⟨fun _ => h1m, .func 85, #[], 85, #[.pointer (some ⟨B + 1, 0, none⟩), .pointer (some ⟨B + 1 + 1, 0, none⟩)], rfl, by simp [invoke, go_sem, eg], fun _ _ => trivial, ?_⟩⟩
  refine (caught85_idle (m - 1) _ _ W6).mono ?_
  rintro e u' w' ⟨rfl, rfl, rfl⟩
  simp [LeavesInM, LeavesIn, settle, results, Try.results69, go_sem, d1, d2]
  rw [HB.out]
  exact ⟨MO.out, by have := MB.out; rw [HB.out] at this; exact this⟩
end Go.Proofs.Ytibohhiebejbmaa
