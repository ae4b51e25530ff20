/- Walks: sane. -/
import Derived.Test.YtmlgjilflpdffaaWalkH
import Derived.Test.YtmlgjilflpdffaaWalkE
import Derived.Laws.BytesArg
import Derived.Lib.SlBytesConst
namespace Go.Proofs.Ytmlgjilflpdffaa
open Go.RowKit Go.Deep
set_option linter.unusedVariables false
set_option linter.unusedSimpArgs false

/-- A new block of bytes is read. -/
theorem rd_new (W : World) (n : Nat) (hn : n = W.heap.size) (xs : List Int) (fz : Nat × Nat) (hm : xs.length ≤ 9223372036854775807) : Rd (W.alloc (.cells (nums8 xs).toArray 5 fz)) .u8 (some ⟨n, 0, none⟩) xs.length xs :=
  ⟨rfl, hm, fun j hj => ⟨_, rfl, by
    subst hn
    rw [Addr.add_lit, cell_of_row _ _ _ (nums8 xs).toArray 5 fz (heap_alloc_new W _)]
    simp only [nums8, List.getElem?_toArray, List.getElem?_map, Nat.zero_add]
    rw [List.getElem?_eq_getElem hj]
    simp [List.getD_eq_getElem?_getD, List.getElem?_eq_getElem hj]⟩⟩

/-- Bytes that are read, as a string. -/
theorem Rd.str {w : World} {A : Option Addr} {n c : Nat} {xs : List Int} (h : Rd w .u8 A n xs) (hA : ∀ ad, A = some ad → ad.off = 0 ∧ ad.spot = none) (hc : n ≤ c) :
    (convert 22 9 (.slice A n c)).run Try.prog w = .ok (.string (strOfNums xs)) w := by
  cases A with
  | none =>
    have : n = 0 := by
      rcases Nat.eq_zero_or_pos n with h0 | h0
      · exact h0
      · obtain ⟨ad, e, _⟩ := h.at_ 0 h0; cases e
    have hx : xs = [] := List.eq_nil_of_length_eq_zero (by rw [h.len, this])
    rw [run_convert_bytes_nil w 22 5 Try.underlying22 Try.underlying5 n c 9 Try.underlying9, hx]
    rfl
  | some ad =>
    obtain ⟨h1, h2⟩ := hA ad rfl
    obtain ⟨b, o, s⟩ := ad
    simp at h1 h2
    subst h1; subst h2
    exact run_convert_bytes_arg w 22 5 Try.underlying22 Try.underlying5 b 0 n c xs h.len (fun i hi => by
      obtain ⟨ad, e, hcell⟩ := h.at_ i hi
      cases e
      rw [Addr.add_lit] at hcell
      exact hcell) 9 Try.underlying9

theorem sane_w : longestM [97, 98, 99, 97, 98, 99, 97, 98] 3 = (3, 5) ∧ pressM [97, 98, 99, 97, 98, 99, 97, 98] = [8, 97, 98, 99, 2, 32] ∧ widN 17 = 5 ∧ reach 17 = 2050 := by decide
theorem sane_t : tokensM 5 [2, 97, 2, 0] 0 [] = .ok ([lit 97, cpy 1 5], 6) := by rfl
theorem sane_t2 : tokensM 4 [4, 97, 98] 0 [] = .error 4 ∧ posM 4 0 [lit 97, cpy 1 5] = .ok 6 ∧ dataM [] [lit 97, cpy 1 5] = [97, 97, 97, 97, 97, 97] := ⟨by rfl, by rfl, by rfl⟩
theorem sane_b : Bytes [2, 97, 2, 0] ∧ Bytes [4, 97, 98] := ⟨by unfold Bytes; decide, by unfold Bytes; decide⟩
theorem drawn_below {w w' : World} (h : Drawn w w') : Below w.heap.size w w' := by
  obtain ⟨n, rfl⟩ := h.out
  exact below_drewN (Below.refl _ _) n
/-- A call on a literal: its new block, then the call. -/
theorem lit_below {n : Nat} {w w1 w2 : World} {o : Obj} (h : Below n w w1) (hn : n ≤ w1.heap.size) (h2 : Below (w1.alloc o).heap.size (w1.alloc o) w2) : Below n w w2 :=
  (below_then h hn (one_alloc w1 o)).trans ⟨h2.os, h2.tape, h2.output, h2.size, fun i hi => h2.block i (by simp; omega)⟩

theorem Rd.lit {w1 w2 : World} {o : Obj} {k : IntKind} {A : Option Addr} {n : Nat} {xs : List Int} (h : Rd w1 k A n xs) (hb : Below (w1.alloc o).heap.size (w1.alloc o) w2) : Rd w2 k A n xs := (h.below (one_alloc w1 o)).below hb
theorem own_at {A : Option Addr} {m : Nat} (h : ∀ ad, A = some ad → ad.off = 0 ∧ m ≤ ad.block ∧ ad.spot = none) : ∀ ad, A = some ad → ad.off = 0 ∧ ad.spot = none := fun ad e => ⟨(h ad e).1, (h ad e).2.2⟩

set_option maxRecDepth 100000 in
set_option maxHeartbeats 4000000 in
theorem sane_any (w : World) : Calls Try.prog 13 #[] w fun e W' => e = .returned (.bool true) ∧ Below w.heap.size w W' := by
  have kc := fun (w : World) (C : Array Value) (n c : Nat) => Lib.run_convert_bytes_const (P := Try.prog) w 22 5 C n c Try.underlying22 Try.underlying5
  obtain ⟨n, hn⟩ : ∃ n, w.heap.size = n := ⟨_, rfl⟩
  rw [hn]
  have HN := Lib.hid (Nat.le_of_eq hn.symm)
  clear hn
  go_enter Try.func13, Try.ntmps13
  go_wp2_with (first
    | (go_at_call 14; refine (Width_ok 17 _ (by omega) (by omega)).mono ?_; rintro e w1 ⟨rfl, hD⟩; (have HB1 := Lib.hid ((Below.refl n w).trans ((drawn_below hD).mono HN.out))); clear hD; rw [sane_w.2.2.1, sane_w.2.2.2])
    | (go_at_call 16; refine (Longest_ok _ 8 [97, 98, 99, 97, 98, 99, 97, 98] 3 (by decide) (by decide) _ (rd_new _ _ rfl _ _ (by decide)) (by rintro ad e; cases e; simp)).mono ?_; rintro e w2 ⟨rfl, hB⟩; (have HB2 := Lib.hid (lit_below HB1.out (Nat.le_trans HN.out HB1.out.size) hB)); clear hB; rw [sane_w.1])
    | (go_at_call 18; refine (Press_ok _ 8 [97, 98, 99, 97, 98, 99, 97, 98] (by decide) _ (rd_new _ _ rfl _ _ (by decide)) (by rintro ad e; cases e; simp)).mono ?_; rintro e w3 ⟨v3, rfl, hO3, hB⟩; rw [sane_w.2.1] at hO3; obtain ⟨A3, c3, rfl, hc3, hR3, hA3⟩ := own_bytes hO3 (by decide); (have HR3 := Lib.hid hR3); (have HB3 := Lib.hid (lit_below HB2.out (Nat.le_trans HN.out HB2.out.size) hB)); (have HC3 := Lib.hid hc3); (have HA3 := Lib.hid hA3); clear hB hO3 hR3 hc3 hA3)
    | (go_at_call 24; refine (Expand_ok _ 4 [2, 97, 2, 0] [lit 97, cpy 1 5] 6 _ (by decide) (rd_new _ _ rfl _ _ (by decide)) sane_b.1 (by decide) sane_t (by decide) (by decide) (by decide) sane_t2.2.1).mono ?_; rintro e w4 ⟨v4, rfl, hO4, hB⟩; rw [sane_t2.2.2] at hO4; obtain ⟨A4, c4, rfl, hc4, hR4, hA4⟩ := own_bytes hO4 (by decide); (have HR4 := Lib.hid hR4); (have HB4 := Lib.hid (lit_below HB3.out (Nat.le_trans HN.out HB3.out.size) hB)); (have HT4 := Lib.hid hB); (have HC4 := Lib.hid hc4); (have HA4 := Lib.hid hA4); clear hB hO4 hR4 hc4 hA4)
    | (go_at_call 26; refine (Size_ok _ 4 [2, 97, 2, 0] [lit 97, cpy 1 5] 6 _ (by decide) (rd_new _ _ rfl _ _ (by decide)) sane_b.1 (by decide) sane_t).mono ?_; rintro e w5 ⟨rfl, hB⟩; (have HB5 := Lib.hid (lit_below HB4.out (Nat.le_trans HN.out HB4.out.size) hB)); (have HT5 := Lib.hid hB); clear hB)
    | (go_at_call 19; refine (Tokens_err _ 3 [4, 97, 98] 4 _ (by decide) (rd_new _ _ rfl _ _ (by decide)) sane_b.2 (by decide) sane_t2.1).mono ?_; rintro e w6 ⟨rfl, hB⟩; (have HB6 := Lib.hid (lit_below HB5.out (Nat.le_trans HN.out HB5.out.size) hB)); (have hR3 := ((HR3.out.lit HT4.out).lit HT5.out).lit hB); (have hR4 := (HR4.out.lit HT5.out).lit hB); (have k3 : (convert 22 9 (.slice A3 6 c3)).run Try.prog w6 = .ok (.string { data := #[8, 97, 98, 99, 2, 32] }) w6 := hR3.str (own_at HA3.out) HC3.out); (have k4 : (convert 22 9 (.slice A4 6 c4)).run Try.prog w6 = .ok (.string { data := #[97, 97, 97, 97, 97, 97] }) w6 := hR4.str (own_at HA4.out) HC4.out); clear hB hR3 hR4))
  go_ret
  exact ⟨rfl, HB6.out⟩
end Go.Proofs.Ytmlgjilflpdffaa
