/- Walks: the laws NamesSorts and NamesSorted. -/
import Derived.Test.YtmbdiimenmnfjaaDoorGs
import Derived.Test.YtmbdiimenmnfjaaDoorGf
namespace Go.Proofs.YtmbdiimenmnfjaaDoor
open Go.RowKit Go.Deep
open Go.BigFrame
set_option linter.unusedVariables false
set_option linter.unusedSimpArgs false

theorem got_one {w w' W W' : World} {l d d' : List ByteArray} {A A' : Option Addr} {c c' : Nat} (h : Got w l A c d W) (h' : Got w' l A' c' d' W') : d = d' := by
  have h1 := h.sv.len
  have h2 := h'.sv.len
  exact sorted_one (h.perm.trans h'.perm.symm) (by rw [h1]; exact h.so) (by rw [h2]; exact h'.so)

theorem got_again {w w' W W' : World} {l d d' : List ByteArray} {A A' : Option Addr} {c c' : Nat} (h : Got w l A c d W) (h' : Got w' d A' c' d' W') (hl : l.length ≤ 30) : RdS W' A' l.length d := by
  have h1 := h.sv.len
  have h2 := h'.sv.len
  have e : d' = d := sorted_one h'.perm (by rw [h2]; exact h'.so) (by rw [h1]; exact h.so)
  have h3 := h'.sv.rds (by omega)
  rw [e, h1] at h3
  exact h3

set_option maxRecDepth 100000 in
set_option maxHeartbeats 8000000 in
theorem law_NamesSorts (A1 : Option Addr) (c1 : Nat) (l : List ByteArray) (hc1 : l.length ≤ c1) (hN1 : A1 = none → c1 = 0) (hm1 : l.length ≤ 9223372036854775807)
    (w : World) (ht : Tab w) (hR1 : RdS w A1 l.length l) : Calls Tryd.prog 12 #[.slice A1 l.length c1] w fun e w' => e = .returned (.bool true) ∧ Below w.heap.size w w' := by
  have HT := Lib.hid ht
  have HR1 := Lib.hid hR1
  clear ht hR1
  obtain ⟨f, hf⟩ : ∃ f, fewM l = f := ⟨_, rfl⟩
  have HF := Lib.hid hf
  cases f with
  | false =>
    clear hf
    go_enter Tryd.func12, Tryd.ntmps12
    go_wp2_with (first
      | ((have hgd := HB1); clear hgd; go_at_call 15; refine (sanity_any _ (HT.out.below HB1.out)).mono ?_; rintro e w2 ⟨rfl, hB⟩; (have HB2 := Lib.hid (below_then HB1.out HB1.out.size hB)); clear hB)
      | (go_at_call 14; refine (few_any2 A1 c1 l _ HR1.out hc1 hm1).mono ?_; rintro e w1 ⟨rfl, hB⟩; rw [HF.out]; (have HB1 := Lib.hid (below_drawn (Below.refl w.heap.size w) hB)); clear hB))
    go_ret
    exact ⟨rfl, HB2.out⟩
  | true =>
  have hz2 := (few_is hf).1
  have hl30 := (few_is hf).2
  have HTZ : Hid (∀ t ∈ l, t.size ≤ 400) := Lib.hid hz2
  clear hf hz2
  go_enter Tryd.func12, Tryd.ntmps12
  go_wp2_with (first
    | ((have hgd := HG2); clear hgd; go_at_call 41; refine (same_lists A2 A3 l.length c2 c3 d2 _ (HG1.out.sv.rds (by omega)|>.below HBx.out) (HR3.out)).mono ?_; rintro e w5 ⟨rfl, hB⟩; (have HB5 := Lib.hid (below_then HB4.out HB4.out.size hB)); clear hB)
    | ((have hgd := HG1); clear hgd; go_at_call 43; refine (rsort_any A1 l.length c1 l rfl hN1 _ (HR1.out.below HB3.out) hc1 (by omega) HTZ.out).mono ?_; rintro e w4 ⟨A3, c3, d3, rfl, hG⟩; (have HBx := Lib.hid hG.sv.bel); (have HB4 := Lib.hid (below_then HB3.out HB3.out.size hG.sv.bel)); (have hE := got_one hG HG1.out); (have HR3 : Hid (RdS w4 A3 l.length d2) := Lib.hid (by have h1 := hG.sv.rds (by omega); rw [hE] at h1; exact h1)); (have HG2 := Lib.hid hE); clear hG hE)
    | ((have hgd := HB2); clear hgd; go_at_call 42; refine (sort_any A1 l.length c1 l rfl _ (HR1.out.below HB2.out) (by omega) HTZ.out).mono ?_; rintro e w3 ⟨A2, c2, d2, rfl, hG⟩; (have HB3 := Lib.hid (below_then HB2.out HB2.out.size hG.sv.bel)); (have HG1 := Lib.hid hG); clear hG)
    | ((have hgd := HB1); clear hgd; go_at_call 15; refine (sanity_any _ (HT.out.below HB1.out)).mono ?_; rintro e w2 ⟨rfl, hB⟩; (have HB2 := Lib.hid (below_then HB1.out HB1.out.size hB)); clear hB)
    | (go_at_call 14; refine (few_any2 A1 c1 l _ HR1.out hc1 hm1).mono ?_; rintro e w1 ⟨rfl, hB⟩; rw [HF.out]; (have HB1 := Lib.hid (below_drawn (Below.refl w.heap.size w) hB)); clear hB))
  go_ret
  exact ⟨rfl, HB5.out⟩

/-- How often a string is in a list. -/
def cntS (x : ByteArray) (l : List ByteArray) : Nat := (l.filter fun y => y.toList == x.toList).length
theorem cntS_perm {x : ByteArray} {l d : List ByteArray} (h : d.Perm l) : cntS x d = cntS x l := (h.filter _).length_eq
theorem cntS_take {x : ByteArray} {l : List ByteArray} {k : Nat} (hk : k < l.length) : cntS x (l.take (k + 1)) = cntS x (l.take k) + if (l.getD k ByteArray.empty).toList == x.toList then 1 else 0 := by
  have e : l.take (k + 1) = l.take k ++ [l.getD k ByteArray.empty] := by
    rw [List.take_add_one, List.getD_eq_getElem?_getD, List.getElem?_eq_getElem hk]; rfl
  rw [e]
  generalize l.getD k ByteArray.empty = y
  unfold cntS
  rw [List.filter_append, List.length_append]
  congr 1
  cases h : y.toList == x.toList <;> simp [List.filter, h]
theorem cntS_step {x : ByteArray} {l d : List ByteArray} {k : Nat} (hk : k < l.length) (hd : k < d.length) {z : Int} (hz : (cntS x (l.take k) : Int) - (cntS x (d.take k) : Int) = z) {X Y : ByteArray} (hX : l.getD k ByteArray.empty = X) (hY : d.getD k ByteArray.empty = Y) {B1 B2 : Bool}
    (h1 : (X.toList == x.toList) = B1) (h2 : (Y.toList == x.toList) = B2) : (cntS x (l.take (k + 1)) : Int) - (cntS x (d.take (k + 1)) : Int) = z + (if B1 then 1 else 0) - (if B2 then 1 else 0) := by
  rw [cntS_take hk, cntS_take hd, hX, hY, h1, h2]
  cases B1 <;> cases B2 <;> simp <;> omega
theorem cntS_le (x : ByteArray) (l : List ByteArray) : cntS x l ≤ l.length := List.length_filter_le _ _
theorem cntS_bd (x : ByteArray) (l : List ByteArray) (k : Nat) (hl : l.length ≤ 30) : cntS x (l.take k) ≤ 30 := by
  have := cntS_le x (l.take k)
  rw [List.length_take] at this
  omega

set_option maxRecDepth 100000 in
set_option maxHeartbeats 8000000 in
theorem law_NamesSorted (A1 : Option Addr) (c1 : Nat) (l : List ByteArray) (hc1 : l.length ≤ c1) (hN1 : A1 = none → c1 = 0) (hm1 : l.length ≤ 9223372036854775807)
    (w : World) (ht : Tab w) (hR1 : RdS w A1 l.length l) : Calls Tryd.prog 13 #[.slice A1 l.length c1] w fun e w' => e = .returned (.bool true) ∧ Below w.heap.size w w' := by
  have HT := Lib.hid ht
  have HR1 := Lib.hid hR1
  clear ht hR1
  obtain ⟨f, hf⟩ : ∃ f, fewM l = f := ⟨_, rfl⟩
  have HF := Lib.hid hf
  cases f with
  | false =>
    clear hf
    go_enter Tryd.func13, Tryd.ntmps13
    go_wp2_with (first
      | ((have hgd := HB1); clear hgd; go_at_call 15; refine (sanity_any _ (HT.out.below HB1.out)).mono ?_; rintro e w2 ⟨rfl, hB⟩; (have HB2 := Lib.hid (below_then HB1.out HB1.out.size hB)); clear hB)
      | (go_at_call 14; refine (few_any2 A1 c1 l _ HR1.out hc1 hm1).mono ?_; rintro e w1 ⟨rfl, hB⟩; rw [HF.out]; (have HB1 := Lib.hid (below_drawn (Below.refl w.heap.size w) hB)); clear hB))
    go_ret
    exact ⟨rfl, HB2.out⟩
  | true =>
  have hz2 := (few_is hf).1
  have hl30 := (few_is hf).2
  have HTZ : Hid (∀ t ∈ l, t.size ≤ 400) := Lib.hid hz2
  have hne : ((l.length : Int) != (l.length : Int)) = false := by simp
  clear hf hz2
  go_enter Tryd.func13, Tryd.ntmps13
  go_upto_region 6 with (first
    | ((have hgd := HB3); clear hgd; go_at_call 41; refine (same_lists A3 A2 l.length c3 c2 d2 _ (HR3.out) (HR2.out.below HBx.out)).mono ?_; rintro e w5 ⟨rfl, hB⟩; (have HR2b := Lib.hid (HR2.out.below HBx.out |>.below hB)); (have HB5 := Lib.hid (below_then HB3.out HB3.out.size hB)); clear hB)
    | ((have hgd := HG1); clear hgd; go_at_call 42; refine (sort_any A2 l.length c2 d2 HG1.out.sv.len _ HR2.out (by omega) HZ2.out).mono ?_; rintro e w4 ⟨A3, c3, d3, rfl, hG⟩; (have HR3 : Hid (RdS w4 A3 l.length d2) := Lib.hid (got_again HG1.out hG (by omega))); (have HBx := Lib.hid hG.sv.bel); (have HB3 := Lib.hid (below_then HB2.out HB2.out.size hG.sv.bel)); clear hG)
    | ((have hgd := HB1); clear hgd; go_at_call 42; refine (sort_any A1 l.length c1 l rfl _ (HR1.out.below HB1.out) (by omega) HTZ.out).mono ?_; rintro e w3 ⟨A2, c2, d2, rfl, hG⟩; (have HR2 : Hid (RdS w3 A2 l.length d2) := Lib.hid (hG.sv.rds (by omega))); (have HZ2 : Hid (∀ t ∈ d2, t.size ≤ 400) := Lib.hid fun t h => HTZ.out t (hG.perm.mem_iff.1 h)); (have HB2 := Lib.hid (below_then HB1.out HB1.out.size hG.sv.bel)); (have HG1 := Lib.hid hG); clear hG)
    | (go_at_call 14; refine (few_any2 A1 c1 l _ HR1.out hc1 hm1).mono ?_; rintro e w1 ⟨rfl, hB⟩; rw [HF.out]; (have HB1 := Lib.hid (below_drawn (Below.refl w.heap.size w) hB)); clear hB))
  obtain ⟨N, hN⟩ : ∃ N, l.length = N := ⟨_, rfl⟩
  have HN := Lib.hid hN
  have hd2 := HG1.out.sv.len
  have HD2 := Lib.hid hd2
  have HSO : Hid (SoIn d2 0 N) := Lib.hid (by rw [← hN]; exact HG1.out.so)
  have HPE : Hid (d2.Perm l) := Lib.hid HG1.out.perm
  have HR2c : Hid (RdS w5 A2 N d2) := Lib.hid (by rw [← hN]; exact HR2b.out)
  have HR1c : Hid (RdS w A1 N l) := Lib.hid (by rw [← hN]; exact HR1.out)
  have HB6 : Hid (Below w5.heap.size w5 w5) := Lib.hid (Below.refl _ _)
  have hN30 : N ≤ 30 := by omega
  clear hne HR1 HR2 HR2b HR3 HG1 HBx HB1 HB2 HB3 hd2 hc1 hm1 hl30
  rw [hN]
  clear hN
  go_wp2
  go_loopw [4] (fun v W => ∃ i : Nat, v = .int .i64 i ∧ i ≤ N ∧ Hid (Below w.heap.size w W) ∧ Hid (Below w5.heap.size w5 W)) (fun v _ => N - (intOf v).toNat)
  case atStart => exact ⟨0, rfl, by omega, HB5, HB6⟩
  case round =>
    clear HB5 HB6
    obtain ⟨i, rfl, hi, HB, HB'⟩ := hrel
    by_cases hlt : i < N
    · have hlti : (i : Int) < N := by omega
      obtain ⟨ad, hA, hcx⟩ := (HR2c.out.below HB'.out).at_ i hlt
      subst hA
      obtain ⟨x, hx⟩ : ∃ x, d2.getD i ByteArray.empty = x := ⟨_, rfl⟩
      rw [hx] at hcx
      have HX := Lib.hid hx
      have hxz : x.size ≤ 400 := HZ2.out x (by rw [← hx, List.getD_eq_getElem?_getD, List.getElem?_eq_getElem (by have := HD2.out; have := HN.out; omega)]; exact List.getElem_mem _)
      clear hx
      go_upto_region 9 with (fail)
      go_cut [45] (fun v45 wc => v45 = .bool false ∧ Hid (Below w.heap.size w wc) ∧ Hid (Below w5.heap.size w5 wc))
      case first =>
        by_cases h0 : i = 0
        · have hqd : decide (0 < i) = false := decide_eq_false (by omega)
          go_quiet (fail)
          go_wp2
          go_meet
          case rel => exact ⟨rfl, Lib.hid (below_then HB.out HB.out.size (below_drewN (Below.refl _ _) _)), Lib.hid (below_then HB'.out HB'.out.size (below_drewN (Below.refl _ _) _))⟩
        · obtain ⟨p, hp⟩ : ∃ p, i - 1 = p := ⟨_, rfl⟩
          obtain ⟨ad', hA', hcy⟩ := (HR2c.out.below HB'.out).at_ p (by omega)
          cases hA'
          obtain ⟨y, hy⟩ : ∃ y, d2.getD p ByteArray.empty = y := ⟨_, rfl⟩
          rw [hy] at hcy
          have hyz : y.size ≤ 400 := HZ2.out y (by rw [← hy, List.getD_eq_getElem?_getD, List.getElem?_eq_getElem (by have := HD2.out; have := HN.out; omega)]; exact List.getElem_mem _)
          obtain ⟨V, hV⟩ : ∃ V, compareM y x = V := ⟨_, rfl⟩
          have hle : ¬ 0 < V := by
            have h1 := HSO.out p i (Nat.zero_le _) (by omega) hlt
            have h2 : compareM (d2.getD p ByteArray.empty) (d2.getD i ByteArray.empty) ≤ 0 := h1
            rw [hy, HX.out, hV] at h2
            omega
          have HCV := Lib.hid hV
          have hpi : (p : Int) < N := by omega
          have hqd : decide (0 < i) = true := decide_eq_true (by omega)
          have hwp : IntKind.i64.wrap ((i : Int) - 1) = (p : Int) := i64_is (by omega) (by omega)
          clear hV hy hp
          obtain ⟨S, hne, f, hf1, hf2⟩ := grown_class wr
          have q1 : ∀ u, (f u).cell? (ad.add i) = some (.string x) := fun u => cell_keep (hf2 u) hcx
          have q2 : ∀ u, (f u).cell? (ad.add p) = some (.string y) := fun u => cell_keep (hf2 u) hcy
          have HF1 := Lib.hid hf1
          have HF2 := Lib.hid hf2
          clear hf1 hf2
          refine region_quiet_f f (by kernel_rfl) (HF1.out _ (below_drew1 (Below.refl _ _))) ?_
          repeat (go_big_quiet_step ((go_at_call 21; refine (compare_v y x V HCV.out (by omega) (by omega) _).mono ?_; rintro e w6 ⟨rfl, hB⟩; exact ⟨rfl, HF1.out _ (below_then (HF2.out _) (HF2.out _).size hB)⟩)))
          refine wpQuiet_nil ?_
          rintro W5 ⟨u, rfl⟩
          have HB7 := Lib.hid (below_then HB.out HB.out.size (HF2.out u))
          have HB8 := Lib.hid (below_then HB'.out HB'.out.size (HF2.out u))
          generalize f u = W5 at *
          go_wp2
          go_meet
          case rel => exact ⟨by simp <;> omega, HB7, HB8⟩
      case rest =>
        clear HB HB' hcx
        obtain ⟨rfl, HB, HB'⟩ := hcut
        go_wp2
        go_loopw [5, 6] (fun v5 v6 W => ∃ (k : Nat) (z : Int), v6 = .int .i64 k ∧ k ≤ N ∧ v5 = .int .i64 z ∧ Hid ((cntS x (l.take k) : Int) - (cntS x (d2.take k) : Int) = z) ∧ Hid (Below w.heap.size w W) ∧ Hid (Below w5.heap.size w5 W)) (fun _ v6 _ => N - (intOf v6).toNat)
        case atStart => exact ⟨0, 0, rfl, by omega, rfl, Lib.hid (by simp [cntS]), HB, HB'⟩
        case round =>
          clear HB HB'
          obtain ⟨k, z, rfl, hk, rfl, HZZ, HB, HB'⟩ := hrel
          by_cases hlk : k < N
          · have hlki : (k : Int) < N := by omega
            obtain ⟨al, hAl, hcl⟩ := (HR1c.out.below HB.out).at_ k hlk
            obtain ⟨a5, hAs, hcs⟩ := (HR2c.out.below HB'.out).at_ k hlk
            obtain ⟨ax, hAx, hcx⟩ := (HR2c.out.below HB'.out).at_ i hlt
            subst hAl
            cases hAs
            cases hAx
            rw [HX.out] at hcx
            obtain ⟨X, hX⟩ : ∃ X, l.getD k ByteArray.empty = X := ⟨_, rfl⟩
            obtain ⟨Y, hY⟩ : ∃ Y, d2.getD k ByteArray.empty = Y := ⟨_, rfl⟩
            rw [hX] at hcl
            rw [hY] at hcs
            obtain ⟨B1, h1⟩ : ∃ B, (X.toList == x.toList) = B := ⟨_, rfl⟩
            obtain ⟨B2, h2⟩ : ∃ B, (Y.toList == x.toList) = B := ⟨_, rfl⟩
            have HST := Lib.hid (cntS_step (by have := HN.out; omega) (by have := HD2.out; have := HN.out; omega) HZZ.out hX hY h1 h2)
            have hzb : -30 ≤ z ∧ z ≤ 30 := by
              have e1 := HZZ.out
              have e2 := cntS_bd x l k (by have := HN.out; omega)
              have e3 := cntS_bd x d2 k (by have := HD2.out; have := HN.out; omega)
              omega
            have hw1 : IntKind.i64.wrap (z + 1) = z + 1 := IntWalk.i64_in _ (by omega)
            have hw2 : IntKind.i64.wrap (z - 1) = z - 1 := IntWalk.i64_in _ (by omega)
            clear hX hY
            cases B1 <;> cases B2
            all_goals
              go_wp2
              go_quiet (fail)
              go_wp2
              go_quiet (fail)
              go_wp2
              refine ⟨⟨k + 1, _, by simp, by omega, rfl, Lib.hid (by rw [HST.out]; simp <;> omega), Lib.hid ?_, Lib.hid ?_⟩, by simp only [intOf]; omega⟩
              · exact below_then HB.out HB.out.size (below_drewN (Below.refl _ _) _)
              · exact below_then HB'.out HB'.out.size (below_drewN (Below.refl _ _) _)
          · have hke : k = N := by omega
            have hz0 : z = 0 := by
              have e1 := HZZ.out
              rw [hke, List.take_of_length_le (by rw [HN.out]; exact Nat.le_refl _), List.take_of_length_le (by rw [HD2.out, HN.out]; exact Nat.le_refl _), cntS_perm HPE.out] at e1
              omega
            subst hz0
            have hlki : ¬ (k : Int) < N := by omega
            clear hke
            go_wp2
            exact ⟨⟨i + 1, by simp, by omega, HB, HB'⟩, by simp only [intOf]; omega⟩
    · have hlti : ¬ (i : Int) < N := by omega
      go_wp2_with (go_at_call 15; refine (sanity_any _ (HT.out.below HB.out)).mono ?_; rintro e w9 ⟨rfl, hB⟩; (have HB9 := Lib.hid (below_then HB.out HB.out.size hB)); clear hB)
      go_ret
      exact ⟨rfl, HB9.out⟩
end Go.Proofs.YtmbdiimenmnfjaaDoor
/- NamesSorts: for every input the law returns true and leaves its arguments as they were; the three listed tables of the library are tied to the program's text. Conditions: none beyond the row. -/
namespace Go.Proofs.YtmbdiimenmnfjaaDoor
open Go.Shelf Go.ChangeShapes Go.WideShapes Go.ChangeAt Go.RowKit Go.Deep
open Go.ChangeMaps (open_string shut_string)
set_option linter.unusedVariables false
set_option maxRecDepth 100000

theorem namesSorts_witness (os : Os) {H : Type} (enc : TypeId × Value → H) :
    (OpenSpec.ofChange Rows.namesSortsSpec).preRow enc Tryd.prog Tryd.f12 Rows.namesSortsRow.domain false Rows.namesSortsRow.laid ((laidWorld os).forCall (fun _ _ => 0) ⟨#[], #[.slice none 0 0], []⟩).memory #[.slice none 0 0] := by
  have hw : (DataW.whole enc Tryd.prog ((laidWorld os).forCall (fun _ _ => 0) ⟨#[], #[.slice none 0 0], []⟩).memory Tryd.f12.params.toList (OpenSpec.ofChange Rows.namesSortsSpec).vars false ((#[.slice none 0 0] : Array Value).toList) 8).map (fun x => (x.1, x.2.1)) =
      some ([.nil], []) := by kernel_rfl
  obtain ⟨⟨x1, x2, x3⟩, hx, hx1⟩ := Option.map_eq_some_iff.1 hw
  simp only [Prod.mk.injEq] at hx1
  obtain ⟨rfl, rfl⟩ := hx1
  exact OpenSpec.preRow_of_cond 8 hx (by kernel_rfl) (fun k hk => by cases hk) (by kernel_rfl) (laid_met os _)

set_option maxHeartbeats 2000000 in
theorem namesSorts_lifted (os : Os) (started : os.Started) (H : Type) (enc : TypeId × Value → H) (F : Stop.Interp) :
    ReturnsInHanded {} Tryd.checked os 12 .any ((OpenSpec.ofChange Rows.namesSortsSpec).preRow enc Tryd.prog Tryd.f12 Rows.namesSortsRow.domain false Rows.namesSortsRow.laid) (((OpenSpec.ofChange Rows.namesSortsSpec).at F).post enc Tryd.prog Tryd.f12 false true false false) := by
  refine returnsInHanded_of_row (C := Tryd.checked) (s := (OpenSpec.ofChange Rows.namesSortsSpec)) Tryd.own started (by kernel_rfl) Tryd.func12
    (witness_row_atRef (enc := enc) (C := Tryd.checked) false (laidWorld os) #[.slice none 0 0] rfl (by kernel_rfl) (by kernel_rfl) (by kernel_rfl) (namesSorts_witness os enc)) ?_
  intro W base args ds gs before hval0 hW hcnd0 _ _ hL _ _
  have hval : ∀ (j : Nat) t v, Tryd.f12.params[j]? = some t → args[j]? = some v → Value.okWide Tryd.prog W .any base t v := hval0
  have hW' := hW
  obtain ⟨p, q, hA0, hV0, rfl, _, _⟩ := hW
  have hA : DataW.TrodAll enc Tryd.prog W 0 (fun _ => true) true Tryd.f12.params.toList args.toList ds p := hA0
  rw [Tryd.params12] at hA hval
  obtain ⟨v0, d0, rfl, rfl, h0⟩ := trodAll_one hA
  obtain ⟨rfl, rfl⟩ := trodVars_none hV0
  obtain ⟨A0, c0, b0, rfl, hc0, hm0, hR0, hN0⟩ := open_taken2 (hval 0 33 v0 rfl rfl) h0
  clear hA0 hV0 hval0
  have hlt0 : ∀ x ∈ p, x.block < W.heap.size := fun x hx => hW'.lt x (by simp [hx])
  refine (law_NamesSorts A0 c0 b0 hc0 hN0 (by unfold maxLen at hm0; omega) W (tab_of_laid hL) hR0).mono ?_
  rintro e W' ⟨rfl, bel⟩
  refine ⟨_, rfl, _, _, _, [], _, [], hW', trodAll_mk1 (shut_bool true), trodAll_mk1 (Below.trod Tryd.laidOut (by kernel_rfl) (of_decide_eq_true (by kernel_rfl)) h0 bel hlt0), rfl, bel.frame _, fun h => by cases h⟩

theorem namesSorts_said : Rows.NamesSortsSaid :=
  OpenClaim.holds_of_cond 12 Tryd.f12 rfl rfl rfl rfl rfl rfl rfl ⟨rfl, rfl, rfl, rfl, rfl⟩ rfl rfl rfl rfl rfl (by kernel_rfl) Tryd.func12 (by kernel_rfl)
    (of_decide_eq_true (by kernel_rfl)) (by unfold Func.isWrapper; rw [if_neg (of_decide_eq_false (by kernel_rfl))]; exact ⟨rfl, rfl⟩)
    (fun os started H enc _ F0 => by rw [OpenClaim.pre_eq_preRow]; exact namesSorts_lifted os started H enc F0)

/-- The tied card. -/
theorem namesSorts_holds : Rows.NamesSortsCardSaid :=
  Claim7.holds_tied_plain_at .later [] [.data, .data, .data] true (true, "66086631d20495c7847d46aa70f2f13bc49942b8d180c92b9434ef6fd88d0904") true
    namesSorts_said (fun _ h => by cases h) (by kernel_rfl) (fun _ h => by cases h) namesSorts_row_tie rfl ⟨rfl, rfl⟩ (by kernel_rfl) rfl
    (fun f fn hf hfn => by
      obtain rfl : f = 12 := Option.some.inj ((show Tryd.prog.funcNamed "archivolt/archivoltlaw05.NamesSorts" = some 12 by kernel_rfl).symm.trans hf) |>.symm
      obtain rfl : fn = Tryd.f12 := (Option.some.inj (Tryd.func12.symm.trans hfn)).symm
      refine ⟨by kernel_rfl, fun j t ht => ?_⟩
      rw [Tryd.params12] at ht
      have hm := List.mem_of_getElem? (l := [33]) (by simpa using ht)
      have hall : ∀ t ∈ ([33] : List TypeId), Tryd.prog.wantsStandIn t = false := by
        intro t ht
        simp only [List.mem_cons, List.not_mem_nil, or_false] at ht
        rcases ht with rfl <;> kernel_rfl
      exact hall t hm)
    (by kernel_rfl)
#print axioms namesSorts_holds
end Go.Proofs.YtmbdiimenmnfjaaDoor
/- NamesSorted: for every input the law returns true and leaves its arguments as they were; the three listed tables of the library are tied to the program's text. Conditions: none beyond the row. -/
namespace Go.Proofs.YtmbdiimenmnfjaaDoor
open Go.Shelf Go.ChangeShapes Go.WideShapes Go.ChangeAt Go.RowKit Go.Deep
open Go.ChangeMaps (open_string shut_string)
set_option linter.unusedVariables false
set_option maxRecDepth 100000

theorem namesSorted_witness (os : Os) {H : Type} (enc : TypeId × Value → H) :
    (OpenSpec.ofChange Rows.namesSortedSpec).preRow enc Tryd.prog Tryd.f13 Rows.namesSortedRow.domain false Rows.namesSortedRow.laid ((laidWorld os).forCall (fun _ _ => 0) ⟨#[], #[.slice none 0 0], []⟩).memory #[.slice none 0 0] := by
  have hw : (DataW.whole enc Tryd.prog ((laidWorld os).forCall (fun _ _ => 0) ⟨#[], #[.slice none 0 0], []⟩).memory Tryd.f13.params.toList (OpenSpec.ofChange Rows.namesSortedSpec).vars false ((#[.slice none 0 0] : Array Value).toList) 8).map (fun x => (x.1, x.2.1)) =
      some ([.nil], []) := by kernel_rfl
  obtain ⟨⟨x1, x2, x3⟩, hx, hx1⟩ := Option.map_eq_some_iff.1 hw
  simp only [Prod.mk.injEq] at hx1
  obtain ⟨rfl, rfl⟩ := hx1
  exact OpenSpec.preRow_of_cond 8 hx (by kernel_rfl) (fun k hk => by cases hk) (by kernel_rfl) (laid_met os _)

set_option maxHeartbeats 2000000 in
theorem namesSorted_lifted (os : Os) (started : os.Started) (H : Type) (enc : TypeId × Value → H) (F : Stop.Interp) :
    ReturnsInHanded {} Tryd.checked os 13 .any ((OpenSpec.ofChange Rows.namesSortedSpec).preRow enc Tryd.prog Tryd.f13 Rows.namesSortedRow.domain false Rows.namesSortedRow.laid) (((OpenSpec.ofChange Rows.namesSortedSpec).at F).post enc Tryd.prog Tryd.f13 false true false false) := by
  refine returnsInHanded_of_row (C := Tryd.checked) (s := (OpenSpec.ofChange Rows.namesSortedSpec)) Tryd.own started (by kernel_rfl) Tryd.func13
    (witness_row_atRef (enc := enc) (C := Tryd.checked) false (laidWorld os) #[.slice none 0 0] rfl (by kernel_rfl) (by kernel_rfl) (by kernel_rfl) (namesSorted_witness os enc)) ?_
  intro W base args ds gs before hval0 hW hcnd0 _ _ hL _ _
  have hval : ∀ (j : Nat) t v, Tryd.f13.params[j]? = some t → args[j]? = some v → Value.okWide Tryd.prog W .any base t v := hval0
  have hW' := hW
  obtain ⟨p, q, hA0, hV0, rfl, _, _⟩ := hW
  have hA : DataW.TrodAll enc Tryd.prog W 0 (fun _ => true) true Tryd.f13.params.toList args.toList ds p := hA0
  rw [Tryd.params13] at hA hval
  obtain ⟨v0, d0, rfl, rfl, h0⟩ := trodAll_one hA
  obtain ⟨rfl, rfl⟩ := trodVars_none hV0
  obtain ⟨A0, c0, b0, rfl, hc0, hm0, hR0, hN0⟩ := open_taken2 (hval 0 33 v0 rfl rfl) h0
  clear hA0 hV0 hval0
  have hlt0 : ∀ x ∈ p, x.block < W.heap.size := fun x hx => hW'.lt x (by simp [hx])
  refine (law_NamesSorted A0 c0 b0 hc0 hN0 (by unfold maxLen at hm0; omega) W (tab_of_laid hL) hR0).mono ?_
  rintro e W' ⟨rfl, bel⟩
  refine ⟨_, rfl, _, _, _, [], _, [], hW', trodAll_mk1 (shut_bool true), trodAll_mk1 (Below.trod Tryd.laidOut (by kernel_rfl) (of_decide_eq_true (by kernel_rfl)) h0 bel hlt0), rfl, bel.frame _, fun h => by cases h⟩

theorem namesSorted_said : Rows.NamesSortedSaid :=
  OpenClaim.holds_of_cond 13 Tryd.f13 rfl rfl rfl rfl rfl rfl rfl ⟨rfl, rfl, rfl, rfl, rfl⟩ rfl rfl rfl rfl rfl (by kernel_rfl) Tryd.func13 (by kernel_rfl)
    (of_decide_eq_true (by kernel_rfl)) (by unfold Func.isWrapper; rw [if_neg (of_decide_eq_false (by kernel_rfl))]; exact ⟨rfl, rfl⟩)
    (fun os started H enc _ F0 => by rw [OpenClaim.pre_eq_preRow]; exact namesSorted_lifted os started H enc F0)

/-- The tied card. -/
theorem namesSorted_holds : Rows.NamesSortedCardSaid :=
  Claim7.holds_tied_plain_at .later [] [.data, .data, .data] true (true, "66086631d20495c7847d46aa70f2f13bc49942b8d180c92b9434ef6fd88d0904") true
    namesSorted_said (fun _ h => by cases h) (by kernel_rfl) (fun _ h => by cases h) namesSorted_row_tie rfl ⟨rfl, rfl⟩ (by kernel_rfl) rfl
    (fun f fn hf hfn => by
      obtain rfl : f = 13 := Option.some.inj ((show Tryd.prog.funcNamed "archivolt/archivoltlaw05.NamesSorted" = some 13 by kernel_rfl).symm.trans hf) |>.symm
      obtain rfl : fn = Tryd.f13 := (Option.some.inj (Tryd.func13.symm.trans hfn)).symm
      refine ⟨by kernel_rfl, fun j t ht => ?_⟩
      rw [Tryd.params13] at ht
      have hm := List.mem_of_getElem? (l := [33]) (by simpa using ht)
      have hall : ∀ t ∈ ([33] : List TypeId), Tryd.prog.wantsStandIn t = false := by
        intro t ht
        simp only [List.mem_cons, List.not_mem_nil, or_false] at ht
        rcases ht with rfl <;> kernel_rfl
      exact hall t hm)
    (by kernel_rfl)
#print axioms namesSorted_holds
end Go.Proofs.YtmbdiimenmnfjaaDoor
