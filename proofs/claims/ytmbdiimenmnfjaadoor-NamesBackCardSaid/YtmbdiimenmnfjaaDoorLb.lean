/- Walk: the law NamesBack. -/
import Derived.Test.YtmbdiimenmnfjaaDoorGk
import Derived.Test.YtmbdiimenmnfjaaDoorGc
import Derived.Test.YtmbdiimenmnfjaaDoorGf
import Derived.Test.YtmbdiimenmnfjaaDoorGg
import Derived.Laws.AppendOwnNone
import Derived.Test.YtmbdiimenmnfjaaDoorRb
namespace Go.Proofs.YtmbdiimenmnfjaaDoor
open Go.RowKit Go.Deep
set_option linter.unusedVariables false
set_option linter.unusedSimpArgs false

theorem units_rd2 (s : ByteArray) (hs : s.size ≤ 100000) (w : World) (r : List Int) (h : getU s = some r) :
    Calls Tryd.prog 33 #[.string s] w fun e w' => (∃ A c, e = .returned (.tuple #[.slice A r.length c, .int .i64 0]) ∧ (Rd w' .u16 A r.length r ∧ r.length ≤ c)) ∧ Below w.heap.size w w' :=
  (units_ok s hs w r h).mono fun e w' ⟨v, he, hO, hB⟩ => by
    obtain ⟨A, c, rfl, hc, hRd, -⟩ := own_nums hO (by have := (getU_props h).2.2; omega)
    exact ⟨⟨A, c, he, hRd, hc⟩, hB⟩
theorem own_none {w0 W : World} (h : w0.heap.size ≤ W.heap.size) : (W.alloc (.cells #[] 46)).ownsRow w0.heap.size 46 1 (.slice (some ⟨W.heap.size, 0, none⟩) 0 0) 0 [] :=
  ⟨rfl, Or.inr ⟨W.heap.size, 0, #[], rfl, h, heap_alloc_new _ _, Nat.le_refl _, Nat.zero_le _, rfl, rfl⟩⟩
/-- An append of units that are read, nil or not. -/
theorem wpList_app16 {w : World} {ops : Array Oper} {rest : List Oper} {o : Oper} {a : Act} {Q : Exit → Act → World → Prop} (hgd : o.guard = none) (s x : Operand)
    (ho : o.op = .call { callee := .builtin .append, args := #[s, x], argTypes := #[49, 49] }) (base : Nat) (v : Value) (n : Nat) (xs : List Value) (hs : a.eval s = v) (hown : w.ownsRow base 46 1 v n xs)
    (A : Option Addr) (m c : Nat) (ys : List Int) (hx : a.eval x = .slice A m c) (hR : Rd w .u16 A m ys) (hN : A = none → c = 0) (h63 : n + m ≤ 1000000) (hbase : base ≤ w.heap.size)
    (h : ∀ v' w', w'.ownsRow base 46 1 v' (n + m) (xs ++ numK .u16 ys) → w.grownBy w' v.ownBlock → wpList Tryd.prog ops Q rest (a.put o.dst v') w') : wpList Tryd.prog ops Q (o :: rest) a w := by
  obtain ⟨i0, hi, hz0, hz1, hz2⟩ := info_parts info46
  cases A with
  | none =>
    have hm : m = 0 := by
      rcases Nat.eq_zero_or_pos m with h0 | h0
      · exact h0
      · obtain ⟨_, e, _⟩ := hR.at_ 0 h0; cases e
    subst hm
    have hy : ys = [] := List.length_eq_zero_iff.1 hR.len
    subst hy
    obtain rfl := hN rfl
    refine wpList_append_own_none hgd s x 49 ho base 46 i0 1 Tryd.underlying49 hi v n xs hs hown hx (h v w ?_ ⟨rfl, rfl, rfl, Nat.le_refl _, fun _ _ _ => rfl⟩)
    simpa [numK] using hown
  | some ad =>
    refine wpList_append_own _ hgd s x 49 ho base 46 i0 (.int .u16 0) 1 2 Tryd.underlying49 hi hz0 hz1 hz2 rfl (by decide) v n xs hs hown ad m c (numK .u16 ys) hx (by rw [numK_len, hR.len]; omega) (rd_news hR) (one_numK .u16 ys) (by simp only [maxLen]; omega) (by omega) hbase (fun v' w' k1 k2 _ => h v' w' k1 k2)
theorem own_lm {w : World} {base : Nat} {v : Value} {l m X : List Int} (hX : l ++ m = X) (h : w.ownsRow base 46 1 v (0 + l.length + m.length) ([] ++ numK .u16 l ++ numK .u16 m)) : w.ownsRow base 46 1 v X.length (numK .u16 X) := by
  subst hX
  rw [List.length_append, numK_append]
  simpa using h

set_option maxRecDepth 100000 in
set_option maxHeartbeats 8000000 in
theorem law_NamesBack (s : ByteArray) (A1 : Option Addr) (c1 : Nat) (l : List Int) (hc1 : l.length ≤ c1) (hN1 : A1 = none → c1 = 0) (hm1 : l.length ≤ 9223372036854775807) (hU1 : U16 l) (A2 : Option Addr) (c2 : Nat) (m : List Int) (hc2 : m.length ≤ c2) (hN2 : A2 = none → c2 = 0) (hm2 : m.length ≤ 9223372036854775807) (hU2 : U16 m)
    (w : World) (ht : Tab w) (hR1 : Rd w .u16 A1 l.length l) (hR2 : Rd w .u16 A2 m.length m) : Calls Tryd.prog 10 #[.string s, .slice A1 l.length c1, .slice A2 m.length c2] w fun e w' => e = .returned (.bool true) ∧ Below w.heap.size w w' := by
  have HT := Lib.hid ht
  clear ht
  have HR1 := Lib.hid hR1
  have HR2 := Lib.hid hR2
  have HU1 := Lib.hid hU1
  have HU2 := Lib.hid hU2
  clear hR1 hR2 hU1 hU2
  by_cases q1 : 4000 < s.size
  · have q1' : 4000 < (s.size : Int) := by omega
    go_enter Tryd.func10, Tryd.ntmps10
    go_wp2_with (go_at_call 15; refine (sanity_any _ HT.out).mono ?_; rintro e w1 ⟨rfl, hB⟩; (have HB1 := Lib.hid hB); clear hB)
    go_ret
    exact ⟨rfl, HB1.out⟩
  have q1' : ¬ 4000 < (s.size : Int) := by omega
  by_cases q2 : 2000 < l.length
  · have q2' : 2000 < (l.length : Int) := by omega
    go_enter Tryd.func10, Tryd.ntmps10
    go_wp2_with (go_at_call 15; refine (sanity_any _ HT.out).mono ?_; rintro e w1 ⟨rfl, hB⟩; (have HB1 := Lib.hid hB); clear hB)
    go_ret
    exact ⟨rfl, HB1.out⟩
  have q2' : ¬ 2000 < (l.length : Int) := by omega
  by_cases q3 : 2000 < m.length
  · have q3' : 2000 < (m.length : Int) := by omega
    go_enter Tryd.func10, Tryd.ntmps10
    go_wp2_with (go_at_call 15; refine (sanity_any _ HT.out).mono ?_; rintro e w1 ⟨rfl, hB⟩; (have HB1 := Lib.hid hB); clear hB)
    go_ret
    exact ⟨rfl, HB1.out⟩
  have q3' : ¬ 2000 < (m.length : Int) := by omega
  obtain ⟨T1, hT1⟩ : ∃ T, mkB (textM l) = T := ⟨_, rfl⟩
  obtain ⟨T2, hT2⟩ : ∃ T, mkB (textM m) = T := ⟨_, rfl⟩
  obtain ⟨T3, hT3⟩ : ∃ T, mkB (textM (l ++ m)) = T := ⟨_, rfl⟩
  have hz1' : T1.size ≤ 8000 := by rw [← hT1, mkB_size]; have := textM_len l; omega
  have hz2' : T2.size ≤ 8000 := by rw [← hT2, mkB_size]; have := textM_len m; omega
  have HGT : Hid (getU T1 = some l) := Lib.hid (by rw [← hT1]; exact getU_text HU1.out (by omega))
  have HT1 : Hid (strM l = (T1, 0)) := Lib.hid (by unfold strM; rw [if_pos (by omega), hT1])
  have HT2 : Hid (strM m = (T2, 0)) := Lib.hid (by unfold strM; rw [if_pos (by omega), hT2])
  obtain ⟨X3, hX3⟩ : ∃ X, l ++ m = X := ⟨_, rfl⟩
  have HX3 := Lib.hid hX3
  have HL3 : Hid (X3.length = l.length + m.length) := Lib.hid (by rw [← hX3, List.length_append])
  have HT3 : Hid (strM X3 = (T3, 0)) := Lib.hid (by unfold strM; rw [← hX3, if_pos (by rw [List.length_append]; omega), hT3])
  have HU3 : Hid (U16 X3) := Lib.hid (fun x hx => by rw [← hX3] at hx; rcases List.mem_append.1 hx with h | h; exact HU1.out x h; exact HU2.out x h)
  obtain ⟨S1, hS1⟩ : ∃ x, surM l ((l.length : Int) - 1) = x := ⟨_, rfl⟩
  obtain ⟨S2, hS2⟩ : ∃ x, surM m 0 = x := ⟨_, rfl⟩
  have HTW : Hid (¬ (S1 = 1 ∧ S2 = 2) → T3 = T1 ++ T2) := Lib.hid (fun h => by rw [← hT1, ← hT2, ← hT3]; exact text_two HU1.out HU2.out (by rw [hS1, hS2]; exact h))
  have HS1 := Lib.hid hS1
  have HS2 := Lib.hid hS2
  have hadd : ∀ W : World, (Op.stringOp .add T1 T2).run Tryd.prog W = .ok (.string (T1 ++ T2)) W := fun W => run_string_add_sum W T1 T2 (by omega)
  have hw1 : IntKind.i64.wrap ((l.length : Int) - 1) = (l.length : Int) - 1 := IntWalk.i64_in _ (by omega)
  clear hT1 hT2 hT3 hS1 hS2 hX3
  cases hg : getU s with
  | none =>
    have HG := Lib.hid hg
    clear hg
    go_enter Tryd.func10, Tryd.ntmps10
    go_upto_region 13 with (first
      | ((have hgd := HB4); clear hgd; go_at_call 37; refine (string_any A2 c2 m HU2.out _ (HR2.out.below HB4.out)).mono ?_; rintro e w5 ⟨rfl, hB⟩; rw [HT2.out]; (have HB5 := Lib.hid (below_then HB4.out HB4.out.size hB)); clear hB)
      | ((have hgd := HB3); clear hgd; go_at_call 35; refine (sameu_any A12 A1 c12 c1 l _ HR12.out.1 (HR1.out.below HB3.out) HR12.out.2 hc1 (by omega)).mono ?_; rintro e w4 ⟨rfl, hB⟩; (have HB4 := Lib.hid (below_drawn HB3.out hB)); clear hB)
      | ((have hgd := HB2); clear hgd; go_at_call 33; refine (units_rd2 T1 (by omega) _ l HGT.out).mono ?_; rintro e w3 ⟨⟨A12, c12, rfl, hR12⟩, hB⟩; (have HR12 := Lib.hid hR12); clear hR12; (have HB3 := Lib.hid (below_then HB2.out HB2.out.size hB)); clear hB)
      | ((have hgd := HB1); clear hgd; go_at_call 37; refine (string_any A1 c1 l HU1.out _ (HR1.out.below HB1.out)).mono ?_; rintro e w2 ⟨rfl, hB⟩; rw [HT1.out]; (have HB2 := Lib.hid (below_then HB1.out HB1.out.size hB)); clear hB)
      | (go_at_call 33; refine (units_no s (by omega) _ HG.out).mono ?_; rintro e w1 ⟨rfl, hB⟩; (have HB1 := Lib.hid hB); clear hB))
    go_upto_region 14 with (first
      | ((have hgd := HA2); clear hgd; go_at_call 37; refine (string_any A8 c8 X3 HU3.out _ HR8.out).mono ?_; rintro e w33 ⟨rfl, hB⟩; rw [HT3.out]; (have HB33 := Lib.hid (below_then HB32.out HB32.out.size hB)); clear hB)
      | ((have hgd := HA1); clear hgd; at_builtin; refine wpList_app16 rfl _ _ rfl w.heap.size _ (0 + l.length) ([] ++ numK .u16 l) rfl HA1.out A2 m.length c2 m rfl (HR2.out.below HB31.out) hN2 (by omega) HB31.out.size ?_; intro v7 w32 hown7 hgrow7; (have HB32 := Lib.hid (HB31.out.grown hgrow7 HB31.out.size (fun kk hk => (HA1.out.lt kk hk).1))); (have hO := own_lm HX3.out hown7); obtain ⟨A8, c8, rfl, hc8, hRd8, -⟩ := own_nums hO (by have := HL3.out; omega); (have HR8 := Lib.hid hRd8); (have HA2 := Lib.hid hown7); clear hown7 hgrow7 hO hRd8)
      | (at_builtin; refine wpList_app16 rfl _ _ rfl w.heap.size _ 0 [] rfl (own_none HB5.out.size) A1 l.length c1 l rfl (HR1.out.below (below_al HB5.out _)) hN1 (by omega) (by have := HB5.out.size; simp; omega) ?_; intro v6 w31 hown6 hgrow6; (have HA1 := Lib.hid hown6); (have HB31 := Lib.hid ((below_al HB5.out _).grown hgrow6 (by have := HB5.out.size; simp; omega) (fun kk hk => ((own_none (w0 := w) HB5.out.size).lt kk hk).1))); clear hown6 hgrow6))
    by_cases e1 : S1 = 1
    · by_cases e2 : S2 = 2
      · go_wp2_with (first
          | ((have hgd := HB35); clear hgd; go_at_call 15; refine (sanity_any _ (HT.out.below HB35.out)).mono ?_; rintro e w36 ⟨rfl, hB⟩; (have HB36 := Lib.hid (below_then HB35.out HB35.out.size hB)); clear hB)
          | ((have hgd := HB34); clear hgd; go_at_call 40; refine (sur_any A2 c2 m hc2 (by omega) 0 (by omega) (by omega) _ (HR2.out.below HB34.out)).mono ?_; rintro e w35 ⟨rfl, rfl⟩; rw [HS2.out]; (have HB35 := HB34))
          | ((have hgd := HB33); clear hgd; go_at_call 40; refine (sur_any A1 c1 l hc1 (by omega) _ (by omega) (by omega) _ (HR1.out.below HB33.out)).mono ?_; rintro e w34 ⟨rfl, rfl⟩; rw [HS1.out]; (have HB34 := HB33)))
        go_ret
        exact ⟨rfl, HB36.out⟩
      · have htw := HTW.out (fun h => e2 h.2)
        subst htw
        go_wp2_with (first
          | ((have hgd := HB35); clear hgd; go_at_call 15; refine (sanity_any _ (HT.out.below HB35.out)).mono ?_; rintro e w36 ⟨rfl, hB⟩; (have HB36 := Lib.hid (below_then HB35.out HB35.out.size hB)); clear hB)
          | ((have hgd := HB34); clear hgd; go_at_call 40; refine (sur_any A2 c2 m hc2 (by omega) 0 (by omega) (by omega) _ (HR2.out.below HB34.out)).mono ?_; rintro e w35 ⟨rfl, rfl⟩; rw [HS2.out]; (have HB35 := HB34))
          | ((have hgd := HB33); clear hgd; go_at_call 40; refine (sur_any A1 c1 l hc1 (by omega) _ (by omega) (by omega) _ (HR1.out.below HB33.out)).mono ?_; rintro e w34 ⟨rfl, rfl⟩; rw [HS1.out]; (have HB34 := HB33)))
        go_ret
        exact ⟨rfl, HB36.out⟩
    · have htw := HTW.out (fun h => e1 h.1)
      subst htw
      go_wp2_with (first
          | ((have hgd := HB34); clear hgd; go_at_call 15; refine (sanity_any _ (HT.out.below HB34.out)).mono ?_; rintro e w35 ⟨rfl, hB⟩; (have HB35 := Lib.hid (below_then HB34.out HB34.out.size hB)); clear hB)
          | ((have hgd := HB33); clear hgd; go_at_call 40; refine (sur_any A1 c1 l hc1 (by omega) _ (by omega) (by omega) _ (HR1.out.below HB33.out)).mono ?_; rintro e w34 ⟨rfl, rfl⟩; rw [HS1.out]; (have HB34 := HB33)))
      go_ret
      exact ⟨rfl, HB35.out⟩
  | some r =>
    have hp := getU_props hg
    have HU7 := Lib.hid hp.1
    have HS7 : Hid (strM r = (s, 0)) := Lib.hid (by unfold strM; rw [if_pos hp.2.2, text_getU hg])
    have HG := Lib.hid hg
    clear hg hp
    go_enter Tryd.func10, Tryd.ntmps10
    go_upto_region 13 with (first
      | ((have hgd := HB5); clear hgd; go_at_call 37; refine (string_any A2 c2 m HU2.out _ (HR2.out.below HB5.out)).mono ?_; rintro e w6 ⟨rfl, hB⟩; rw [HT2.out]; (have HB6 := Lib.hid (below_then HB5.out HB5.out.size hB)); clear hB)
      | ((have hgd := HB4); clear hgd; go_at_call 35; refine (sameu_any A12 A1 c12 c1 l _ HR12.out.1 (HR1.out.below HB4.out) HR12.out.2 hc1 (by omega)).mono ?_; rintro e w5 ⟨rfl, hB⟩; (have HB5 := Lib.hid (below_drawn HB4.out hB)); clear hB)
      | ((have hgd := HB3); clear hgd; go_at_call 33; refine (units_rd2 T1 (by omega) _ l HGT.out).mono ?_; rintro e w4 ⟨⟨A12, c12, rfl, hR12⟩, hB⟩; (have HR12 := Lib.hid hR12); clear hR12; (have HB4 := Lib.hid (below_then HB3.out HB3.out.size hB)); clear hB)
      | ((have hgd := HB2); clear hgd; go_at_call 37; refine (string_any A1 c1 l HU1.out _ (HR1.out.below HB2.out)).mono ?_; rintro e w3 ⟨rfl, hB⟩; rw [HT1.out]; (have HB3 := Lib.hid (below_then HB2.out HB2.out.size hB)); clear hB)
      | ((have hgd := HB1); clear hgd; go_at_call 37; refine (string_any A7 c7 r HU7.out _ HR7.out.1).mono ?_; rintro e w2 ⟨rfl, hB⟩; rw [HS7.out]; (have HB2 := Lib.hid (below_then HB1.out HB1.out.size hB)); clear hB)
      | (go_at_call 33; refine (units_rd2 s (by omega) _ r HG.out).mono ?_; rintro e w1 ⟨⟨A7, c7, rfl, hR7⟩, hB⟩; (have HR7 := Lib.hid hR7); clear hR7; (have HB1 := Lib.hid hB); clear hB))
    go_upto_region 14 with (first
      | ((have hgd := HA2); clear hgd; go_at_call 37; refine (string_any A8 c8 X3 HU3.out _ HR8.out).mono ?_; rintro e w33 ⟨rfl, hB⟩; rw [HT3.out]; (have HB33 := Lib.hid (below_then HB32.out HB32.out.size hB)); clear hB)
      | ((have hgd := HA1); clear hgd; at_builtin; refine wpList_app16 rfl _ _ rfl w.heap.size _ (0 + l.length) ([] ++ numK .u16 l) rfl HA1.out A2 m.length c2 m rfl (HR2.out.below HB31.out) hN2 (by omega) HB31.out.size ?_; intro v7 w32 hown7 hgrow7; (have HB32 := Lib.hid (HB31.out.grown hgrow7 HB31.out.size (fun kk hk => (HA1.out.lt kk hk).1))); (have hO := own_lm HX3.out hown7); obtain ⟨A8, c8, rfl, hc8, hRd8, -⟩ := own_nums hO (by have := HL3.out; omega); (have HR8 := Lib.hid hRd8); (have HA2 := Lib.hid hown7); clear hown7 hgrow7 hO hRd8)
      | (at_builtin; refine wpList_app16 rfl _ _ rfl w.heap.size _ 0 [] rfl (own_none HB6.out.size) A1 l.length c1 l rfl (HR1.out.below (below_al HB6.out _)) hN1 (by omega) (by have := HB6.out.size; simp; omega) ?_; intro v6 w31 hown6 hgrow6; (have HA1 := Lib.hid hown6); (have HB31 := Lib.hid ((below_al HB6.out _).grown hgrow6 (by have := HB6.out.size; simp; omega) (fun kk hk => ((own_none (w0 := w) HB6.out.size).lt kk hk).1))); clear hown6 hgrow6))
    by_cases e1 : S1 = 1
    · by_cases e2 : S2 = 2
      · go_wp2_with (first
          | ((have hgd := HB35); clear hgd; go_at_call 15; refine (sanity_any _ (HT.out.below HB35.out)).mono ?_; rintro e w36 ⟨rfl, hB⟩; (have HB36 := Lib.hid (below_then HB35.out HB35.out.size hB)); clear hB)
          | ((have hgd := HB34); clear hgd; go_at_call 40; refine (sur_any A2 c2 m hc2 (by omega) 0 (by omega) (by omega) _ (HR2.out.below HB34.out)).mono ?_; rintro e w35 ⟨rfl, rfl⟩; rw [HS2.out]; (have HB35 := HB34))
          | ((have hgd := HB33); clear hgd; go_at_call 40; refine (sur_any A1 c1 l hc1 (by omega) _ (by omega) (by omega) _ (HR1.out.below HB33.out)).mono ?_; rintro e w34 ⟨rfl, rfl⟩; rw [HS1.out]; (have HB34 := HB33)))
        go_ret
        exact ⟨rfl, HB36.out⟩
      · have htw := HTW.out (fun h => e2 h.2)
        subst htw
        go_wp2_with (first
          | ((have hgd := HB35); clear hgd; go_at_call 15; refine (sanity_any _ (HT.out.below HB35.out)).mono ?_; rintro e w36 ⟨rfl, hB⟩; (have HB36 := Lib.hid (below_then HB35.out HB35.out.size hB)); clear hB)
          | ((have hgd := HB34); clear hgd; go_at_call 40; refine (sur_any A2 c2 m hc2 (by omega) 0 (by omega) (by omega) _ (HR2.out.below HB34.out)).mono ?_; rintro e w35 ⟨rfl, rfl⟩; rw [HS2.out]; (have HB35 := HB34))
          | ((have hgd := HB33); clear hgd; go_at_call 40; refine (sur_any A1 c1 l hc1 (by omega) _ (by omega) (by omega) _ (HR1.out.below HB33.out)).mono ?_; rintro e w34 ⟨rfl, rfl⟩; rw [HS1.out]; (have HB34 := HB33)))
        go_ret
        exact ⟨rfl, HB36.out⟩
    · have htw := HTW.out (fun h => e1 h.1)
      subst htw
      go_wp2_with (first
          | ((have hgd := HB34); clear hgd; go_at_call 15; refine (sanity_any _ (HT.out.below HB34.out)).mono ?_; rintro e w35 ⟨rfl, hB⟩; (have HB35 := Lib.hid (below_then HB34.out HB34.out.size hB)); clear hB)
          | ((have hgd := HB33); clear hgd; go_at_call 40; refine (sur_any A1 c1 l hc1 (by omega) _ (by omega) (by omega) _ (HR1.out.below HB33.out)).mono ?_; rintro e w34 ⟨rfl, rfl⟩; rw [HS1.out]; (have HB34 := HB33)))
      go_ret
      exact ⟨rfl, HB35.out⟩
end Go.Proofs.YtmbdiimenmnfjaaDoor
/- NamesBack: for every input the law returns true and leaves its arguments as they were; the three listed tables of the library are tied to the program's text. Conditions: none beyond the row. -/
namespace Go.Proofs.YtmbdiimenmnfjaaDoor
open Go.Shelf Go.ChangeShapes Go.WideShapes Go.ChangeAt Go.RowKit Go.Deep
open Go.ChangeMaps (open_string shut_string)
set_option linter.unusedVariables false
set_option maxRecDepth 100000

theorem namesBack_witness (os : Os) {H : Type} (enc : TypeId × Value → H) :
    (OpenSpec.ofChange Rows.namesBackSpec).preRow enc Tryd.prog Tryd.f10 Rows.namesBackRow.domain false Rows.namesBackRow.laid ((laidWorld os).forCall (fun _ _ => 0) ⟨#[], #[.string ⟨#[]⟩, .slice none 0 0, .slice none 0 0], []⟩).memory #[.string ⟨#[]⟩, .slice none 0 0, .slice none 0 0] := by
  have hw : (DataW.whole enc Tryd.prog ((laidWorld os).forCall (fun _ _ => 0) ⟨#[], #[.string ⟨#[]⟩, .slice none 0 0, .slice none 0 0], []⟩).memory Tryd.f10.params.toList (OpenSpec.ofChange Rows.namesBackSpec).vars false ((#[.string ⟨#[]⟩, .slice none 0 0, .slice none 0 0] : Array Value).toList) 8).map (fun x => (x.1, x.2.1)) =
      some ([.lit (.string []), .nil, .nil], []) := by kernel_rfl
  obtain ⟨⟨x1, x2, x3⟩, hx, hx1⟩ := Option.map_eq_some_iff.1 hw
  simp only [Prod.mk.injEq] at hx1
  obtain ⟨rfl, rfl⟩ := hx1
  exact OpenSpec.preRow_of_cond 8 hx (by kernel_rfl) (fun k hk => by cases hk) (by kernel_rfl) (laid_met os _)

set_option maxHeartbeats 2000000 in
theorem namesBack_lifted (os : Os) (started : os.Started) (H : Type) (enc : TypeId × Value → H) (F : Stop.Interp) :
    ReturnsInHanded {} Tryd.checked os 10 .any ((OpenSpec.ofChange Rows.namesBackSpec).preRow enc Tryd.prog Tryd.f10 Rows.namesBackRow.domain false Rows.namesBackRow.laid) (((OpenSpec.ofChange Rows.namesBackSpec).at F).post enc Tryd.prog Tryd.f10 false true false false) := by
  refine returnsInHanded_of_row (C := Tryd.checked) (s := (OpenSpec.ofChange Rows.namesBackSpec)) Tryd.own started (by kernel_rfl) Tryd.func10
    (witness_row_atRef (enc := enc) (C := Tryd.checked) false (laidWorld os) #[.string ⟨#[]⟩, .slice none 0 0, .slice none 0 0] rfl (by kernel_rfl) (by kernel_rfl) (by kernel_rfl) (namesBack_witness os enc)) ?_
  intro W base args ds gs before hval0 hW hcnd0 _ _ hL _ _
  have hval : ∀ (j : Nat) t v, Tryd.f10.params[j]? = some t → args[j]? = some v → Value.okWide Tryd.prog W .any base t v := hval0
  have hW' := hW
  obtain ⟨p, q, hA0, hV0, rfl, _, _⟩ := hW
  have hA : DataW.TrodAll enc Tryd.prog W 0 (fun _ => true) true Tryd.f10.params.toList args.toList ds p := hA0
  rw [Tryd.params10] at hA hval
  obtain ⟨v0, v1, v2, d0, d1, d2, p0, p1, p2, rfl, rfl, rfl, h0, h1, h2⟩ := trodAll_three hA
  obtain ⟨rfl, rfl⟩ := trodVars_none hV0
  obtain ⟨s0, rfl, rfl, rfl, ws0⟩ := open_string Tryd.underlying9 (hval 0 9 v0 rfl rfl) h0
  obtain ⟨A1, c1, b1, rfl, hc1, hm1, hR1, hU1, hN1⟩ := open_units (hval 1 49 v1 rfl rfl) h1
  obtain ⟨A2, c2, b2, rfl, hc2, hm2, hR2, hU2, hN2⟩ := open_units (hval 2 49 v2 rfl rfl) h2
  clear hA0 hV0 hval0
  have hlt1 : ∀ x ∈ p1, x.block < W.heap.size := fun x hx => hW'.lt x (by simp [hx])
  have hlt2 : ∀ x ∈ p2, x.block < W.heap.size := fun x hx => hW'.lt x (by simp [hx])
  refine (law_NamesBack s0 A1 c1 b1 hc1 hN1 (by unfold maxLen at hm1; omega) hU1 A2 c2 b2 hc2 hN2 (by unfold maxLen at hm2; omega) hU2 W (tab_of_laid hL) hR1 hR2).mono ?_
  rintro e W' ⟨rfl, bel⟩
  refine ⟨_, rfl, _, _, _, [], _, [], hW', trodAll_mk1 (shut_bool true), trodAll_mk3 (shut_string Tryd.underlying9 ws0) (Below.trod Tryd.laidOut (by kernel_rfl) (of_decide_eq_true (by kernel_rfl)) h1 bel hlt1) (Below.trod Tryd.laidOut (by kernel_rfl) (of_decide_eq_true (by kernel_rfl)) h2 bel hlt2), rfl, bel.frame _, fun h => by cases h⟩

theorem namesBack_said : Rows.NamesBackSaid :=
  OpenClaim.holds_of_cond 10 Tryd.f10 rfl rfl rfl rfl rfl rfl rfl ⟨rfl, rfl, rfl, rfl, rfl⟩ rfl rfl rfl rfl rfl (by kernel_rfl) Tryd.func10 (by kernel_rfl)
    (of_decide_eq_true (by kernel_rfl)) (by unfold Func.isWrapper; rw [if_neg (of_decide_eq_false (by kernel_rfl))]; exact ⟨rfl, rfl⟩)
    (fun os started H enc _ F0 => by rw [OpenClaim.pre_eq_preRow]; exact namesBack_lifted os started H enc F0)

/-- The tied card. -/
theorem namesBack_holds : Rows.NamesBackCardSaid :=
  Claim7.holds_tied_plain_at .later [] [.data, .data, .data] true (true, "66086631d20495c7847d46aa70f2f13bc49942b8d180c92b9434ef6fd88d0904") true
    namesBack_said (fun _ h => by cases h) (by kernel_rfl) (fun _ h => by cases h) namesBack_row_tie rfl ⟨rfl, rfl⟩ (by kernel_rfl) rfl
    (fun f fn hf hfn => by
      obtain rfl : f = 10 := Option.some.inj ((show Tryd.prog.funcNamed "archivolt/archivoltlaw05.NamesBack" = some 10 by kernel_rfl).symm.trans hf) |>.symm
      obtain rfl : fn = Tryd.f10 := (Option.some.inj (Tryd.func10.symm.trans hfn)).symm
      refine ⟨by kernel_rfl, fun j t ht => ?_⟩
      rw [Tryd.params10] at ht
      have hm := List.mem_of_getElem? (l := [9, 49, 49]) (by simpa using ht)
      have hall : ∀ t ∈ ([9, 49, 49] : List TypeId), Tryd.prog.wantsStandIn t = false := by
        intro t ht
        simp only [List.mem_cons, List.not_mem_nil, or_false] at ht
        rcases ht with rfl | rfl | rfl <;> kernel_rfl
      exact hall t hm)
    (by kernel_rfl)
#print axioms namesBack_holds
end Go.Proofs.YtmbdiimenmnfjaaDoor
