/- Walk: the law NamesOrder. -/
import Derived.Test.YtmbdiimenmnfjaaDoorGf
import Derived.Test.YtmbdiimenmnfjaaDoorGd
import Derived.Test.YtmbdiimenmnfjaaDoorGg
import Derived.Test.YtmbdiimenmnfjaaDoorRb
namespace Go.Proofs.YtmbdiimenmnfjaaDoor
open Go.RowKit Go.Deep
set_option linter.unusedVariables false
set_option linter.unusedSimpArgs false

set_option maxRecDepth 100000 in
set_option maxHeartbeats 8000000 in
theorem law_NamesOrder (a b c : ByteArray) (w : World) (ht : Tab w) : Calls Tryd.prog 6 #[.string a, .string b, .string c] w fun e w' => e = .returned (.bool true) ∧ Below w.heap.size w w' := by
  have HT := Lib.hid ht
  clear ht
  obtain ⟨f, hf⟩ : ∃ f, fewM [a, b, c] = f := ⟨_, rfl⟩
  have HF := Lib.hid hf
  cases f with
  | false =>
    clear hf
    go_enter Tryd.func6, Tryd.ntmps6
    go_wp2_with (first
      | (go_at_call 14; refine (few_three a b c _ _ rfl).mono ?_; rintro e w1 ⟨rfl, hB⟩; rw [HF.out]; (have HB1 := Lib.hid hB); clear hB)
      | (go_at_call 15; refine (sanity_any _ (HT.out.below HB1.out)).mono ?_; rintro e w2 ⟨rfl, hB⟩; (have HB2 := Lib.hid (below_then HB1.out HB1.out.size hB)); clear hB))
    go_ret
    exact ⟨rfl, HB2.out⟩
  | true =>
    have hz := (few_is hf).1
    have hza : a.size ≤ 400 := hz a (by simp)
    have hzb : b.size ≤ 400 := hz b (by simp)
    have hzc : c.size ≤ 400 := hz c (by simp)
    obtain ⟨X, hX⟩ : ∃ X, compareM a b = X := ⟨_, rfl⟩
    obtain ⟨Y, hY⟩ : ∃ Y, compareM b c = Y := ⟨_, rfl⟩
    obtain ⟨Z, hZ⟩ : ∃ Z, compareM a c = Z := ⟨_, rfl⟩
    have hxc := cmpM_cases a b
    have hyc := cmpM_cases b c
    have hzc' := cmpM_cases a c
    have hall := cmpM_all a b c
    have hsw := cmpM_swap a b
    have hz0 := cmpM_zero a b
    rw [hX] at hxc hall hsw hz0
    rw [hY] at hyc hall
    rw [hZ] at hzc' hall
    have hq : (a.toList == b.toList) = decide (X = 0) := by rw [same_bts, decide_eq_decide]; exact hz0.symm
    have hbt : sameM a c = true → X ≤ 0 → Y ≤ 0 → sameM a b = true := fun h1 h2 h3 => same_between h1 (by rw [hX]; exact h2) (by rw [hY]; exact h3)
    obtain ⟨S1, hS1⟩ : ∃ S, sameM a c = S := ⟨_, rfl⟩
    obtain ⟨S2, hS2⟩ : ∃ S, sameM a b = S := ⟨_, rfl⟩
    rw [hS1, hS2] at hbt
    have HX := Lib.hid hX
    have HY := Lib.hid hY
    have HZ := Lib.hid hZ
    have HS1 := Lib.hid hS1
    have HS2 := Lib.hid hS2
    have HSW := Lib.hid hsw
    have HQ := Lib.hid hq
    have HBT := Lib.hid hbt
    have HALL := Lib.hid (And.intro hxc (And.intro hyc (And.intro hzc' hall)))
    clear hf hz hX hY hZ hxc hyc hzc' hall hsw hz0 hq hbt hS1 hS2
    go_enter Tryd.func6, Tryd.ntmps6
    go_upto_region 6 with (first
      | (go_at_call 14; refine (few_three a b c _ _ rfl).mono ?_; rintro e w1 ⟨rfl, hB⟩; rw [HF.out]; (have HB1 := Lib.hid hB); clear hB)
      | ((have hgd := HB3); clear hgd; go_at_call 21; refine (compare_any a c (by omega) (by omega) _).mono ?_; rintro e w4 ⟨rfl, hB⟩; rw [HZ.out]; (have HB4 := Lib.hid (below_then HB3.out HB3.out.size hB)); clear hB)
      | ((have hgd := HB2); clear hgd; go_at_call 21; refine (compare_any b c (by omega) (by omega) _).mono ?_; rintro e w3 ⟨rfl, hB⟩; rw [HY.out]; (have HB3 := Lib.hid (below_then HB2.out HB2.out.size hB)); clear hB)
      | (go_at_call 21; refine (compare_any a b (by omega) (by omega) _).mono ?_; rintro e w2 ⟨rfl, hB⟩; rw [HX.out]; (have HB2 := Lib.hid (below_then HB1.out HB1.out.size hB)); clear hB))
    go_cut [79] (fun v79 wc => v79 = .bool false ∧ Hid (Below w.heap.size w wc))
    case first =>
      have hq := HQ.out
      obtain ⟨h1, h2, h3, h4, h5, h6⟩ := HALL.out
      clear HQ HALL HBT
      have hsw := HSW.out
      clear HSW
      obtain ⟨N, hN⟩ : ∃ N, 0 - X = N := ⟨_, rfl⟩
      rw [hN] at hsw
      have HSW := Lib.hid hsw
      clear hsw
      rcases h1 with rfl | rfl | rfl <;> rcases h2 with rfl | rfl | rfl <;> rcases h3 with rfl | rfl | rfl <;> first
        | (exfalso; omega)
        | (clear h4 h5 h6
           simp only [Int.reduceNeg, Int.reduceEq, decide_true, decide_false] at hq
           simp at hN
           subst hN
           go_wp2_with (go_at_call 21; refine (compare_any b a (by omega) (by omega) _).mono ?_; rintro e w5 ⟨rfl, hB⟩; rw [HSW.out]; (have HB5 := Lib.hid (below_then HB4.out HB4.out.size hB)); clear hB)
           go_meet
           case rel => exact ⟨rfl, HB5⟩)
    case rest =>
      obtain ⟨rfl, HB5⟩ := hcut
      clear HQ
      go_upto_region 8 with (fail)
      go_cut [96] (fun v96 wc => v96 = .bool false ∧ Hid (Below w.heap.size w wc))
      case first =>
        have hbt := HBT.out
        clear HBT HALL
        cases S1 with
        | false =>
          go_wp2_with (go_at_call 23; refine (same_any a c (by omega) (by omega) _).mono ?_; rintro e w6 ⟨rfl, hB⟩; rw [HS1.out]; (have HB6 := Lib.hid (below_then HB5.out HB5.out.size hB)); clear hB)
          go_meet
          case rel => exact ⟨rfl, HB6⟩
        | true =>
          by_cases q1 : X ≤ 0
          · by_cases q2 : Y ≤ 0
            · obtain rfl := hbt rfl q1 q2
              clear hbt
              go_wp2_with (first
                | ((have hgd := HB6); clear hgd; go_at_call 23; refine (same_any a b (by omega) (by omega) _).mono ?_; rintro e w7 ⟨rfl, hB⟩; rw [HS2.out]; (have HB7 := Lib.hid (below_then HB6.out HB6.out.size hB)); clear hB)
                | (go_at_call 23; refine (same_any a c (by omega) (by omega) _).mono ?_; rintro e w6 ⟨rfl, hB⟩; rw [HS1.out]; (have HB6 := Lib.hid (below_then HB5.out HB5.out.size hB)); clear hB))
              go_meet
              case rel => exact ⟨rfl, HB7⟩
            · clear hbt
              go_wp2_with (go_at_call 23; refine (same_any a c (by omega) (by omega) _).mono ?_; rintro e w6 ⟨rfl, hB⟩; rw [HS1.out]; (have HB6 := Lib.hid (below_then HB5.out HB5.out.size hB)); clear hB)
              go_meet
              case rel => exact ⟨rfl, HB6⟩
          · clear hbt
            go_wp2_with (go_at_call 23; refine (same_any a c (by omega) (by omega) _).mono ?_; rintro e w6 ⟨rfl, hB⟩; rw [HS1.out]; (have HB6 := Lib.hid (below_then HB5.out HB5.out.size hB)); clear hB)
            go_meet
            case rel => exact ⟨rfl, HB6⟩
      case rest =>
        obtain ⟨rfl, HB7⟩ := hcut
        by_cases hk : checkM a = 0 ∧ checkM b = 0
        · obtain ⟨x, hga, -⟩ := check_units hk.1
          obtain ⟨y, hgb, -⟩ := check_units hk.2
          obtain ⟨o1, o2⟩ := key_order hk.1 hk.2 hga hgb
          rw [HX.out] at o1 o2
          obtain ⟨ka, hka⟩ : ∃ k, keyM x = k := ⟨_, rfl⟩
          obtain ⟨kb, hkb⟩ : ∃ k, keyM y = k := ⟨_, rfl⟩
          have hra := fun w => key_rd a (by omega) w hk.1 x hga
          have hrb := fun w => key_rd b (by omega) w hk.2 y hgb
          rw [hka] at o1 o2 hra
          rw [hkb] at o1 o2 hrb
          have HRA := Lib.hid hra
          have HRB := Lib.hid hrb
          obtain ⟨MA, hMA⟩ : ∃ M, mkB ka = M := ⟨_, rfl⟩
          obtain ⟨MB, hMB⟩ : ∃ M, mkB kb = M := ⟨_, rfl⟩
          rw [hMA, hMB] at o1 o2
          have hlt0 : decide (X = -1) = decide (X < 0) := by rw [decide_eq_decide]; have := HALL.out.1; omega
          rw [hlt0] at o1
          have HMA := Lib.hid hMA
          have HMB := Lib.hid hMB
          clear hra hrb hka hkb hk hga hgb hMA hMB hlt0 HALL HBT
          go_wp2_with (first
            | ((have hgd := HKB); clear hgd; go_at_call 15; refine (sanity_any _ (HT.out.below HB9.out)).mono ?_; rintro e w10 ⟨rfl, hB⟩; (have hcv1 := (conv_rd _ A8 c8 ka _ (HKA.out.below hB)).trans (by rw [HMA.out])); (have hcv2 := (conv_rd _ A9 c9 kb _ (HKB.out.below hB)).trans (by rw [HMB.out])); (have HB10 := Lib.hid (below_then HB9.out HB9.out.size hB)); clear hB)
            | ((have hgd := HKA); clear hgd; go_at_call 17; refine (HRB.out _).mono ?_; rintro e w9 ⟨A9, c9, rfl, hK, hB⟩; (have HKB := Lib.hid hK); (have HKA := Lib.hid (HKA.out.below hB)); (have HB9 := Lib.hid (below_then HB8.out HB8.out.size hB)); clear hK hB)
            | (go_at_call 17; refine (HRA.out _).mono ?_; rintro e w8 ⟨A8, c8, rfl, hK, hB⟩; (have HKA := Lib.hid hK); (have HB8 := Lib.hid (below_then HB7.out HB7.out.size hB)); clear hK hB))
          go_ret
          refine ⟨?_, HB10.out⟩
          have e : (decide (X = 0) == (X == 0)) = true := by by_cases h : X = 0 <;> simp [h]
          rw [e]
          rfl
        · have hka := key_gen a (by omega)
          have hkb := key_gen b (by omega)
          obtain ⟨ca, hca⟩ : ∃ ca, checkM a = ca := ⟨_, rfl⟩
          obtain ⟨cb, hcb⟩ : ∃ cb, checkM b = cb := ⟨_, rfl⟩
          rw [hca] at hka
          rw [hcb] at hkb
          rw [hca, hcb] at hk
          have HKA := Lib.hid hka
          have HKB := Lib.hid hkb
          clear hka hkb hca hcb HALL HBT
          by_cases q1 : ca = 0
          · subst q1
            have q2 : ¬ cb = 0 := fun h => hk ⟨rfl, h⟩
            clear hk
            go_wp2_with (first
              | (go_at_call 15; refine (sanity_any _ (HT.out.below HB9.out)).mono ?_; rintro e w10 ⟨rfl, hB⟩; (have HB10 := Lib.hid (below_then HB9.out HB9.out.size hB)); clear hB)
              | ((have hgd := HB8); clear hgd; go_at_call 17; refine (HKB.out _).mono ?_; rintro e w9 ⟨v9, rfl, hB⟩; (have HB9 := Lib.hid (below_then HB8.out HB8.out.size hB)); clear hB)
              | (go_at_call 17; refine (HKA.out _).mono ?_; rintro e w8 ⟨v8, rfl, hB⟩; (have HB8 := Lib.hid (below_then HB7.out HB7.out.size hB)); clear hB))
            go_ret
            exact ⟨rfl, HB10.out⟩
          · clear hk
            go_wp2_with (first
              | (go_at_call 15; refine (sanity_any _ (HT.out.below HB9.out)).mono ?_; rintro e w10 ⟨rfl, hB⟩; (have HB10 := Lib.hid (below_then HB9.out HB9.out.size hB)); clear hB)
              | ((have hgd := HB8); clear hgd; go_at_call 17; refine (HKB.out _).mono ?_; rintro e w9 ⟨v9, rfl, hB⟩; (have HB9 := Lib.hid (below_then HB8.out HB8.out.size hB)); clear hB)
              | (go_at_call 17; refine (HKA.out _).mono ?_; rintro e w8 ⟨v8, rfl, hB⟩; (have HB8 := Lib.hid (below_then HB7.out HB7.out.size hB)); clear hB))
            go_ret
            exact ⟨rfl, HB10.out⟩
end Go.Proofs.YtmbdiimenmnfjaaDoor
/- NamesOrder: for every input the law returns true and leaves its arguments as they were; the three listed tables of the library are tied to the program's text. Conditions: none beyond the row. -/
namespace Go.Proofs.YtmbdiimenmnfjaaDoor
open Go.Shelf Go.ChangeShapes Go.WideShapes Go.ChangeAt Go.RowKit Go.Deep
open Go.ChangeMaps (open_string shut_string)
set_option linter.unusedVariables false
set_option maxRecDepth 100000

theorem namesOrder_witness (os : Os) {H : Type} (enc : TypeId × Value → H) :
    (OpenSpec.ofChange Rows.namesOrderSpec).preRow enc Tryd.prog Tryd.f6 Rows.namesOrderRow.domain false Rows.namesOrderRow.laid ((laidWorld os).forCall (fun _ _ => 0) ⟨#[], #[.string ⟨#[]⟩, .string ⟨#[]⟩, .string ⟨#[]⟩], []⟩).memory #[.string ⟨#[]⟩, .string ⟨#[]⟩, .string ⟨#[]⟩] := by
  have hw : (DataW.whole enc Tryd.prog ((laidWorld os).forCall (fun _ _ => 0) ⟨#[], #[.string ⟨#[]⟩, .string ⟨#[]⟩, .string ⟨#[]⟩], []⟩).memory Tryd.f6.params.toList (OpenSpec.ofChange Rows.namesOrderSpec).vars false ((#[.string ⟨#[]⟩, .string ⟨#[]⟩, .string ⟨#[]⟩] : Array Value).toList) 8).map (fun x => (x.1, x.2.1)) =
      some ([.lit (.string []), .lit (.string []), .lit (.string [])], []) := by kernel_rfl
  obtain ⟨⟨x1, x2, x3⟩, hx, hx1⟩ := Option.map_eq_some_iff.1 hw
  simp only [Prod.mk.injEq] at hx1
  obtain ⟨rfl, rfl⟩ := hx1
  exact OpenSpec.preRow_of_cond 8 hx (by kernel_rfl) (fun k hk => by cases hk) (by kernel_rfl) (laid_met os _)

set_option maxHeartbeats 2000000 in
theorem namesOrder_lifted (os : Os) (started : os.Started) (H : Type) (enc : TypeId × Value → H) (F : Stop.Interp) :
    ReturnsInHanded {} Tryd.checked os 6 .any ((OpenSpec.ofChange Rows.namesOrderSpec).preRow enc Tryd.prog Tryd.f6 Rows.namesOrderRow.domain false Rows.namesOrderRow.laid) (((OpenSpec.ofChange Rows.namesOrderSpec).at F).post enc Tryd.prog Tryd.f6 false true false false) := by
  refine returnsInHanded_of_row (C := Tryd.checked) (s := (OpenSpec.ofChange Rows.namesOrderSpec)) Tryd.own started (by kernel_rfl) Tryd.func6
    (witness_row_atRef (enc := enc) (C := Tryd.checked) false (laidWorld os) #[.string ⟨#[]⟩, .string ⟨#[]⟩, .string ⟨#[]⟩] rfl (by kernel_rfl) (by kernel_rfl) (by kernel_rfl) (namesOrder_witness os enc)) ?_
  intro W base args ds gs before hval0 hW hcnd0 _ _ hL _ _
  have hval : ∀ (j : Nat) t v, Tryd.f6.params[j]? = some t → args[j]? = some v → Value.okWide Tryd.prog W .any base t v := hval0
  have hW' := hW
  obtain ⟨p, q, hA0, hV0, rfl, _, _⟩ := hW
  have hA : DataW.TrodAll enc Tryd.prog W 0 (fun _ => true) true Tryd.f6.params.toList args.toList ds p := hA0
  rw [Tryd.params6] at hA hval
  obtain ⟨v0, v1, v2, d0, d1, d2, p0, p1, p2, rfl, rfl, rfl, h0, h1, h2⟩ := trodAll_three hA
  obtain ⟨rfl, rfl⟩ := trodVars_none hV0
  obtain ⟨s0, rfl, rfl, rfl, ws0⟩ := open_string Tryd.underlying9 (hval 0 9 v0 rfl rfl) h0
  obtain ⟨s1, rfl, rfl, rfl, ws1⟩ := open_string Tryd.underlying9 (hval 1 9 v1 rfl rfl) h1
  obtain ⟨s2, rfl, rfl, rfl, ws2⟩ := open_string Tryd.underlying9 (hval 2 9 v2 rfl rfl) h2
  clear hA0 hV0 hval0
  refine (law_NamesOrder s0 s1 s2 W (tab_of_laid hL)).mono ?_
  rintro e W' ⟨rfl, bel⟩
  refine ⟨_, rfl, _, _, _, [], [], [], hW', trodAll_mk1 (shut_bool true), trodAll_mk3 (shut_string Tryd.underlying9 ws0) (shut_string Tryd.underlying9 ws1) (shut_string Tryd.underlying9 ws2), rfl, bel.frame _, fun h => by cases h⟩

theorem namesOrder_said : Rows.NamesOrderSaid :=
  OpenClaim.holds_of_cond 6 Tryd.f6 rfl rfl rfl rfl rfl rfl rfl ⟨rfl, rfl, rfl, rfl, rfl⟩ rfl rfl rfl rfl rfl (by kernel_rfl) Tryd.func6 (by kernel_rfl)
    (of_decide_eq_true (by kernel_rfl)) (by unfold Func.isWrapper; rw [if_neg (of_decide_eq_false (by kernel_rfl))]; exact ⟨rfl, rfl⟩)
    (fun os started H enc _ F0 => by rw [OpenClaim.pre_eq_preRow]; exact namesOrder_lifted os started H enc F0)

/-- The tied card. -/
theorem namesOrder_holds : Rows.NamesOrderCardSaid :=
  Claim7.holds_tied_plain_at .later [] [.data, .data, .data] true (true, "66086631d20495c7847d46aa70f2f13bc49942b8d180c92b9434ef6fd88d0904") true
    namesOrder_said (fun _ h => by cases h) (by kernel_rfl) (fun _ h => by cases h) namesOrder_row_tie rfl ⟨rfl, rfl⟩ (by kernel_rfl) rfl
    (fun f fn hf hfn => by
      obtain rfl : f = 6 := Option.some.inj ((show Tryd.prog.funcNamed "archivolt/archivoltlaw05.NamesOrder" = some 6 by kernel_rfl).symm.trans hf) |>.symm
      obtain rfl : fn = Tryd.f6 := (Option.some.inj (Tryd.func6.symm.trans hfn)).symm
      refine ⟨by kernel_rfl, fun j t ht => ?_⟩
      rw [Tryd.params6] at ht
      have hm := List.mem_of_getElem? (l := [9, 9, 9]) (by simpa using ht)
      have hall : ∀ t ∈ ([9, 9, 9] : List TypeId), Tryd.prog.wantsStandIn t = false := by
        intro t ht
        simp only [List.mem_cons, List.not_mem_nil, or_false] at ht
        rcases ht with rfl | rfl | rfl <;> kernel_rfl
      exact hall t hm)
    (by kernel_rfl)
#print axioms namesOrder_holds
end Go.Proofs.YtmbdiimenmnfjaaDoor
