/- Walk: the law NamesAlike. -/
import Derived.Test.YtmbdiimenmnfjaaDoorGf
import Derived.Test.YtmbdiimenmnfjaaDoorGd
import Derived.Test.YtmbdiimenmnfjaaDoorGg
import Derived.Test.YtmbdiimenmnfjaaDoorRb
namespace Go.Proofs.YtmbdiimenmnfjaaDoor
open Go.RowKit Go.Deep
set_option linter.unusedVariables false
set_option linter.unusedSimpArgs false

set_option maxRecDepth 100000 in
set_option maxHeartbeats 8000000 in
theorem law_NamesAlike (a b c : ByteArray) (u : Int) (hu : 0 ≤ u ∧ u ≤ 65535) (w : World) (ht : Tab w) : Calls Tryd.prog 7 #[.string a, .string b, .string c, .int .u16 u] w fun e w' => e = .returned (.bool true) ∧ Below w.heap.size w w' := by
  have HT := Lib.hid ht
  clear ht
  obtain ⟨f, hf⟩ : ∃ f, fewM [a, b, c] = f := ⟨_, rfl⟩
  have HF := Lib.hid hf
  cases f with
  | false =>
    clear hf
    go_enter Tryd.func7, Tryd.ntmps7
    go_wp2_with (first
      | ((have hgd := HB1); clear hgd; go_at_call 15; refine (sanity_any _ (HT.out.below HB1.out)).mono ?_; rintro e w2 ⟨rfl, hB⟩; (have HB2 := Lib.hid (below_then HB1.out HB1.out.size hB)); clear hB)
      | (go_at_call 14; refine (few_three a b c _ _ rfl).mono ?_; rintro e w1 ⟨rfl, hB⟩; rw [HF.out]; (have HB1 := Lib.hid hB); clear hB))
    go_ret
    exact ⟨rfl, HB2.out⟩
  | true =>
    have hz := (few_is hf).1
    have hza : a.size ≤ 400 := hz a (by simp)
    have hzb : b.size ≤ 400 := hz b (by simp)
    have hzc : c.size ≤ 400 := hz c (by simp)
    obtain ⟨U1, hU1⟩ : ∃ U1, upM u = U1 := ⟨_, rfl⟩
    have hu1 := upM_bd u hu.1 hu.2
    have hid := upM_idem u hu.1
    rw [hU1] at hu1 hid
    have HU1 := Lib.hid hU1
    have HU2 := Lib.hid hid
    obtain ⟨X, hX⟩ : ∃ X, sameM a b = X := ⟨_, rfl⟩
    obtain ⟨Y, hY⟩ : ∃ Y, sameM b c = Y := ⟨_, rfl⟩
    have HAA := Lib.hid (sameM_refl a)
    have HAB := Lib.hid hX
    have HBA : Hid (sameM b a = X) := Lib.hid (by rw [sameM_symm, hX])
    have HBC := Lib.hid hY
    have HTR : Hid (X = true → Y = true → sameM a c = true) := Lib.hid (fun h1 h2 => sameM_trans (hX.trans h1) (hY.trans h2))
    clear hf hz hU1 hid hX hY
    go_enter Tryd.func7, Tryd.ntmps7
    go_upto_region 3 with (first
      | (go_at_call 14; refine (few_three a b c _ _ rfl).mono ?_; rintro e w1 ⟨rfl, hB⟩; rw [HF.out]; (have HB1 := Lib.hid hB); clear hB))
    go_cut [60] (fun v60 wc => v60 = .bool false ∧ Hid (Below w.heap.size w wc))
    case first =>
      cases X with
      | false =>
        clear HTR
        go_wp2_with (first
          | ((have hgd := HB7); clear hgd; go_at_call 23; refine (same_any a b (by omega) (by omega) _).mono ?_; rintro e w8 ⟨rfl, hB⟩; rw [HAB.out]; (have HB8 := Lib.hid (below_then HB7.out HB7.out.size hB)); clear hB)
          | ((have hgd := HB6); clear hgd; go_at_call 23; refine (same_any b a (by omega) (by omega) _).mono ?_; rintro e w7 ⟨rfl, hB⟩; rw [HBA.out]; (have HB7 := Lib.hid (below_then HB6.out HB6.out.size hB)); clear hB)
          | ((have hgd := HB5); clear hgd; go_at_call 23; refine (same_any a b (by omega) (by omega) _).mono ?_; rintro e w6 ⟨rfl, hB⟩; rw [HAB.out]; (have HB6 := Lib.hid (below_then HB5.out HB5.out.size hB)); clear hB)
          | ((have hgd := HB4); clear hgd; go_at_call 23; refine (same_any a a (by omega) (by omega) _).mono ?_; rintro e w5 ⟨rfl, hB⟩; rw [HAA.out]; (have HB5 := Lib.hid (below_then HB4.out HB4.out.size hB)); clear hB)
          | ((have hgd := HB3); clear hgd; go_at_call 31; refine (up_any _ u hu.1 hu.2).mono ?_; rintro e w4 ⟨rfl, hB⟩; rw [HU1.out]; (have HB4 := Lib.hid (below_then HB3.out HB3.out.size hB)); clear hB)
          | ((have hgd := HB2); clear hgd; go_at_call 31; refine (up_any _ U1 hu1.1 hu1.2).mono ?_; rintro e w3 ⟨rfl, hB⟩; rw [HU2.out]; (have HB3 := Lib.hid (below_then HB2.out HB2.out.size hB)); clear hB)
          | ((have hgd := HB1); clear hgd; go_at_call 31; refine (up_any _ u hu.1 hu.2).mono ?_; rintro e w2 ⟨rfl, hB⟩; rw [HU1.out]; (have HB2 := Lib.hid (below_then HB1.out HB1.out.size hB)); clear hB))
        go_meet
        case rel => exact ⟨rfl, HB8⟩
      | true =>
        cases Y with
        | false =>
          clear HTR
          go_wp2_with (first
            | ((have hgd := HB8); clear hgd; go_at_call 23; refine (same_any b c (by omega) (by omega) _).mono ?_; rintro e w9 ⟨rfl, hB⟩; rw [HBC.out]; (have HB9 := Lib.hid (below_then HB8.out HB8.out.size hB)); clear hB)
            | ((have hgd := HB7); clear hgd; go_at_call 23; refine (same_any a b (by omega) (by omega) _).mono ?_; rintro e w8 ⟨rfl, hB⟩; rw [HAB.out]; (have HB8 := Lib.hid (below_then HB7.out HB7.out.size hB)); clear hB)
            | ((have hgd := HB6); clear hgd; go_at_call 23; refine (same_any b a (by omega) (by omega) _).mono ?_; rintro e w7 ⟨rfl, hB⟩; rw [HBA.out]; (have HB7 := Lib.hid (below_then HB6.out HB6.out.size hB)); clear hB)
            | ((have hgd := HB5); clear hgd; go_at_call 23; refine (same_any a b (by omega) (by omega) _).mono ?_; rintro e w6 ⟨rfl, hB⟩; rw [HAB.out]; (have HB6 := Lib.hid (below_then HB5.out HB5.out.size hB)); clear hB)
            | ((have hgd := HB4); clear hgd; go_at_call 23; refine (same_any a a (by omega) (by omega) _).mono ?_; rintro e w5 ⟨rfl, hB⟩; rw [HAA.out]; (have HB5 := Lib.hid (below_then HB4.out HB4.out.size hB)); clear hB)
            | ((have hgd := HB3); clear hgd; go_at_call 31; refine (up_any _ u hu.1 hu.2).mono ?_; rintro e w4 ⟨rfl, hB⟩; rw [HU1.out]; (have HB4 := Lib.hid (below_then HB3.out HB3.out.size hB)); clear hB)
            | ((have hgd := HB2); clear hgd; go_at_call 31; refine (up_any _ U1 hu1.1 hu1.2).mono ?_; rintro e w3 ⟨rfl, hB⟩; rw [HU2.out]; (have HB3 := Lib.hid (below_then HB2.out HB2.out.size hB)); clear hB)
            | ((have hgd := HB1); clear hgd; go_at_call 31; refine (up_any _ u hu.1 hu.2).mono ?_; rintro e w2 ⟨rfl, hB⟩; rw [HU1.out]; (have HB2 := Lib.hid (below_then HB1.out HB1.out.size hB)); clear hB))
          go_meet
          case rel => exact ⟨rfl, HB9⟩
        | true =>
          have HAC := Lib.hid (HTR.out rfl rfl)
          clear HTR
          go_wp2_with (first
            | ((have hgd := HB9); clear hgd; go_at_call 23; refine (same_any a c (by omega) (by omega) _).mono ?_; rintro e w10 ⟨rfl, hB⟩; rw [HAC.out]; (have HB10 := Lib.hid (below_then HB9.out HB9.out.size hB)); clear hB)
            | ((have hgd := HB8); clear hgd; go_at_call 23; refine (same_any b c (by omega) (by omega) _).mono ?_; rintro e w9 ⟨rfl, hB⟩; rw [HBC.out]; (have HB9 := Lib.hid (below_then HB8.out HB8.out.size hB)); clear hB)
            | ((have hgd := HB7); clear hgd; go_at_call 23; refine (same_any a b (by omega) (by omega) _).mono ?_; rintro e w8 ⟨rfl, hB⟩; rw [HAB.out]; (have HB8 := Lib.hid (below_then HB7.out HB7.out.size hB)); clear hB)
            | ((have hgd := HB6); clear hgd; go_at_call 23; refine (same_any b a (by omega) (by omega) _).mono ?_; rintro e w7 ⟨rfl, hB⟩; rw [HBA.out]; (have HB7 := Lib.hid (below_then HB6.out HB6.out.size hB)); clear hB)
            | ((have hgd := HB5); clear hgd; go_at_call 23; refine (same_any a b (by omega) (by omega) _).mono ?_; rintro e w6 ⟨rfl, hB⟩; rw [HAB.out]; (have HB6 := Lib.hid (below_then HB5.out HB5.out.size hB)); clear hB)
            | ((have hgd := HB4); clear hgd; go_at_call 23; refine (same_any a a (by omega) (by omega) _).mono ?_; rintro e w5 ⟨rfl, hB⟩; rw [HAA.out]; (have HB5 := Lib.hid (below_then HB4.out HB4.out.size hB)); clear hB)
            | ((have hgd := HB3); clear hgd; go_at_call 31; refine (up_any _ u hu.1 hu.2).mono ?_; rintro e w4 ⟨rfl, hB⟩; rw [HU1.out]; (have HB4 := Lib.hid (below_then HB3.out HB3.out.size hB)); clear hB)
            | ((have hgd := HB2); clear hgd; go_at_call 31; refine (up_any _ U1 hu1.1 hu1.2).mono ?_; rintro e w3 ⟨rfl, hB⟩; rw [HU2.out]; (have HB3 := Lib.hid (below_then HB2.out HB2.out.size hB)); clear hB)
            | ((have hgd := HB1); clear hgd; go_at_call 31; refine (up_any _ u hu.1 hu.2).mono ?_; rintro e w2 ⟨rfl, hB⟩; rw [HU1.out]; (have HB2 := Lib.hid (below_then HB1.out HB1.out.size hB)); clear hB))
          go_meet
          case rel => exact ⟨rfl, HB10⟩
    case rest =>
      obtain ⟨rfl, HB60⟩ := hcut
      clear HTR
      cases hg : getU a with
      | none =>
        have HG := Lib.hid hg
        clear hg
        go_wp2_with (first
        | ((have hgd := HB61); clear hgd; go_at_call 15; refine (sanity_any _ (HT.out.below HB61.out)).mono ?_; rintro e w62 ⟨rfl, hB⟩; (have HB62 := Lib.hid (below_then HB61.out HB61.out.size hB)); clear hB)
        | ((have hgd := HB60); clear hgd; go_at_call 32; refine (upper_no a (by omega) _ HG.out).mono ?_; rintro e w61 ⟨rfl, hB⟩; (have HB61 := Lib.hid (below_then HB60.out HB60.out.size hB)); clear hB))
        go_ret
        exact ⟨rfl, HB62.out⟩
      | some r =>
        have hp := getU_props hg
        have hg2 := getU_up hg
        have hsz := upS_size r
        obtain ⟨S, hS⟩ : ∃ S, upS r = S := ⟨_, rfl⟩
        rw [hS] at hg2 hsz
        have HG := Lib.hid hg
        have HG2 := Lib.hid hg2
        have HS : Hid (mkB (textM (r.map upM)) = S) := Lib.hid hS
        have HS2 : Hid (mkB (textM ((r.map upM).map upM)) = S) := Lib.hid (by rw [map_up_idem hp.1]; exact hS)
        have HAS : Hid (sameM a S = true) := Lib.hid ((sameM_iff a S).2 (Or.inr ⟨r, _, hg, hg2, (map_up_idem hp.1).symm⟩))
        have hrl := hp.2.1
        clear hg hg2 hS hp
        go_wp2_with (first
        | ((have hgd := HB65); clear hgd; go_at_call 23; refine (same_any a S (by omega) (by omega) _).mono ?_; rintro e w66 ⟨rfl, hB⟩; rw [HAS.out]; (have HB66 := Lib.hid (below_then HB65.out HB65.out.size hB)); clear hB)
        | ((have hgd := HB64); clear hgd; go_at_call 15; refine (sanity_any _ (HT.out.below HB64.out)).mono ?_; rintro e w65 ⟨rfl, hB⟩; (have HB65 := Lib.hid (below_then HB64.out HB64.out.size hB)); clear hB)
        | ((have hgd := HB63); clear hgd; go_at_call 33; refine (units_rd S (by omega) _ (r.map upM) HG2.out).mono ?_; rintro e w64 ⟨⟨A15, c15, rfl⟩, hB⟩; rw [List.length_map]; (have HB64 := Lib.hid (below_then HB63.out HB63.out.size hB)); clear hB)
        | ((have hgd := HB62); clear hgd; go_at_call 33; refine (units_rd a (by omega) _ r HG.out).mono ?_; rintro e w63 ⟨⟨A13, c13, rfl⟩, hB⟩; (have HB63 := Lib.hid (below_then HB62.out HB62.out.size hB)); clear hB)
        | ((have hgd := HB61); clear hgd; go_at_call 32; refine (upper_ok S (by omega) _ (r.map upM) HG2.out).mono ?_; rintro e w62 ⟨rfl, hB⟩; rw [HS2.out]; (have HB62 := Lib.hid (below_then HB61.out HB61.out.size hB)); clear hB)
        | ((have hgd := HB60); clear hgd; go_at_call 32; refine (upper_ok a (by omega) _ r HG.out).mono ?_; rintro e w61 ⟨rfl, hB⟩; rw [HS.out]; (have HB61 := Lib.hid (below_then HB60.out HB60.out.size hB)); clear hB))
        go_ret
        exact ⟨rfl, HB66.out⟩
end Go.Proofs.YtmbdiimenmnfjaaDoor
/- NamesAlike: for every input the law returns true and leaves its arguments as they were; the three listed tables of the library are tied to the program's text. Conditions: none beyond the row. -/
namespace Go.Proofs.YtmbdiimenmnfjaaDoor
open Go.Shelf Go.ChangeShapes Go.WideShapes Go.ChangeAt Go.RowKit Go.Deep
open Go.ChangeMaps (open_string shut_string)
set_option linter.unusedVariables false
set_option maxRecDepth 100000

theorem namesAlike_witness (os : Os) {H : Type} (enc : TypeId × Value → H) :
    (OpenSpec.ofChange Rows.namesAlikeSpec).preRow enc Tryd.prog Tryd.f7 Rows.namesAlikeRow.domain false Rows.namesAlikeRow.laid ((laidWorld os).forCall (fun _ _ => 0) ⟨#[], #[.string ⟨#[]⟩, .string ⟨#[]⟩, .string ⟨#[]⟩, .int .u16 0], []⟩).memory #[.string ⟨#[]⟩, .string ⟨#[]⟩, .string ⟨#[]⟩, .int .u16 0] := by
  have hw : (DataW.whole enc Tryd.prog ((laidWorld os).forCall (fun _ _ => 0) ⟨#[], #[.string ⟨#[]⟩, .string ⟨#[]⟩, .string ⟨#[]⟩, .int .u16 0], []⟩).memory Tryd.f7.params.toList (OpenSpec.ofChange Rows.namesAlikeSpec).vars false ((#[.string ⟨#[]⟩, .string ⟨#[]⟩, .string ⟨#[]⟩, .int .u16 0] : Array Value).toList) 8).map (fun x => (x.1, x.2.1)) =
      some ([.lit (.string []), .lit (.string []), .lit (.string []), .lit (.int .u16 0)], []) := by kernel_rfl
  obtain ⟨⟨x1, x2, x3⟩, hx, hx1⟩ := Option.map_eq_some_iff.1 hw
  simp only [Prod.mk.injEq] at hx1
  obtain ⟨rfl, rfl⟩ := hx1
  exact OpenSpec.preRow_of_cond 8 hx (by kernel_rfl) (fun k hk => by cases hk) (by kernel_rfl) (laid_met os _)

set_option maxHeartbeats 2000000 in
theorem namesAlike_lifted (os : Os) (started : os.Started) (H : Type) (enc : TypeId × Value → H) (F : Stop.Interp) :
    ReturnsInHanded {} Tryd.checked os 7 .any ((OpenSpec.ofChange Rows.namesAlikeSpec).preRow enc Tryd.prog Tryd.f7 Rows.namesAlikeRow.domain false Rows.namesAlikeRow.laid) (((OpenSpec.ofChange Rows.namesAlikeSpec).at F).post enc Tryd.prog Tryd.f7 false true false false) := by
  refine returnsInHanded_of_row (C := Tryd.checked) (s := (OpenSpec.ofChange Rows.namesAlikeSpec)) Tryd.own started (by kernel_rfl) Tryd.func7
    (witness_row_atRef (enc := enc) (C := Tryd.checked) false (laidWorld os) #[.string ⟨#[]⟩, .string ⟨#[]⟩, .string ⟨#[]⟩, .int .u16 0] rfl (by kernel_rfl) (by kernel_rfl) (by kernel_rfl) (namesAlike_witness os enc)) ?_
  intro W base args ds gs before hval0 hW hcnd0 _ _ hL _ _
  have hval : ∀ (j : Nat) t v, Tryd.f7.params[j]? = some t → args[j]? = some v → Value.okWide Tryd.prog W .any base t v := hval0
  have hW' := hW
  obtain ⟨p, q, hA0, hV0, rfl, _, _⟩ := hW
  have hA : DataW.TrodAll enc Tryd.prog W 0 (fun _ => true) true Tryd.f7.params.toList args.toList ds p := hA0
  rw [Tryd.params7] at hA hval
  obtain ⟨v0, v1, v2, v3, d0, d1, d2, d3, p0, p1, p2, p3, rfl, rfl, rfl, h0, h1, h2, h3⟩ := trodAll_four hA
  obtain ⟨rfl, rfl⟩ := trodVars_none hV0
  obtain ⟨s0, rfl, rfl, rfl, ws0⟩ := open_string Tryd.underlying9 (hval 0 9 v0 rfl rfl) h0
  obtain ⟨s1, rfl, rfl, rfl, ws1⟩ := open_string Tryd.underlying9 (hval 1 9 v1 rfl rfl) h1
  obtain ⟨s2, rfl, rfl, rfl, ws2⟩ := open_string Tryd.underlying9 (hval 2 9 v2 rfl rfl) h2
  obtain ⟨a3, rfl, rfl, rfl, wa3⟩ := open_int Tryd.underlying46 (hval 3 46 v3 rfl rfl) h3
  clear hA0 hV0 hval0
  refine (law_NamesAlike s0 s1 s2 a3 (by simp only [Lit.wf, Bool.and_eq_true, decide_eq_true_eq] at wa3; exact wa3) W (tab_of_laid hL)).mono ?_
  rintro e W' ⟨rfl, bel⟩
  refine ⟨_, rfl, _, _, _, [], [], [], hW', trodAll_mk1 (shut_bool true), trodAll_mk4 (shut_string Tryd.underlying9 ws0) (shut_string Tryd.underlying9 ws1) (shut_string Tryd.underlying9 ws2) (shut_int Tryd.underlying46 wa3), rfl, bel.frame _, fun h => by cases h⟩

theorem namesAlike_said : Rows.NamesAlikeSaid :=
  OpenClaim.holds_of_cond 7 Tryd.f7 rfl rfl rfl rfl rfl rfl rfl ⟨rfl, rfl, rfl, rfl, rfl⟩ rfl rfl rfl rfl rfl (by kernel_rfl) Tryd.func7 (by kernel_rfl)
    (of_decide_eq_true (by kernel_rfl)) (by unfold Func.isWrapper; rw [if_neg (of_decide_eq_false (by kernel_rfl))]; exact ⟨rfl, rfl⟩)
    (fun os started H enc _ F0 => by rw [OpenClaim.pre_eq_preRow]; exact namesAlike_lifted os started H enc F0)

/-- The tied card. -/
theorem namesAlike_holds : Rows.NamesAlikeCardSaid :=
  Claim7.holds_tied_plain_at .later [] [.data, .data, .data] true (true, "66086631d20495c7847d46aa70f2f13bc49942b8d180c92b9434ef6fd88d0904") true
    namesAlike_said (fun _ h => by cases h) (by kernel_rfl) (fun _ h => by cases h) namesAlike_row_tie rfl ⟨rfl, rfl⟩ (by kernel_rfl) rfl
    (fun f fn hf hfn => by
      obtain rfl : f = 7 := Option.some.inj ((show Tryd.prog.funcNamed "archivolt/archivoltlaw05.NamesAlike" = some 7 by kernel_rfl).symm.trans hf) |>.symm
      obtain rfl : fn = Tryd.f7 := (Option.some.inj (Tryd.func7.symm.trans hfn)).symm
      refine ⟨by kernel_rfl, fun j t ht => ?_⟩
      rw [Tryd.params7] at ht
      have hm := List.mem_of_getElem? (l := [9, 9, 9, 46]) (by simpa using ht)
      have hall : ∀ t ∈ ([9, 9, 9, 46] : List TypeId), Tryd.prog.wantsStandIn t = false := by
        intro t ht
        simp only [List.mem_cons, List.not_mem_nil, or_false] at ht
        rcases ht with rfl | rfl | rfl | rfl <;> kernel_rfl
      exact hall t hm)
    (by kernel_rfl)
#print axioms namesAlike_holds
end Go.Proofs.YtmbdiimenmnfjaaDoor
