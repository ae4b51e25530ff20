/- Walk: the law NamesNames. -/
import Derived.Test.YtmbdiimenmnfjaaDoorGi
import Derived.Test.YtmbdiimenmnfjaaDoorGf
import Derived.Test.YtmbdiimenmnfjaaDoorGg
import Derived.Test.YtmbdiimenmnfjaaDoorRb
namespace Go.Proofs.YtmbdiimenmnfjaaDoor
open Go.RowKit Go.Deep
set_option linter.unusedVariables false
set_option linter.unusedSimpArgs false

theorem key_nC (s : ByteArray) (C : Int) (hs : s.size ≤ 40000) (w : World) (h : checkM s = C) (hc : ¬ C = 0) :
    Calls Tryd.prog 17 #[.string s] w fun e w' => e = .returned (.tuple #[.slice none 0 0, .int .i64 C]) ∧ Below w.heap.size w w' := by
  rw [← h] at hc ⊢
  exact key_no s hs w hc

set_option maxRecDepth 100000 in
set_option maxHeartbeats 8000000 in
theorem law_NamesNames (a b : ByteArray) (w : World) (ht : Tab w) : Calls Tryd.prog 3 #[.string a, .string b] w fun e w' => e = .returned (.bool true) ∧ Below w.heap.size w w' := by
  have HT := Lib.hid ht
  clear ht
  obtain ⟨f, hf⟩ : ∃ f, fewM [a, b] = f := ⟨_, rfl⟩
  have HF := Lib.hid hf
  cases f with
  | false =>
    clear hf
    go_enter Tryd.func3, Tryd.ntmps3
    go_wp2_with (first
      | ((have hgd := HB1); clear hgd; go_at_call 15; refine (sanity_any _ (HT.out.below HB1.out)).mono ?_; rintro e w2 ⟨rfl, hB⟩; (have HB2 := Lib.hid (below_then HB1.out HB1.out.size hB)); clear hB)
      | (go_at_call 14; refine (few_two a b _ _ rfl).mono ?_; rintro e w1 ⟨rfl, hB⟩; rw [HF.out]; (have HB1 := Lib.hid hB); clear hB))
    go_ret
    exact ⟨rfl, HB2.out⟩
  | true =>
    have hz := (few_is hf).1
    have hza : a.size ≤ 400 := hz a (by simp)
    have hzb : b.size ≤ 400 := hz b (by simp)
    obtain ⟨X, hX⟩ : ∃ X, compareM a b = X := ⟨_, rfl⟩
    obtain ⟨S, hS⟩ : ∃ S, sameM a b = S := ⟨_, rfl⟩
    obtain ⟨I, hI⟩ : ∃ I, isShortM a = I := ⟨_, rfl⟩
    have HX := Lib.hid hX
    have HS := Lib.hid hS
    have HI := Lib.hid hI
    clear hf hz hX hS hI
    by_cases hc0 : checkM a = 0
    · obtain ⟨r, hg, -⟩ := check_units hc0
      have HC := Lib.hid hc0
      have HG := Lib.hid hg
      obtain ⟨M, hM⟩ : ∃ M, mkB (keyM r) = M := ⟨_, rfl⟩
      have HM := Lib.hid hM
      clear hc0 hg hM
      go_enter Tryd.func3, Tryd.ntmps3
      go_wp2_with (first
        | ((have hgd := HB12); clear hgd; go_at_call 26; refine (risShort_any a (by omega) _).mono ?_; rintro e w13 ⟨rfl, hB⟩; rw [HI.out]; (have HB13 := Lib.hid (below_drawn HB12.out hB)); clear hB)
        | ((have hgd := HB11); clear hgd; go_at_call 25; refine (isShort_any a (by omega) _).mono ?_; rintro e w12 ⟨rfl, hB⟩; rw [HI.out]; (have HB12 := Lib.hid (below_then HB11.out HB11.out.size hB)); clear hB)
        | ((have hgd := HB10); clear hgd; go_at_call 24; refine (rsame_any a b (by omega) (by omega) _).mono ?_; rintro e w11 ⟨rfl, hB⟩; rw [HS.out]; (have HB11 := Lib.hid (below_then HB10.out HB10.out.size hB)); clear hB)
        | ((have hgd := HB9); clear hgd; go_at_call 23; refine (same_any a b (by omega) (by omega) _).mono ?_; rintro e w10 ⟨rfl, hB⟩; rw [HS.out]; (have HB10 := Lib.hid (below_then HB9.out HB9.out.size hB)); clear hB)
        | ((have hgd := HB8); clear hgd; go_at_call 22; refine (rcompare_any a b (by omega) (by omega) _).mono ?_; rintro e w9 ⟨rfl, hB⟩; rw [HX.out]; (have HB9 := Lib.hid (below_then HB8.out HB8.out.size hB)); clear hB)
        | ((have hgd := HB7); clear hgd; go_at_call 21; refine (compare_any a b (by omega) (by omega) _).mono ?_; rintro e w8 ⟨rfl, hB⟩; rw [HX.out]; (have HB8 := Lib.hid (below_then HB7.out HB7.out.size hB)); clear hB)
        | ((have hgd := HB6); clear hgd; go_at_call 20; refine (check_any a (by omega) _).mono ?_; rintro e w7 ⟨rfl, hB⟩; rw [HC.out]; (have hcv2 := (conv_rd _ Ak ck _ _ (HK.out.below hB)).trans (by rw [HM.out])); (have HB7 := Lib.hid (below_then HB6.out HB6.out.size hB)); clear hB)
        | ((have hgd := HB5); clear hgd; go_at_call 19; refine (valid_any a (by omega) _).mono ?_; rintro e w6 ⟨rfl, hB⟩; rw [HC.out]; (have HK := Lib.hid (HK.out.below hB)); (have HB6 := Lib.hid (below_then HB5.out HB5.out.size hB)); clear hB)
        | ((have hgd := HB4); clear hgd; go_at_call 15; refine (sanity_any _ (HT.out.below HB4.out)).mono ?_; rintro e w5 ⟨rfl, hB⟩; (have HK := Lib.hid (HK.out.below hB)); (have HB5 := Lib.hid (below_then HB4.out HB4.out.size hB)); clear hB)
        | ((have hgd := HB3); clear hgd; go_at_call 18; refine (rkey_any a (by omega) r HG.out _).mono ?_; rintro e w4 ⟨⟨Aw, cw, rfl, hK2⟩, hB⟩; (have hcv1 := (conv_rd _ Aw cw _ _ hK2).trans (by rw [HM.out])); (have HK := Lib.hid (HK.out.below hB)); clear hK2; (have HB4 := Lib.hid (below_then HB3.out HB3.out.size hB)); clear hB)
        | ((have hgd := HB2); clear hgd; go_at_call 17; refine (key_rd a (by omega) _ HC.out r HG.out).mono ?_; rintro e w3 ⟨Ak, ck, rfl, hK, hB⟩; (have HK := Lib.hid hK); clear hK; (have HB3 := Lib.hid (below_then HB2.out HB2.out.size hB)); clear hB)
        | ((have hgd := HB1); clear hgd; go_at_call 16; refine (rcheck_any a (by omega) _).mono ?_; rintro e w2 ⟨rfl, hB⟩; rw [HC.out]; (have HB2 := Lib.hid (below_then HB1.out HB1.out.size hB)); clear hB)
        | (go_at_call 14; refine (few_two a b _ _ rfl).mono ?_; rintro e w1 ⟨rfl, hB⟩; rw [HF.out]; (have HB1 := Lib.hid hB); clear hB))
      go_ret
      exact ⟨rfl, HB13.out⟩
    · obtain ⟨C, hC⟩ : ∃ C, checkM a = C := ⟨_, rfl⟩
      rw [hC] at hc0
      have hc : ¬ C = 0 := hc0
      have HC := Lib.hid hC
      have hcv : ∀ W : World, (convert 26 9 (.slice none 0 0)).run Tryd.prog W = .ok (.string ⟨#[]⟩) W := fun W => conv_rd W none 0 [] 0 (rd_none W .u8)
      clear hc0 hC
      go_enter Tryd.func3, Tryd.ntmps3
      go_wp2_with (first
        | ((have hgd := HB11); clear hgd; go_at_call 26; refine (risShort_any a (by omega) _).mono ?_; rintro e w12 ⟨rfl, hB⟩; rw [HI.out]; (have HB12 := Lib.hid (below_drawn HB11.out hB)); clear hB)
        | ((have hgd := HB10); clear hgd; go_at_call 25; refine (isShort_any a (by omega) _).mono ?_; rintro e w11 ⟨rfl, hB⟩; rw [HI.out]; (have HB11 := Lib.hid (below_then HB10.out HB10.out.size hB)); clear hB)
        | ((have hgd := HB9); clear hgd; go_at_call 24; refine (rsame_any a b (by omega) (by omega) _).mono ?_; rintro e w10 ⟨rfl, hB⟩; rw [HS.out]; (have HB10 := Lib.hid (below_then HB9.out HB9.out.size hB)); clear hB)
        | ((have hgd := HB8); clear hgd; go_at_call 23; refine (same_any a b (by omega) (by omega) _).mono ?_; rintro e w9 ⟨rfl, hB⟩; rw [HS.out]; (have HB9 := Lib.hid (below_then HB8.out HB8.out.size hB)); clear hB)
        | ((have hgd := HB7); clear hgd; go_at_call 22; refine (rcompare_any a b (by omega) (by omega) _).mono ?_; rintro e w8 ⟨rfl, hB⟩; rw [HX.out]; (have HB8 := Lib.hid (below_then HB7.out HB7.out.size hB)); clear hB)
        | ((have hgd := HB6); clear hgd; go_at_call 21; refine (compare_any a b (by omega) (by omega) _).mono ?_; rintro e w7 ⟨rfl, hB⟩; rw [HX.out]; (have HB7 := Lib.hid (below_then HB6.out HB6.out.size hB)); clear hB)
        | ((have hgd := HB5); clear hgd; go_at_call 20; refine (check_any a (by omega) _).mono ?_; rintro e w6 ⟨rfl, hB⟩; rw [HC.out]; (have HB6 := Lib.hid (below_then HB5.out HB5.out.size hB)); clear hB)
        | ((have hgd := HB4); clear hgd; go_at_call 19; refine (valid_any a (by omega) _).mono ?_; rintro e w5 ⟨rfl, hB⟩; rw [HC.out]; (have HB5 := Lib.hid (below_then HB4.out HB4.out.size hB)); clear hB)
        | ((have hgd := HB3); clear hgd; go_at_call 15; refine (sanity_any _ (HT.out.below HB3.out)).mono ?_; rintro e w4 ⟨rfl, hB⟩; (have HB4 := Lib.hid (below_then HB3.out HB3.out.size hB)); clear hB)
        | ((have hgd := HB2); clear hgd; go_at_call 17; refine (key_nC a C (by omega) _ HC.out hc).mono ?_; rintro e w3 ⟨rfl, hB⟩; (have HB3 := Lib.hid (below_then HB2.out HB2.out.size hB)); clear hB)
        | ((have hgd := HB1); clear hgd; go_at_call 16; refine (rcheck_any a (by omega) _).mono ?_; rintro e w2 ⟨rfl, hB⟩; rw [HC.out]; (have HB2 := Lib.hid (below_then HB1.out HB1.out.size hB)); clear hB)
        | (go_at_call 14; refine (few_two a b _ _ rfl).mono ?_; rintro e w1 ⟨rfl, hB⟩; rw [HF.out]; (have HB1 := Lib.hid hB); clear hB))
      go_ret
      exact ⟨rfl, HB12.out⟩
end Go.Proofs.YtmbdiimenmnfjaaDoor
/- NamesNames: for every input the law returns true and leaves its arguments as they were; the three listed tables of the library are tied to the program's text. Conditions: none beyond the row. -/
namespace Go.Proofs.YtmbdiimenmnfjaaDoor
open Go.Shelf Go.ChangeShapes Go.WideShapes Go.ChangeAt Go.RowKit Go.Deep
open Go.ChangeMaps (open_string shut_string)
set_option linter.unusedVariables false
set_option maxRecDepth 100000

theorem namesNames_witness (os : Os) {H : Type} (enc : TypeId × Value → H) :
    (OpenSpec.ofChange Rows.namesNamesSpec).preRow enc Tryd.prog Tryd.f3 Rows.namesNamesRow.domain false Rows.namesNamesRow.laid ((laidWorld os).forCall (fun _ _ => 0) ⟨#[], #[.string ⟨#[]⟩, .string ⟨#[]⟩], []⟩).memory #[.string ⟨#[]⟩, .string ⟨#[]⟩] := by
  have hw : (DataW.whole enc Tryd.prog ((laidWorld os).forCall (fun _ _ => 0) ⟨#[], #[.string ⟨#[]⟩, .string ⟨#[]⟩], []⟩).memory Tryd.f3.params.toList (OpenSpec.ofChange Rows.namesNamesSpec).vars false ((#[.string ⟨#[]⟩, .string ⟨#[]⟩] : Array Value).toList) 8).map (fun x => (x.1, x.2.1)) =
      some ([.lit (.string []), .lit (.string [])], []) := by kernel_rfl
  obtain ⟨⟨x1, x2, x3⟩, hx, hx1⟩ := Option.map_eq_some_iff.1 hw
  simp only [Prod.mk.injEq] at hx1
  obtain ⟨rfl, rfl⟩ := hx1
  exact OpenSpec.preRow_of_cond 8 hx (by kernel_rfl) (fun k hk => by cases hk) (by kernel_rfl) (laid_met os _)

set_option maxHeartbeats 2000000 in
theorem namesNames_lifted (os : Os) (started : os.Started) (H : Type) (enc : TypeId × Value → H) (F : Stop.Interp) :
    ReturnsInHanded {} Tryd.checked os 3 .any ((OpenSpec.ofChange Rows.namesNamesSpec).preRow enc Tryd.prog Tryd.f3 Rows.namesNamesRow.domain false Rows.namesNamesRow.laid) (((OpenSpec.ofChange Rows.namesNamesSpec).at F).post enc Tryd.prog Tryd.f3 false true false false) := by
  refine returnsInHanded_of_row (C := Tryd.checked) (s := (OpenSpec.ofChange Rows.namesNamesSpec)) Tryd.own started (by kernel_rfl) Tryd.func3
    (witness_row_atRef (enc := enc) (C := Tryd.checked) false (laidWorld os) #[.string ⟨#[]⟩, .string ⟨#[]⟩] rfl (by kernel_rfl) (by kernel_rfl) (by kernel_rfl) (namesNames_witness os enc)) ?_
  intro W base args ds gs before hval0 hW hcnd0 _ _ hL _ _
  have hval : ∀ (j : Nat) t v, Tryd.f3.params[j]? = some t → args[j]? = some v → Value.okWide Tryd.prog W .any base t v := hval0
  have hW' := hW
  obtain ⟨p, q, hA0, hV0, rfl, _, _⟩ := hW
  have hA : DataW.TrodAll enc Tryd.prog W 0 (fun _ => true) true Tryd.f3.params.toList args.toList ds p := hA0
  rw [Tryd.params3] at hA hval
  obtain ⟨v0, v1, d0, d1, p0, p1, rfl, rfl, rfl, h0, h1⟩ := trodAll_two hA
  obtain ⟨rfl, rfl⟩ := trodVars_none hV0
  obtain ⟨s0, rfl, rfl, rfl, ws0⟩ := open_string Tryd.underlying9 (hval 0 9 v0 rfl rfl) h0
  obtain ⟨s1, rfl, rfl, rfl, ws1⟩ := open_string Tryd.underlying9 (hval 1 9 v1 rfl rfl) h1
  clear hA0 hV0 hval0
  refine (law_NamesNames s0 s1 W (tab_of_laid hL)).mono ?_
  rintro e W' ⟨rfl, bel⟩
  refine ⟨_, rfl, _, _, _, [], [], [], hW', trodAll_mk1 (shut_bool true), trodAll_mk2 (shut_string Tryd.underlying9 ws0) (shut_string Tryd.underlying9 ws1), rfl, bel.frame _, fun h => by cases h⟩

theorem namesNames_said : Rows.NamesNamesSaid :=
  OpenClaim.holds_of_cond 3 Tryd.f3 rfl rfl rfl rfl rfl rfl rfl ⟨rfl, rfl, rfl, rfl, rfl⟩ rfl rfl rfl rfl rfl (by kernel_rfl) Tryd.func3 (by kernel_rfl)
    (of_decide_eq_true (by kernel_rfl)) (by unfold Func.isWrapper; rw [if_neg (of_decide_eq_false (by kernel_rfl))]; exact ⟨rfl, rfl⟩)
    (fun os started H enc _ F0 => by rw [OpenClaim.pre_eq_preRow]; exact namesNames_lifted os started H enc F0)

/-- The tied card. -/
theorem namesNames_holds : Rows.NamesNamesCardSaid :=
  Claim7.holds_tied_plain_at .later [] [.data, .data, .data] true (true, "66086631d20495c7847d46aa70f2f13bc49942b8d180c92b9434ef6fd88d0904") true
    namesNames_said (fun _ h => by cases h) (by kernel_rfl) (fun _ h => by cases h) namesNames_row_tie rfl ⟨rfl, rfl⟩ (by kernel_rfl) rfl
    (fun f fn hf hfn => by
      obtain rfl : f = 3 := Option.some.inj ((show Tryd.prog.funcNamed "archivolt/archivoltlaw05.NamesNames" = some 3 by kernel_rfl).symm.trans hf) |>.symm
      obtain rfl : fn = Tryd.f3 := (Option.some.inj (Tryd.func3.symm.trans hfn)).symm
      refine ⟨by kernel_rfl, fun j t ht => ?_⟩
      rw [Tryd.params3] at ht
      have hm := List.mem_of_getElem? (l := [9, 9]) (by simpa using ht)
      have hall : ∀ t ∈ ([9, 9] : List TypeId), Tryd.prog.wantsStandIn t = false := by
        intro t ht
        simp only [List.mem_cons, List.not_mem_nil, or_false] at ht
        rcases ht with rfl | rfl <;> kernel_rfl
      exact hall t hm)
    (by kernel_rfl)
#print axioms namesNames_holds
end Go.Proofs.YtmbdiimenmnfjaaDoor
