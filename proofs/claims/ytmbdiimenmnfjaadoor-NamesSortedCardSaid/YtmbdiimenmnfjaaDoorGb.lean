/- Walk: text. -/
import Derived.Test.YtmbdiimenmnfjaaDoorGa
namespace Go.Proofs.YtmbdiimenmnfjaaDoor
open Go.RowKit Go.Deep
set_option linter.unusedVariables false
set_option linter.unusedSimpArgs false

set_option maxRecDepth 100000 in
set_option maxHeartbeats 4000000 in
theorem text_any (A : Option Addr) (c : Nat) (xs : List Int) (hn : xs.length ≤ 40000) (hx : U16 xs) (w : World) (hR : Rd w .u16 A xs.length xs) :
    Calls Tryd.prog 61 #[.slice A xs.length c] w fun e w' => e = .returned (.string (mkB (textM xs))) ∧ Below w.heap.size w w' := by
  obtain ⟨i0, hi, hz0, hz1, hz2⟩ := info_parts info5
  have hmf : ∀ (fn : Fn) (first cap : Array Value) (w : World), (Instr.makeFunc fn first cap).run Tryd.prog w = .ok (.func fn first cap) w := fun _ _ _ _ => rfl
  have HR := Lib.hid hR
  have HX := Lib.hid hx
  clear hR hx
  go_enter Tryd.func61, Tryd.ntmps61
  go_wp2
  have hbn := heap_alloc_new w (.cells #[.slice none 0 0] 26)
  obtain ⟨B, hB⟩ : ∃ B, w.heap.size = B := ⟨_, rfl⟩
  have HT0 : Hid (TS w B [] (w.alloc (.cells #[.slice none 0 0] 26))) := Lib.hid ⟨⟨_, by rw [← hB]; exact hbn, World.ownsRow_nil _ _ _ _⟩, by rw [← hB]; exact one_alloc _ _⟩
  have HBB := Lib.hid hB
  rw [hB]
  clear hbn hB
  go_loopw [5] (fun v W => ∃ (i : Nat) (pre : List Int), v = .int .i64 i ∧ i ≤ xs.length ∧ Hid (textM xs = pre ++ textM (xs.drop i)) ∧ pre.length ≤ 4 * i ∧ Hid (TS w B pre W)) (fun i _ => xs.length - (intOf i).toNat)
  case atStart => exact ⟨0, [], rfl, by omega, Lib.hid rfl, by simp, HT0⟩
  case round =>
    clear HT0
    obtain ⟨i, pre, rfl, hil, HTX, hpl, HT0⟩ := hrel
    by_cases hlt : i < xs.length
    · have hlti : (i : Int) < xs.length := by omega
      obtain ⟨ad, hA, hc⟩ := (HR.out.below (by rw [HBB.out]; exact HT0.out.below)).at_ i hlt
      subst hA
      obtain ⟨x, hx⟩ : ∃ x, xs.getD i 0 = x := ⟨_, rfl⟩
      rw [hx] at hc
      have hxb := HX.out.get i
      rw [hx] at hxb
      have hdr : xs.drop i = x :: xs.drop (i + 1) := by rw [List.drop_eq_getElem_cons hlt, ← hx, List.getD_eq_getElem?_getD, List.getElem?_eq_getElem hlt]; rfl
      have HDR := Lib.hid hdr
      obtain ⟨Av, cv, hb, ho, hcv⟩ := HT0.out.parts
      obtain ⟨c0, z0, l0⟩ := one_cell hb
      have HO := Lib.hid ho
      have HBX := Lib.hid hb
      clear hx hdr hb ho
      have APP : True := trivial
      by_cases hlt2 : i + 1 < xs.length
      · have hlti2 : (i : Int) + 1 < xs.length := by omega
        obtain ⟨ad', hA, hc'⟩ := (HR.out.below (by rw [HBB.out]; exact HT0.out.below)).at_ (i + 1) hlt2
        cases hA
        obtain ⟨y, hy⟩ : ∃ y, xs.getD (i + 1) 0 = y := ⟨_, rfl⟩
        rw [hy] at hc'
        have hyb := HX.out.get (i + 1)
        rw [hy] at hyb
        have HD2 : Hid (xs.drop (i + 1) = y :: xs.drop (i + 2)) := Lib.hid (by rw [List.drop_eq_getElem_cons hlt2, ← hy, List.getD_eq_getElem?_getD, List.getElem?_eq_getElem hlt2]; rfl)
        clear hy
        have hia : (((i : Int) + 1)).toNat = i + 1 := by omega
        have hc2 : wr.cell? ⟨ad.block, ad.off + (i + 1), none⟩ = some (.int .u16 y) := by rw [← hc', Addr.add_succ']
        have HNP : Hid (¬ pairU x y → ∀ d r', xs.drop (i + 1) = d :: r' → ¬ pairU x d) := Lib.hid (fun h d r' e => by rw [HD2.out] at e; cases e; exact h)
        go_wp2_with (first
          | (at_builtin; refine wpList_append_own _ rfl _ _ 26 rfl B 5 i0 (.int .u8 0) 1 1 Tryd.underlying26 hi hz0 hz1 hz2 rfl (by decide) _ pre.length (numK .u8 pre) rfl (World.ownsRow.alloc HO.out _) ⟨_, 0, none⟩ 1 1 [_] rfl rfl (cell_new1 _ _ rfl _ _) (by simp [Value.oneCell']) (by simp only [maxLen]; omega) (by omega) (by simp; omega) ?_; intro v' w3 hown3 hgrow3 _; obtain ⟨g', cap', rfl⟩ := ownsRow_succ hown3; (have HB3 := Lib.hid (grown_keep hgrow3 (heap_al HBX.out) (own_ne_type HO.out HBX.out (by decide)))); (have HW3 := Lib.hid ((HT0.out.below.alloc (by omega) _).grown hgrow3 (by simp; omega) (fun kk hk => (HO.out.lt kk hk).1))); (have HT1 := Lib.hid (ts_step HB3.out hown3 HW3.out)); obtain ⟨c3, z3, l3⟩ := one_cell HB3.out; clear hown3 hgrow3)
          | ((have hgd := HT3); clear hgd; go_at_call 83; refine (more_lit w B _ _ HT3.out (by rw [HBB.out]; exact Nat.le_refl _) (by simp; omega) _ _ (by omega) (by omega)).mono ?_; rintro e w6 ⟨⟨u3, rfl⟩, hT⟩; (have HT4 := Lib.hid hT); clear hT)
          | ((have hgd := HT2); clear hgd; go_at_call 83; refine (more_lit w B _ _ HT2.out (by rw [HBB.out]; exact Nat.le_refl _) (by simp; omega) _ _ (by omega) (by omega)).mono ?_; rintro e w5 ⟨⟨u2, rfl⟩, hT⟩; (have HT3 := Lib.hid hT); clear hT)
          | ((have hgd := HT1); clear hgd; go_at_call 83; refine (more_lit w B _ _ HT1.out (by rw [HBB.out]; exact Nat.le_refl _) (by simp; omega) _ _ (by omega) (by omega)).mono ?_; rintro e w4 ⟨⟨u1, rfl⟩, hT⟩; (have HT2 := Lib.hid hT); clear hT))
        all_goals first
          | exact text_end1 hlt HTX HDR (HNP.out (by unfold pairU; omega)) hpl (encB_3 x (by omega) (by omega)) (by rw [← ap3]; exact HT3)
          | exact text_end1 hlt HTX HDR (HNP.out (by unfold pairU; omega)) hpl (encB_2 x (by omega) (by omega)) (by rw [← ap2]; exact HT2)
          | exact text_end1 hlt HTX HDR (HNP.out (by unfold pairU; omega)) hpl (encB_1 x (by omega)) HT1
          | exact text_end2 hlt2 HTX HDR HD2 (by unfold pairU; omega) hpl (encB_4 _ (by omega)) (by rw [← ap4]; exact HT4)
          | trace_state
      · have hlti2 : ¬ ((i : Int) + 1 < xs.length) := by omega
        have HD2 : xs.drop (i + 1) = [] := List.drop_eq_nil_of_le (by omega)
        have HNP : Hid (∀ d r', xs.drop (i + 1) = d :: r' → ¬ pairU x d) := Lib.hid (fun d r' e => by rw [HD2] at e; cases e)
        go_wp2_with (first
          | (at_builtin; refine wpList_append_own _ rfl _ _ 26 rfl B 5 i0 (.int .u8 0) 1 1 Tryd.underlying26 hi hz0 hz1 hz2 rfl (by decide) _ pre.length (numK .u8 pre) rfl (World.ownsRow.alloc HO.out _) ⟨_, 0, none⟩ 1 1 [_] rfl rfl (cell_new1 _ _ rfl _ _) (by simp [Value.oneCell']) (by simp only [maxLen]; omega) (by omega) (by simp; omega) ?_; intro v' w3 hown3 hgrow3 _; obtain ⟨g', cap', rfl⟩ := ownsRow_succ hown3; (have HB3 := Lib.hid (grown_keep hgrow3 (heap_al HBX.out) (own_ne_type HO.out HBX.out (by decide)))); (have HW3 := Lib.hid ((HT0.out.below.alloc (by omega) _).grown hgrow3 (by simp; omega) (fun kk hk => (HO.out.lt kk hk).1))); (have HT1 := Lib.hid (ts_step HB3.out hown3 HW3.out)); obtain ⟨c3, z3, l3⟩ := one_cell HB3.out; clear hown3 hgrow3)
          | ((have hgd := HT3); clear hgd; go_at_call 83; refine (more_lit w B _ _ HT3.out (by rw [HBB.out]; exact Nat.le_refl _) (by simp; omega) _ _ (by omega) (by omega)).mono ?_; rintro e w6 ⟨⟨u3, rfl⟩, hT⟩; (have HT4 := Lib.hid hT); clear hT)
          | ((have hgd := HT2); clear hgd; go_at_call 83; refine (more_lit w B _ _ HT2.out (by rw [HBB.out]; exact Nat.le_refl _) (by simp; omega) _ _ (by omega) (by omega)).mono ?_; rintro e w5 ⟨⟨u2, rfl⟩, hT⟩; (have HT3 := Lib.hid hT); clear hT)
          | ((have hgd := HT1); clear hgd; go_at_call 83; refine (more_lit w B _ _ HT1.out (by rw [HBB.out]; exact Nat.le_refl _) (by simp; omega) _ _ (by omega) (by omega)).mono ?_; rintro e w4 ⟨⟨u1, rfl⟩, hT⟩; (have HT2 := Lib.hid hT); clear hT))
        all_goals first
          | exact text_end1 hlt HTX HDR HNP.out hpl (encB_3 x (by omega) (by omega)) (by rw [← ap3]; exact HT3)
          | exact text_end1 hlt HTX HDR HNP.out hpl (encB_2 x (by omega) (by omega)) (by rw [← ap2]; exact HT2)
          | exact text_end1 hlt HTX HDR HNP.out hpl (encB_1 x (by omega)) HT1
          | trace_state
    · have hie : i = xs.length := by omega
      subst hie
      have hlti : ¬ ((xs.length : Int) < xs.length) := by omega
      obtain ⟨Av, cv, hb, ho, hcv⟩ := HT0.out.parts
      obtain ⟨c0, z0, l0⟩ := one_cell hb
      obtain ⟨A', c', e, hc', hRd, -⟩ := own_nums ho (by omega)
      cases e
      have hcv := conv_rd wr Av cv pre pre.length hRd
      have hpre : textM xs = pre := by rw [HTX.out, List.drop_length]; simp [textM]
      clear hb ho
      rw [hpre]
      go_wp2
      go_ret
      exact ⟨rfl, by rw [HBB.out]; exact HT0.out.below⟩
end Go.Proofs.YtmbdiimenmnfjaaDoor
/- Walks: Units, String, Upper. -/
namespace Go.Proofs.YtmbdiimenmnfjaaDoor
open Go.RowKit Go.Deep
set_option linter.unusedVariables false
set_option linter.unusedSimpArgs false

/-- Units of a string, or none. -/
def getU (s : ByteArray) : Option (List Int) := match readM (bts s) with
  | (r, true) => some r
  | (_, false) => none
theorem getU_some {s : ByteArray} {r : List Int} (h : getU s = some r) : readM (bts s) = (r, true) := by
  unfold getU at h
  split at h
  · rename_i r' e; cases h; exact e
  · cases h
theorem getU_none {s : ByteArray} (h : getU s = none) : ∃ r, readM (bts s) = (r, false) := by
  unfold getU at h
  split at h
  · cases h
  · rename_i r' e; exact ⟨r', e⟩
theorem getU_props {s : ByteArray} {r : List Int} (h : getU s = some r) : U16 r ∧ r.length ≤ s.size ∧ r.length ≤ 4096 := by
  have := readM_props (getU_some h)
  exact ⟨this.1, this.2.1, this.2.2 rfl⟩

set_option maxRecDepth 100000 in
theorem units_ok (s : ByteArray) (hs : s.size ≤ 100000) (w : World) (r : List Int) (h : getU s = some r) :
    Calls Tryd.prog 33 #[.string s] w fun e w' => ∃ v, e = .returned (.tuple #[v, .int .i64 0]) ∧ w'.ownsRow w.heap.size 46 1 v r.length (numK .u16 r) ∧ Below w.heap.size w w' := by
  have H := Lib.hid (getU_some h)
  clear h
  go_enter Tryd.func33, Tryd.ntmps33
  go_wp2_with (go_at_call 45; refine (read_any s hs _ _ _ H.out).mono ?_; rintro e w1 ⟨v, rfl, hO, hB⟩; (have HO := Lib.hid hO); (have HB := Lib.hid hB); clear hO hB)
  go_ret2
  exact ⟨_, rfl, HO.out, HB.out⟩
set_option maxRecDepth 100000 in
theorem units_no (s : ByteArray) (hs : s.size ≤ 100000) (w : World) (h : getU s = none) :
    Calls Tryd.prog 33 #[.string s] w fun e w' => e = .returned (.tuple #[.slice none 0 0, .int .i64 4]) ∧ Below w.heap.size w w' := by
  obtain ⟨r, h'⟩ := getU_none h
  have H := Lib.hid h'
  clear h h'
  go_enter Tryd.func33, Tryd.ntmps33
  go_wp2_with (go_at_call 45; refine (read_any s hs _ _ _ H.out).mono ?_; rintro e w1 ⟨v, rfl, hO, hB⟩; (have HB := Lib.hid hB); clear hO hB)
  go_ret2
  exact ⟨rfl, HB.out⟩

/-- What 'String' says. -/
def strM (xs : List Int) : ByteArray × Int := if xs.length ≤ 4096 then (mkB (textM xs), 0) else (ByteArray.empty, 2)
set_option maxRecDepth 100000 in
theorem string_any (A : Option Addr) (c : Nat) (xs : List Int) (hx : U16 xs) (w : World) (hR : Rd w .u16 A xs.length xs) :
    Calls Tryd.prog 37 #[.slice A xs.length c] w fun e w' => e = .returned (.tuple #[.string (strM xs).1, .int .i64 (strM xs).2]) ∧ Below w.heap.size w w' := by
  have HR := Lib.hid hR
  have HX := Lib.hid hx
  clear hR hx
  by_cases hl : xs.length ≤ 4096
  · have e1 : strM xs = (mkB (textM xs), 0) := if_pos hl
    rw [e1]
    have hl' : (xs.length : Int) ≤ 4096 := by omega
    go_enter Tryd.func37, Tryd.ntmps37
    go_wp2_with (go_at_call 61; refine (text_any A c xs (by omega) HX.out _ HR.out).mono ?_; rintro e w1 ⟨rfl, hB⟩; (have HB := Lib.hid hB); clear hB)
    go_ret2
    exact ⟨rfl, HB.out⟩
  · have e1 : strM xs = (ByteArray.empty, 2) := if_neg hl
    rw [e1]
    have hl' : ¬ (xs.length : Int) ≤ 4096 := by omega
    go_enter Tryd.func37, Tryd.ntmps37
    go_wp2
    go_ret2
    exact ⟨rfl, Below.refl _ _⟩

set_option maxRecDepth 100000 in
theorem upper_ok (s : ByteArray) (hs : s.size ≤ 40000) (w : World) (r : List Int) (h : getU s = some r) :
    Calls Tryd.prog 32 #[.string s] w fun e w' => e = .returned (.tuple #[.string (mkB (textM (r.map upM))), .int .i64 0]) ∧ Below w.heap.size w w' := by
  have hp := getU_props h
  have H := Lib.hid (getU_some h)
  have HX := Lib.hid hp.1
  have hl : r.length ≤ 4096 := hp.2.2
  clear h hp
  go_enter Tryd.func32, Tryd.ntmps32
  go_wp2_with (first
    | (go_at_call 45; refine (read_any s (by omega) _ _ _ H.out).mono ?_; rintro e w1 ⟨v, rfl, hO, hB⟩; obtain ⟨A, c, rfl, hc, hRd, -⟩ := own_nums hO (by omega); (have HR := Lib.hid hRd); (have HB := Lib.hid hB); clear hO hB hRd)
    | (go_at_call 47; refine (raised_any A c r (by omega) HX.out _ HR.out).mono ?_; rintro e w2 ⟨v, rfl, hO, hB⟩; obtain ⟨A', c', rfl, hc', hRd, -⟩ := own_nums hO (by omega); (have HR2 := Lib.hid hRd); (have HB2 := Lib.hid (below_then HB.out HB.out.size hB)); clear hO hB hRd)
    | (go_at_call 61; refine (Eq.mp (by rw [List.length_map]) (text_any A' c' (r.map upM) (by rw [List.length_map]; omega) HX.out.map_up _ (by rw [List.length_map]; exact HR2.out)) : Calls Tryd.prog 61 #[.slice A' r.length c'] _ _).mono ?_; rintro e w3 ⟨rfl, hB⟩; (have HB3 := Lib.hid (below_then HB2.out HB2.out.size hB)); clear hB))
  go_ret2
  exact ⟨rfl, HB3.out⟩
set_option maxRecDepth 100000 in
theorem upper_no (s : ByteArray) (hs : s.size ≤ 40000) (w : World) (h : getU s = none) :
    Calls Tryd.prog 32 #[.string s] w fun e w' => e = .returned (.tuple #[.string ByteArray.empty, .int .i64 4]) ∧ Below w.heap.size w w' := by
  obtain ⟨r, h'⟩ := getU_none h
  have H := Lib.hid h'
  clear h h'
  go_enter Tryd.func32, Tryd.ntmps32
  go_wp2_with (go_at_call 45; refine (read_any s (by omega) _ _ _ H.out).mono ?_; rintro e w1 ⟨v, rfl, hO, hB⟩; (have HB := Lib.hid hB); clear hO hB)
  go_ret2
  exact ⟨rfl, HB.out⟩
end Go.Proofs.YtmbdiimenmnfjaaDoor
/- Units and bytes lead to each other: plain facts. -/
namespace Go.Proofs.YtmbdiimenmnfjaaDoor
open Go.RowKit
set_option linter.unusedVariables false
set_option linter.unusedSimpArgs false

/-- k bytes more, of what is left. -/
def goL : Nat → List Int → Int → Option Int
  | 0, _, c => some c
  | _ + 1, [], _ => none
  | k + 1, b :: s, c => if 128 ≤ b ∧ b ≤ 191 then goL k s (c * 64 + (b - 128)) else none
theorem goM_goL (s : List Int) : ∀ k i c, goM s k i c = goL k (s.drop i) c
  | 0, i, c => by simp [goM, goL]
  | k + 1, i, c => by
    unfold goM contM
    rcases Nat.lt_or_ge i s.length with h | h
    · have hd : s.drop i = s.getD i 0 :: s.drop (i + 1) := by
        rw [List.drop_eq_getElem_cons h, List.getD_eq_getElem?_getD, List.getElem?_eq_getElem h]; rfl
      rw [hd]
      simp only [goL]
      by_cases q : 128 ≤ s.getD i 0 ∧ s.getD i 0 ≤ 191
      · rw [if_pos ⟨h, q⟩, if_pos q]
        exact goM_goL s k (i + 1) _
      · rw [if_neg (fun x => q x.2), if_neg q]
    · rw [if_neg (fun x => by omega), List.drop_eq_nil_of_le h]
      rfl
theorem pointM_cons (b : Int) (s : List Int) : pointM (b :: s) = if b < 128 then some (b, 1) else if 192 ≤ b ∧ b < 224 then pickP 2 128 (goL 1 s (b - 192)) else if 224 ≤ b ∧ b < 240 then pickP 3 2048 (goL 2 s (b - 224))
    else if 240 ≤ b ∧ b < 248 then pickP 4 65536 (goL 3 s (b - 240)) else none := by
  unfold pointM pointC
  simp only [goM_goL, List.getD_cons_zero, List.drop_succ_cons, List.drop_zero, Nat.reduceSub]
theorem pick_some {n m : Nat} {least c : Int} {o : Option Int} (h : pickP n least o = some (c, m)) : o = some c ∧ m = n ∧ least ≤ c ∧ c ≤ 1114111 := by
  cases o with
  | none => cases h
  | some x =>
    simp only [pickP] at h
    split at h
    · cases h
    · cases h; exact ⟨rfl, rfl, by omega, by omega⟩
theorem goL_1 {s : List Int} {c r : Int} {k : Nat} (h : goL (k + 1) s c = some r) : ∃ b t, s = b :: t ∧ 128 ≤ b ∧ b ≤ 191 ∧ goL k t (c * 64 + (b - 128)) = some r := by
  cases s with
  | nil => cases h
  | cons b t =>
    simp only [goL] at h
    split at h
    · rename_i q; exact ⟨b, t, rfl, q.1, q.2, h⟩
    · cases h
/-- A code point that was read is written so. -/
theorem encB_point {b c : Int} {s : List Int} {n : Nat} (h0 : 0 ≤ b) (h : pointM (b :: s) = some (c, n)) : encB c = (b :: s).take n := by
  rw [pointM_cons] at h
  split at h
  · cases h
    rw [encB_1 _ (by omega)]
    rfl
  split at h
  · obtain ⟨h1, rfl, h2, h3⟩ := pick_some h
    obtain ⟨b1, t, rfl, q1, q2, h4⟩ := goL_1 h1
    simp only [goL, Option.some.injEq] at h4
    unfold encB
    rw [if_neg (by omega), if_pos (by omega)]
    simp only [List.take_succ_cons, List.take_zero]
    congr 1
    · omega
    · congr 1; omega
  split at h
  · obtain ⟨h1, rfl, h2, h3⟩ := pick_some h
    obtain ⟨b1, t, rfl, q1, q2, h4⟩ := goL_1 h1
    obtain ⟨b2, t2, rfl, q3, q4, h5⟩ := goL_1 h4
    simp only [goL, Option.some.injEq] at h5
    unfold encB
    rw [if_neg (by omega), if_neg (by omega), if_pos (by omega)]
    simp only [List.take_succ_cons, List.take_zero]
    congr 1
    · omega
    congr 1
    · omega
    congr 1
    omega
  split at h
  · obtain ⟨h1, rfl, h2, h3⟩ := pick_some h
    obtain ⟨b1, t, rfl, q1, q2, h4⟩ := goL_1 h1
    obtain ⟨b2, t2, rfl, q3, q4, h5⟩ := goL_1 h4
    obtain ⟨b3, t3, rfl, q5, q6, h6⟩ := goL_1 h5
    simp only [goL, Option.some.injEq] at h6
    unfold encB
    rw [if_neg (by omega), if_neg (by omega), if_neg (by omega)]
    simp only [List.take_succ_cons, List.take_zero]
    congr 1
    · omega
    congr 1
    · omega
    congr 1
    · omega
    congr 1
    omega
  · cases h
/-- A code point that was written is read so. -/
theorem point_encB (c : Int) (h0 : 0 ≤ c) (h1 : c ≤ 1114111) (s : List Int) : pointM (encB c ++ s) = some (c, (encB c).length) := by
  by_cases q1 : c < 128
  · rw [encB_1 _ q1, List.singleton_append, pointM_cons, if_pos q1]; rfl
  by_cases q2 : c < 2048
  · have e : encB c = [192 + c / 64, 128 + c % 64] := by unfold encB; rw [if_neg q1, if_pos q2]
    rw [e]
    simp only [List.cons_append, List.nil_append, List.length_cons, List.length_nil]
    rw [pointM_cons, if_neg (by omega), if_pos (by omega)]
    simp only [goL]
    rw [if_pos (by omega)]
    simp only [pickP]
    rw [if_neg (by omega)]
    congr 2
    omega
  by_cases q3 : c < 65536
  · have e : encB c = [224 + c / 4096, 128 + c / 64 % 64, 128 + c % 64] := by unfold encB; rw [if_neg q1, if_neg q2, if_pos q3]
    rw [e]
    simp only [List.cons_append, List.nil_append, List.length_cons, List.length_nil]
    rw [pointM_cons, if_neg (by omega), if_neg (by omega), if_pos (by omega)]
    simp only [goL]
    rw [if_pos (by omega), if_pos (by omega)]
    simp only [pickP]
    rw [if_neg (by omega)]
    congr 2
    omega
  · have e : encB c = [240 + c / 262144, 128 + c / 4096 % 64, 128 + c / 64 % 64, 128 + c % 64] := by unfold encB; rw [if_neg q1, if_neg q2, if_neg q3]
    rw [e]
    simp only [List.cons_append, List.nil_append, List.length_cons, List.length_nil]
    rw [pointM_cons, if_neg (by omega), if_neg (by omega), if_neg (by omega), if_pos (by omega)]
    simp only [goL]
    rw [if_pos (by omega), if_pos (by omega), if_pos (by omega)]
    simp only [pickP]
    rw [if_neg (by omega)]
    congr 2
    omega
theorem encB_pos (c : Int) : 1 ≤ (encB c).length := by unfold encB; split; simp; split; simp; split <;> simp
theorem encU_1 {c : Int} (h : c < 65536) : encU c = [c] := by unfold encU; rw [if_pos h]
theorem encU_2 {c : Int} (h : 65536 ≤ c) : encU c = [55296 + (c - 65536) / 1024, 56320 + (c - 65536) % 1024] := by unfold encU; rw [if_neg (by omega)]

/-- Units of a string lead back to its bytes. -/
theorem text_unitsF : ∀ (f : Nat) (s : List Int) (b : Int) (l : List Int), (∀ x ∈ s, 0 ≤ x ∧ x ≤ 255) → unitsF f s b = some l → textM l = s ∧ ∀ d r, l = d :: r → ¬ pairU b d
  | 0, s, b, l, _, h => by simp [unitsF] at h
  | f + 1, s, b, l, hs, h => by
    simp only [unitsF] at h
    split at h
    · rename_i e
      cases h
      exact ⟨by rw [e]; rfl, fun d r e => by cases e⟩
    · rename_i hne
      cases hp : pointM s with
      | none => rw [hp] at h; simp [stepU] at h
      | some cn =>
        obtain ⟨c, n⟩ := cn
        rw [hp] at h
        simp only [stepU] at h
        split at h
        · cases h
        · rename_i hnp
          obtain ⟨l', hl', rfl⟩ := Option.map_eq_some_iff.1 h
          have hb := pointM_len hne hs hp
          have ih := text_unitsF f (s.drop n) c l' (fun x hx => hs x (mem_drop' hx)) hl'
          have he : encB c = s.take n := by
            cases s with
            | nil => exact absurd rfl hne
            | cons b0 s1 => exact encB_point (hs b0 (List.mem_cons_self ..)).1 hp
          rcases Int.lt_or_le c 65536 with hc | hc
          · rw [encU_1 hc, List.singleton_append]
            refine ⟨?_, fun d r e => ?_⟩
            · rw [textM_one c l' ih.2, ih.1, he, List.take_append_drop]
            · cases e; exact hnp
          · rw [encU_2 hc]
            simp only [List.cons_append, List.nil_append]
            refine ⟨?_, fun d r e => ?_⟩
            · rw [textM_pair _ _ _ (by unfold pairU; omega), ih.1]
              have e2 : 65536 + (55296 + (c - 65536) / 1024 - 55296) * 1024 + (56320 + (c - 65536) % 1024) - 56320 = c := by omega
              rw [e2, he, List.take_append_drop]
            · cases e; unfold pairU; omega
/-- Bytes of units lead back to the units. -/
theorem units_textF : ∀ (l : List Int), U16 l → ∀ (f : Nat) (b : Int), (∀ d r, l = d :: r → ¬ pairU b d) → (textM l).length < f → unitsF f (textM l) b = some l
  | [], _, f, b, _, hf => by
    obtain ⟨f, rfl⟩ : ∃ k, f = k + 1 := ⟨f - 1, by simp [textM] at hf; omega⟩
    simp [unitsF, textM]
  | [c], hu, f, b, hb, hf => by
    have hc := hu c (List.mem_cons_self ..)
    have e : textM [c] = encB c ++ [] := by simp [textM]
    rw [e] at hf ⊢
    rw [List.length_append] at hf
    have hp := encB_pos c
    obtain ⟨f, rfl⟩ : ∃ k, f = k + 1 := ⟨f - 1, by omega⟩
    obtain ⟨f, rfl⟩ : ∃ k, f = k + 1 := ⟨f - 1, by simp at hf; omega⟩
    unfold unitsF
    rw [if_neg (by intro e; have := congrArg List.length e; simp at this; rw [this] at hp; simp at hp), point_encB c hc.1 (by omega)]
    simp only [stepU]
    have hn := hb c [] rfl
    unfold pairU at hn
    rw [if_neg hn, List.drop_left]
    simp [unitsF, encU_1 (show c < 65536 by omega)]
  | c :: d :: r, hu, f, b, hb, hf => by
    have hc := hu c (List.mem_cons_self ..)
    have hd := hu d (List.mem_cons_of_mem _ (List.mem_cons_self ..))
    by_cases q : pairU c d
    · rw [textM_pair c d r q] at hf ⊢
      obtain ⟨C, hC⟩ : ∃ C, 65536 + (c - 55296) * 1024 + d - 56320 = C := ⟨_, rfl⟩
      rw [hC] at hf ⊢
      have q' := q
      unfold pairU at q'
      rw [List.length_append] at hf
      have hp := encB_pos C
      obtain ⟨f, rfl⟩ : ∃ k, f = k + 1 := ⟨f - 1, by omega⟩
      unfold unitsF
      rw [if_neg (by intro e; have := congrArg List.length e; simp at this; rw [this.1] at hp; simp at hp), point_encB C (by omega) (by omega)]
      simp only [stepU]
      rw [if_neg (by omega), List.drop_left, units_textF r (fun x hx => hu x (List.mem_cons_of_mem _ (List.mem_cons_of_mem _ hx))) f C (fun d' r' _ => by unfold pairU; omega) (by omega)]
      simp only [Option.map_some, Option.some.injEq]
      rw [encU_2 (by omega)]
      simp only [List.cons_append, List.nil_append]
      congr 1
      · omega
      congr 1
      omega
    · rw [textM_one c (d :: r) (fun d' r' e => by cases e; exact q)] at hf ⊢
      rw [List.length_append] at hf
      have hp := encB_pos c
      obtain ⟨f, rfl⟩ : ∃ k, f = k + 1 := ⟨f - 1, by omega⟩
      unfold unitsF
      rw [if_neg (by intro e; have := congrArg List.length e; simp at this; rw [this.1] at hp; simp at hp), point_encB c hc.1 (by omega)]
      simp only [stepU]
      have hn := hb c _ rfl
      unfold pairU at hn
      rw [if_neg hn, List.drop_left, units_textF (d :: r) (fun x hx => hu x (List.mem_cons_of_mem _ hx)) f c (fun d' r' e => by cases e; exact q) (by omega)]
      simp only [Option.map_some, Option.some.injEq]
      rw [encU_1 (show c < 65536 by omega)]
      rfl
theorem units_text (l : List Int) (h : U16 l) : unitsM (textM l) = some l := units_textF l h _ 0 (fun d r _ => by unfold pairU; omega) (by omega)
theorem text_units {s l : List Int} (hs : ∀ x ∈ s, 0 ≤ x ∧ x ≤ 255) (h : unitsM s = some l) : textM l = s := (text_unitsF _ _ _ _ hs h).1

theorem encB_bytes {c : Int} (h0 : 0 ≤ c) (h1 : c ≤ 1114111) : ∀ x ∈ encB c, 0 ≤ x ∧ x ≤ 255 := by
  intro x hx
  unfold encB at hx
  split at hx
  · simp at hx; omega
  split at hx
  · simp at hx; omega
  split at hx
  · simp at hx; omega
  · simp at hx; omega
theorem textM_bytes : ∀ (l : List Int), U16 l → ∀ x ∈ textM l, 0 ≤ x ∧ x ≤ 255
  | [], _ => by simp [textM]
  | [c], hu => by
    have hc := hu c (List.mem_cons_self ..)
    exact encB_bytes hc.1 (by omega)
  | c :: d :: r, hu => by
    have hc := hu c (List.mem_cons_self ..)
    have hd := hu d (List.mem_cons_of_mem _ (List.mem_cons_self ..))
    by_cases q : pairU c d
    · rw [textM_pair c d r q]
      intro x hx
      unfold pairU at q
      rcases List.mem_append.1 hx with h | h
      · exact encB_bytes (by omega) (by omega) x h
      · exact textM_bytes r (fun x hx => hu x (List.mem_cons_of_mem _ (List.mem_cons_of_mem _ hx))) x h
    · rw [textM_one c (d :: r) (fun d' r' e => by cases e; exact q)]
      intro x hx
      rcases List.mem_append.1 hx with h | h
      · exact encB_bytes hc.1 (by omega) x h
      · exact textM_bytes (d :: r) (fun x hx => hu x (List.mem_cons_of_mem _ hx)) x h

theorem getU_iff {s : ByteArray} {r : List Int} : getU s = some r ↔ unitsM (bts s) = some r ∧ r.length ≤ 4096 := by
  unfold getU readM
  cases h : unitsM (bts s) with
  | none => simp
  | some l =>
    simp only [Option.some.injEq]
    by_cases q : l.length ≤ 4096
    · simp only [q, decide_true, Option.some.injEq]
      exact ⟨fun e => ⟨e, by rw [← e]; exact q⟩, fun e => e.1⟩
    · simp only [q, decide_false, reduceCtorEq, false_iff, not_and]
      rintro rfl
      exact q
theorem text_getU {s : ByteArray} {r : List Int} (h : getU s = some r) : mkB (textM r) = s := by
  rw [text_units (bts_range s) (getU_iff.1 h).1, mkB_bts]
theorem getU_inj {a b : ByteArray} {r : List Int} (h1 : getU a = some r) (h2 : getU b = some r) : a = b := by rw [← text_getU h1, text_getU h2]
theorem getU_text {r : List Int} (h : U16 r) (hl : r.length ≤ 4096) : getU (mkB (textM r)) = some r := by
  rw [getU_iff, bts_mkB _ (textM_bytes r h), units_text r h]
  exact ⟨rfl, hl⟩
/-- Lists one behind the other. -/
theorem textM_append : ∀ (l m : List Int), (∀ c d, l.getLast? = some c → m.head? = some d → ¬ pairU c d) → textM (l ++ m) = textM l ++ textM m
  | [], m, _ => rfl
  | [c], m, h => by
    rw [List.singleton_append, textM_one c m (fun d r e => h c d rfl (by rw [e]; rfl))]
    rfl
  | c :: d :: r, m, h => by
    have h' : ∀ x y, (d :: r).getLast? = some x → m.head? = some y → ¬ pairU x y := fun x y hx hy => h x y (by rw [List.getLast?_cons_cons]; exact hx) hy
    by_cases q : pairU c d
    · simp only [List.cons_append]
      rw [textM_pair c d _ q, textM_pair c d _ q, textM_append r m (fun x y hx hy => ?_), List.append_assoc]
      refine h' x y ?_ hy
      cases r with
      | nil => cases hx
      | cons e r => rw [List.getLast?_cons_cons]; exact hx
    · simp only [List.cons_append]
      rw [textM_one c (d :: (r ++ m)) (fun d' r' e => by cases e; exact q), textM_one c (d :: r) (fun d' r' e => by cases e; exact q), List.append_assoc]
      have := textM_append (d :: r) m h'
      rw [List.cons_append] at this
      rw [this]
end Go.Proofs.YtmbdiimenmnfjaaDoor
