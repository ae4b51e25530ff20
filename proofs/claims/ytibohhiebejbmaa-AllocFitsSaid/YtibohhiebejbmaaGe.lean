/- Walks: choose. -/
import Derived.Test.YtibohhiebejbmaaGd
import Derived.Deep.RegionWith
import Derived.BigRegion
import Derived.Test.YtibohhiebejbmaaGc
import Derived.StillTail
import Derived.StillTactics
namespace Go.Proofs.Ytibohhiebejbmaa
open Go.RowKit Go.Deep Go.Shelf
set_option linter.unusedVariables false
set_option linter.unusedSimpArgs false
set_option maxRecDepth 100000

theorem zone_at {n zn : Nat} (h : 3 + n / 8 = zn) (hn : n ≤ 1000000) (w : World) : Calls Try.prog 61 #[.int .i64 n] w fun x w' => x = .returned (.int .i64 (zn : Int)) ∧ w' = w := by
  rw [← h]
  exact zone_any n hn w
theorem ent70 : ∀ (args : Array Value) (w : World), (callFunc 70 args).run Try.prog w = .ok (.enter 70 args) w := enters_of Try.func70 (by kernel_rfl) rfl
theorem ent72 : ∀ (args : Array Value) (w : World), (callFunc 72 args).run Try.prog w = .ok (.enter 72 args) w := enters_of Try.func72 (by kernel_rfl) rfl
theorem ent73 : ∀ (args : Array Value) (w : World), (callFunc 73 args).run Try.prog w = .ok (.enter 73 args) w := enters_of Try.func73 (by kernel_rfl) rfl

set_option maxHeartbeats 8000000 in
theorem choose_ok (R U n G m : Nat) (tx : Value) (us : List Bool) (near : Int) (inside : Bool) (w : World) (h : Rm w R U n G tx us) (hL : Lead us n) (hn : n ≤ 1536) (hU : U < w.heap.size) (hm1 : 1 ≤ m) (hmf : m ≤ freeM us) (hn1 : -1 ≤ near) (hn2 : near < n) :
    Calls Try.prog 44 #[.pointer (some ⟨R, 0, none⟩), .int .i64 m, .int .i64 near, .bool inside] w fun e w' => ∃ us' l v, chooseM us n m near inside = (us', l) ∧ e = .returned v ∧ w'.ownsRow w.heap.size 56 2 v l.length (rngV l) ∧ Rm w' R U n G tx us' ∧ w.grownBy w' (some U) := by
  obtain ⟨W0, hW0⟩ : ∃ W0, (w.alloc (.cells #[.pointer (some ⟨R, 0, none⟩)] 76)).alloc (.cells #[.int .i64 m] 3) = W0 := ⟨_, rfl⟩
  obtain ⟨B, hB⟩ : ∃ B, w.heap.size = B := ⟨_, rfl⟩
  have HB := Lib.hid hB
  have hmn : m ≤ n := by have := freeM_le us; have := hL.len; omega
  have q1 : Blk W0 B [.pointer (some ⟨R, 0, none⟩)] 76 := by rw [← hW0, ← hB]; exact (Blk.new w [_] _).alloc _
  have q2 : Blk W0 (B + 1) [.int .i64 m] 3 := by
    have h := Blk.new (w.alloc (.cells #[.pointer (some ⟨R, 0, none⟩)] 76)) [.int .i64 m] 3
    rw [World.size_alloc, hB] at h
    rw [← hW0]; exact h
  have q3 : Below w.heap.size w W0 := by rw [← hW0]; exact below_al (one_alloc _ _) _
  have q4 := h.on q3
  have hs0 : W0.heap.size = B + 2 := by rw [← hW0, ← hB]; simp
  have c0 := q1.cell (j := 0) rfl
  have c1 := q2.cell (j := 0) rfl
  have c2 := q4.obj.cell (j := 2) rfl
  have HQ1 := Lib.hid q1
  have HQ2 := Lib.hid q2
  have HQ3 := Lib.hid q3
  have HQ4 := Lib.hid q4
  have HL := Lib.hid hL
  have HS0 := Lib.hid hs0
  have hmi : (1 : Int) ≤ (m : Int) := by omega
  have hmfi : (m : Int) ≤ (freeM us : Int) := by omega
  have hmf0 : decide ((m : Int) ≤ (freeM us : Int)) = true := by simpa using hmf
  rw [hB] at hU
  clear h hL q1 q2 q3 q4 hs0
  go_enter Try.func44, Try.ntmps44
  go_upto_region 3 with (go_at_call 57; refine (need_ok 1 _).mono ?_; rintro e w1 ⟨rfl, hw9⟩; (have hw8 := hw9.symm); subst hw8; clear hw9)
  clear hB hW0 c0 c1 c2
  have c0 := HQ1.out.cell (j := 0) rfl
  have c1 := HQ2.out.cell (j := 0) rfl
  have hdec : decide ((m : Int) ≤ (freeM us : Int)) = true := by simpa using hmf
  go_quiet ((first
    | (go_at_call 54; exact Calls.quiet_of_same (free_any R U n G tx us _ ⟨HQ4.out.obj.drew, HQ4.out.row.drew, HQ4.out.len⟩ (by omega)))
    | (go_at_call 57; exact Calls.quiet_of_same (need_ok 5 _))))
  have hs1 : (W0.drewN nq).heap.size = B + 2 := HS0.out
  obtain ⟨W1, hW1⟩ : ∃ W1, W0.drewN nq = W1 := ⟨_, rfl⟩
  have r1 : Blk W1 B [.pointer (some ⟨R, 0, none⟩)] 76 := by rw [← hW1]; exact HQ1.out.draw _
  have r2 : Blk W1 (B + 1) [.int .i64 m] 3 := by rw [← hW1]; exact HQ2.out.draw _
  have r3 : Below w.heap.size w W1 := by rw [← hW1]; exact below_drewN HQ3.out _
  have r4 : Rm W1 R U n G tx us := by rw [← hW1]; exact ⟨HQ4.out.obj.draw _, HQ4.out.row.draw _, HQ4.out.len⟩
  rw [hW1] at hs1 ⊢
  clear hW1 HQ1 HQ2 HQ3 HQ4 HS0 c0 c1 hdec hmf0 hmfi hmi
  obtain ⟨W2, hW2⟩ : ∃ W2, W1.alloc (.cells #[.slice none 0 0] 32) = W2 := ⟨_, rfl⟩
  have HC2 : Hid (CI w B R U n G tx m us [] W2) := Lib.hid (by
    rw [← hW2]
    have hb := one_alloc W1 (.cells #[.slice none 0 0] 32)
    refine ⟨r1.on hb, r2.on hb, ⟨.slice none 0 0, ?_, World.ownsRow_nil _ _ _ _⟩, r4.on hb, grown_then (grown_of_below r3 _) (grown_of_below hb _), by rw [World.size_alloc, hs1]; omega⟩
    have h := Blk.new W1 [.slice none 0 0] 32
    rw [hs1] at h
    exact h)
  clear r1 r2 r3 r4
  have hgo : ∀ (bb : Bool), (decide (3 ≤ near) && !us.getD near.toNat false) = bb → True := fun _ _ => trivial
  obtain ⟨bb, hbb⟩ : ∃ bb, (decide (3 ≤ near) && !us.getD near.toNat false) = bb := ⟨_, rfl⟩
  have HBB := Lib.hid hbb
  clear hbb hgo
  go_upto_region 6 with (fail)
  clear hs1
  try rw [hW2]
  clear hW2
  go_cut [53] (fun v W => v = .bool bb ∧ W = W2)
  case first =>
    have c0 := HC2.out.r.cell (j := 0) rfl
    have c1 := HC2.out.rm.obj.cell (j := 2) rfl
    by_cases h3 : 3 ≤ near
    · obtain ⟨p, rfl⟩ : ∃ p : Nat, near = p := ⟨near.toNat, by omega⟩
      have hp : p < n := by omega
      have c2 := HC2.out.rm.row.cell (j := p) (boolsV_get (by rw [HL.out.len]; exact hp))
      have hbb2 : (!us.getD p false) = bb := by have h9 := HBB.out; simpa [h3] using h9
      obtain ⟨y, hy⟩ : ∃ y, us.getD p false = y := ⟨_, rfl⟩
      rw [hy] at c2 hbb2
      clear hy
      go_wp2
      go_meet
      case rel => exact ⟨by rw [← hbb2], rfl⟩
    · have hbb2 : bb = false := by have h9 := HBB.out; simpa [h3] using h9.symm
      go_wp2
      go_meet
      case rel => exact ⟨by rw [hbb2], rfl⟩
  case rest =>
    obtain ⟨rfl, rfl⟩ := hcut
    go_upto_if 53 with (fail)
    go_cut [12] (fun v W => ∃ k us' l, Hid (CI w B R U n G tx k us' l W) ∧ Hid (Lead us' n) ∧ l.length + k ≤ m ∧ k ≤ freeM us' ∧ Hid (chooseM us n m near inside = chLoop n inside m us' k l))
    case first =>
      cases hbb : bb with
      | false =>
        have HM : Hid (chooseM us n m near inside = chLoop n inside m us m []) := Lib.hid (by
          unfold chooseM
          rw [if_neg]
          rintro ⟨h1, h2⟩
          have h9 := HBB.out
          rw [hbb, h2] at h9
          simp [h1] at h9)
        go_wp2
        go_meet
        case rel => exact ⟨m, us, [], HC2, HL, by simp, hmf, HM⟩
      | true =>
        have h3 : 3 ≤ near ∧ us.getD near.toNat false = false := by
          have h9 := HBB.out
          rw [hbb] at h9
          simpa using h9
        obtain ⟨p, rfl⟩ : ∃ p : Nat, near = p := ⟨near.toNat, by omega⟩
        have hp : p < n := by omega
        have hfree : us.getD p false = false := h3.2
        have hin := near_in hp hfree
        obtain ⟨⟨x1, x2⟩, hx⟩ : ∃ x, nearM us n p = x := ⟨_, rfl⟩
        obtain ⟨mn, hmn2⟩ : ∃ mn, min x2 m = mn := ⟨_, rfl⟩
        have HM : Hid (chooseM us n m (p : Int) inside = chLoop n inside m (setR us x1 mn true) (m - mn) [(x1, mn)]) := Lib.hid (by
          unfold chooseM
          rw [if_pos ⟨h3.1, hfree⟩, show ((p : Nat) : Int).toNat = p from rfl, hx]
          simp only [hmn2])
        rw [hx] at hin
        simp only at hin
        have HF := Lib.hid (freeM_setR us x1 mn (by have := HL.out.len; omega) (fun i h4 h5 => hin.2.2.2 i h4 (by omega)))
        have hx2 : 1 ≤ x2 := hin.2.1
        have hmn1 : 1 ≤ mn := by omega
        have hxn : x1 + mn ≤ n := by have := hin.2.2.1; omega
        have HX := Lib.hid hx
        have HMN := Lib.hid hmn2
        have c0 := HC2.out.r.cell (j := 0) rfl
        clear hin hx hbb h3 hfree hmn2
        go_wp2_with (first
          | (go_at_call 59; refine (runs59_any R p n false _).mono ?_; rintro e w3 ⟨rfl, hw3⟩; (have HRI := Lib.hid (show RunsIn w3 (wc.heap.size + 1) (wc.heap.size + 2) wc.heap.size (wc.heap.size + 3) R U n G p n tx us false by rw [hw3]; exact runs59_in HC2.out.rm)); (have HC3 := Lib.hid (HC2.out.on (show Below wc.heap.size wc w3 by rw [hw3]; exact below_al (below_al (below_al (one_alloc _ _) _) _) _))); clear hw3)
          | (go_at_call 71; refine (best_any 72 #[] ent72 (fun _ _ => false) _ _ _ _ R U n G p n tx us false (Nat.le_refl _) (by omega) _ HRI.out (fun x y W _ => first_any x y W)).mono ?_; rintro e w4 ⟨y1, y2, is, hs, rfl, hB⟩; (have hxy : (y1, y2) = (x1, x2) := (show (y1, y2) = nearM us n p by unfold nearM frees; rw [hs]).trans HX.out); (have hy1 : y1 = x1 := congrArg Prod.fst hxy); (have hy2 : y2 = x2 := congrArg Prod.snd hxy); rw [hy1, hy2]; clear hxy hy1 hy2; (have HC4 := Lib.hid (HC3.out.on hB)); (have HC5 := Lib.hid (HC4.out.on (one_alloc w4 (.cells #[.int .i64 x1, .int .i64 x2] 56)))); clear hs hB)
          | (go_at_call 70; refine (take_any w B R U n G m tx us [] x1 x2 mn HB.out hU HMN.out hxn (by omega) (by simp) (by omega) _ HC5.out).mono ?_; rintro e w5 ⟨rfl, hC⟩; (have HC6 := Lib.hid hC); clear hC))
        go_meet
        case rel => exact ⟨m - mn, setR us x1 mn true, [(x1, mn)], HC6, Lib.hid HL.out.set, by simp; omega, by have := HF.out; omega, HM⟩
    case rest =>
      clear HC2 HL hmf
      obtain ⟨k0, us0, l0, HC0, HL0, hlen0, hkf0, HM0⟩ := hcut
      go_wp2
      go_loopg [14] (m + 1) (fun kq v W => ∃ k us' l f, k < kq ∧ Hid (CI w B R U n G tx k us' l W) ∧ Hid (Lead us' n) ∧ l.length + k ≤ m ∧ k ≤ freeM us' ∧ k ≤ f ∧ Hid (chooseM us n m near inside = chLoop n inside f us' k l))
      case atStart => exact ⟨k0, us0, l0, m, by omega, HC0, HL0, hlen0, hkf0, by omega, HM0⟩
      case round =>
        clear HC0 HL0 hlen0 hkf0 HM0
        obtain ⟨k, us', l, f, hkq, HC, HL, hlen, hkf, hf, HM⟩ := hrel
        have c0 := HC.out.r.cell (j := 0) rfl
        have c1 := HC.out.mb.cell (j := 0) rfl
        by_cases hk : k = 0
        · subst hk
          obtain ⟨v, hv1, hv2⟩ := HC.out.ob
          obtain ⟨Av, cv, rfl, hcv⟩ := own_is_slice hv2
          have c2 := hv1.cell (j := 0) rfl
          have HV := Lib.hid hv2
          clear hv1 hv2
          go_wp2
          go_ret
          rw [HB.out]
          exact ⟨us', l, _, by rw [HM.out, chLoop_done], rfl, HV.out, HC.out.rm, HC.out.gr⟩
        · have hk1 : 1 ≤ k := by omega
          have hki : (0 : Int) < (k : Int) := by omega
          go_upto_region 10 with (fail)
          clear c0 c1
          have HCd := Lib.hid (HC.out.on (below_drew1 (Below.refl wr.heap.size wr)))
          have c0 := HCd.out.r.cell (j := 0) rfl
          obtain ⟨zn, hzn⟩ : ∃ zn, 3 + n / 8 = zn := ⟨_, rfl⟩
          have hzn2 : zn ≤ n := by have := HL.out.lo; omega
          have HZN := Lib.hid hzn
          have hmin : ¬ n < zn := by omega
          clear hzn
          go_cut [14] (fun v W => ∃ gf gt gr gu, v = .func (.func 79) #[] #[.pointer (some ⟨gf, 0, none⟩), .pointer (some ⟨gt, 0, none⟩), .pointer (some ⟨gr, 0, none⟩), .pointer (some ⟨gu, 0, none⟩)] ∧ Hid (RunsIn W gf gt gr gu R U n G 3 zn tx us' false) ∧ Hid (CI w B R U n G tx k us' l W))
          case first =>
            go_region_with (first
              | (go_at_call 61; refine (zone_at HZN.out (by omega) _).mono ?_; rintro e w1 ⟨rfl, hw9⟩; (have hw8 := hw9.symm); subst hw8; clear hw9)
              | (go_at_call 59; refine (runs59_any R 3 zn false _).mono ?_; rintro e w3 ⟨rfl, hw3⟩; (have HRI := Lib.hid (show RunsIn w3 (wr.drew.heap.size + 1) (wr.drew.heap.size + 2) wr.drew.heap.size (wr.drew.heap.size + 3) R U n G 3 zn tx us' false by rw [hw3]; exact runs59_in HCd.out.rm)); (have HC3 := Lib.hid (HCd.out.on (show Below wr.drew.heap.size wr.drew w3 by rw [hw3]; exact below_al (below_al (below_al (one_alloc _ _) _) _) _))); clear hw3))
            all_goals go_wp2
            all_goals go_meet
            all_goals exact ⟨_, _, _, _, rfl, HRI, HC3⟩
          case rest =>
            clear HC HCd c0
            obtain ⟨lf, lt, lr, lu, rfl, HLI, HC⟩ := hcut
            have HCd := Lib.hid (HC.out.on (below_drew1 (Below.refl wc.heap.size wc)))
            have HLd := Lib.hid (HLI.out.on (below_drew1 (Below.refl wc.heap.size wc)))
            have c0 := HCd.out.r.cell (j := 0) rfl
            go_upto_region 11 with (fail)
            go_cut [15] (fun v W => ∃ gf gt gr gu, v = .func (.func 79) #[] #[.pointer (some ⟨gf, 0, none⟩), .pointer (some ⟨gt, 0, none⟩), .pointer (some ⟨gr, 0, none⟩), .pointer (some ⟨gu, 0, none⟩)] ∧ Hid (RunsIn W gf gt gr gu R U n G zn n tx us' false) ∧ Hid (CI w B R U n G tx k us' l W) ∧ Hid (RunsIn W lf lt lr lu R U n G 3 zn tx us' false))
            case first =>
              go_region_with (first
                | (go_at_call 61; refine (zone_at HZN.out (by omega) _).mono ?_; rintro e w1 ⟨rfl, hw9⟩; (have hw8 := hw9.symm); subst hw8; clear hw9)
                | (go_at_call 59; refine (runs59_any R zn n false _).mono ?_; rintro e w3 ⟨rfl, hw3⟩; (have HRI := Lib.hid (show RunsIn w3 (wc.drew.heap.size + 1) (wc.drew.heap.size + 2) wc.drew.heap.size (wc.drew.heap.size + 3) R U n G zn n tx us' false by rw [hw3]; exact runs59_in HCd.out.rm)); (have HC3 := Lib.hid (HCd.out.on (show Below wc.drew.heap.size wc.drew w3 by rw [hw3]; exact below_al (below_al (below_al (one_alloc _ _) _) _) _))); (have HL3 := Lib.hid (HLd.out.on (show Below wc.drew.heap.size wc.drew w3 by rw [hw3]; exact below_al (below_al (below_al (one_alloc _ _) _) _) _))); clear hw3))
              all_goals go_wp2
              all_goals go_meet
              all_goals exact ⟨_, _, _, _, rfl, HRI, HC3, HL3⟩
            case rest =>
              clear HC HCd HLd HLI c0
              obtain ⟨rf, rt, rr, ru, rfl, HRI, HC, HLI⟩ := hcut
              go_upto_if 79 with (fail)
              go_cut [14, 15] (fun v1 v2 W => ∃ af at_ ar au bf bt_ br bu la lz ra rz, v1 = .func (.func 79) #[] #[.pointer (some ⟨af, 0, none⟩), .pointer (some ⟨at_, 0, none⟩), .pointer (some ⟨ar, 0, none⟩), .pointer (some ⟨au, 0, none⟩)] ∧ v2 = .func (.func 79) #[] #[.pointer (some ⟨bf, 0, none⟩), .pointer (some ⟨bt_, 0, none⟩), .pointer (some ⟨br, 0, none⟩), .pointer (some ⟨bu, 0, none⟩)] ∧ lz ≤ n ∧ rz ≤ n ∧ Hid (RunsIn W af at_ ar au R U n G la lz tx us' false) ∧ Hid (RunsIn W bf bt_ br bu R U n G ra rz tx us' false) ∧ Hid (CI w B R U n G tx k us' l W) ∧
                Hid (pickM us' n k inside = if (bestS (btM k) (RR (eqB us' false) la lz)).2 then (bestS (btM k) (RR (eqB us' false) la lz)).1 else (bestS (btM k) (RR (eqB us' false) ra rz)).1))
              case first =>
                cases inside with
                | true =>
                  have HP : Hid (pickM us' n k true = if (bestS (btM k) (RR (eqB us' false) 3 zn)).2 then (bestS (btM k) (RR (eqB us' false) 3 zn)).1 else (bestS (btM k) (RR (eqB us' false) zn n)).1) := Lib.hid (by rw [← HZN.out]; rfl)
                  go_wp2
                  go_meet
                  case rel => exact ⟨lf, lt, lr, lu, rf, rt, rr, ru, 3, zn, zn, n, rfl, rfl, hzn2, Nat.le_refl _, HLI, HRI, HC, HP⟩
                | false =>
                  have HP : Hid (pickM us' n k false = if (bestS (btM k) (RR (eqB us' false) zn n)).2 then (bestS (btM k) (RR (eqB us' false) zn n)).1 else (bestS (btM k) (RR (eqB us' false) 3 zn)).1) := Lib.hid (by rw [← HZN.out]; rfl)
                  go_wp2
                  go_meet
                  case rel => exact ⟨rf, rt, rr, ru, lf, lt, lr, lu, zn, n, 3, zn, rfl, rfl, Nat.le_refl _, hzn2, HRI, HLI, HC, HP⟩
              case rest =>
                clear HC HLI HRI
                obtain ⟨af, at_, ar, au, bf, bt_, br, bu, la, lz, ra, rz, rfl, rfl, hlz, hrz, HLI, HRI, HC, HP⟩ := hcut
                obtain ⟨⟨x1, x2⟩, hx⟩ : ∃ x, pickM us' n k inside = x := ⟨_, rfl⟩
                have hin := pick_in (inside := inside) (k := k) HL.out (by omega)
                obtain ⟨mn, hmn2⟩ : ∃ mn, min x2 k = mn := ⟨_, rfl⟩
                rw [hx] at hin
                simp only at hin
                have HF := Lib.hid (freeM_setR us' x1 mn (by have := HL.out.len; omega) (fun i h4 h5 => hin.2.2.2 i h4 (by omega)))
                have hmn1 : 1 ≤ mn := by have := hin.2.1; omega
                have hmnk : mn ≤ k := by omega
                have hxn : x1 + mn ≤ n := by have := hin.2.2.1; omega
                obtain ⟨g, rfl⟩ : ∃ g, f = g + 1 := ⟨f - 1, by omega⟩
                have HM2 : Hid (chooseM us n m near inside = chLoop n inside g (setR us' x1 mn true) (k - mn) (l ++ [(x1, mn)])) := Lib.hid (by
                  have h9 := HM.out
                  rw [chLoop_step hk, hx] at h9
                  simp only [hmn2] at h9
                  exact h9)
                have HMN := Lib.hid hmn2
                have HPX := Lib.hid (HP.out.symm.trans hx)
                clear hin hx hmn2 HM HP
                go_upto_if 90 with (go_at_call 71; refine (best_any 73 #[.pointer (some ⟨B + 1, 0, none⟩)] ent73 (btM k) _ _ _ _ R U n G la lz tx us' false hlz (by omega) _ HLI.out (fun x y W hb => better_any (B + 1) k x y W (HC.out.mb.on hb))).mono ?_; rintro e w4 ⟨y1, y2, is, hs, rfl, hB⟩; (have HS := Lib.hid hs); (have HC4 := Lib.hid (HC.out.on hB)); (have HRI4 := Lib.hid (HRI.out.on hB)); clear hs hB)
                have hb5 := one_alloc w4 (.cells #[.int .i64 y1, .int .i64 y2] 56)
                have HC5 := Lib.hid (HC4.out.on hb5)
                have HRI5 := Lib.hid (HRI4.out.on hb5)
                have hp5 := Blk.new w4 [.int .i64 y1, .int .i64 y2] 56
                obtain ⟨P, hP⟩ : ∃ P, w4.heap.size = P := ⟨_, rfl⟩
                obtain ⟨W5, hW5⟩ : ∃ W5, w4.alloc (.cells #[.int .i64 y1, .int .i64 y2] 56) = W5 := ⟨_, rfl⟩
                have HP5 : Hid (Blk W5 P [.int .i64 y1, .int .i64 y2] 56) := Lib.hid (by rw [← hW5, ← hP]; exact hp5)
                rw [hW5] at HC5 HRI5
                have HB45 : Hid (Below w4.heap.size w4 W5) := Lib.hid (by rw [← hW5]; exact hb5)
                have HPe := Lib.hid hP
                rw [hP, hW5]
                clear hb5 hp5 HC HRI HRI4 HLI hP hW5
                go_cut [18] (fun v W => Hid (Blk W P [.int .i64 x1, .int .i64 x2] 56) ∧ Hid (CI w B R U n G tx k us' l W))
                case first =>
                  cases is with
                  | true =>
                    have hxy : (y1, y2) = (x1, x2) := by have h9 := HPX.out; rw [HS.out] at h9; simpa using h9
                    have hy1 : y1 = x1 := congrArg Prod.fst hxy
                    have hy2 : y2 = x2 := congrArg Prod.snd hxy
                    have HP6 : Hid (Blk W5 P [.int .i64 x1, .int .i64 x2] 56) := Lib.hid (by rw [← hy1, ← hy2]; exact HP5.out)
                    clear hxy hy1 hy2
                    go_wp2
                    go_meet
                    case rel => exact ⟨HP6, HC5⟩
                  | false =>
                    have HPY : Hid ((bestS (btM k) (RR (eqB us' false) ra rz)).1 = (x1, x2)) := Lib.hid (by have h9 := HPX.out; rw [HS.out] at h9; simpa using h9)
                    go_wp2_with (go_at_call 71; refine (best_any 73 #[.pointer (some ⟨B + 1, 0, none⟩)] ent73 (btM k) _ _ _ _ R U n G ra rz tx us' false hrz (by omega) _ HRI5.out (fun x y W hb => better_any (B + 1) k x y W (HC5.out.mb.on hb))).mono ?_; rintro e w6 ⟨z1, z2, is2, hs2, rfl, hB⟩; (have hxy : (z1, z2) = (x1, x2) := by { have h9 := HPY.out; rw [hs2] at h9; exact h9 }); (have hy1 : z1 = x1 := congrArg Prod.fst hxy); (have hy2 : z2 = x2 := congrArg Prod.snd hxy); rw [hy1, hy2]; clear hxy hy1 hy2; (have HP6 := Lib.hid (HP5.out.on hB)); (have zf := HP6.out.fz); (have zc0 := HP6.out.cell (j := 0) rfl); (have zc1 := HP6.out.cell (j := 1) rfl); (have HB6 := Lib.hid (below_then HB45.out HB45.out.size hB)); clear hs2 hB)
                    obtain ⟨W7, hW7⟩ : ∃ W7, (w6.setCell ⟨P, 0, none⟩ (.int .i64 x1)).setCell ⟨P, 1, none⟩ (.int .i64 x2) = W7 := ⟨_, rfl⟩
                    have HP7 : Hid (Blk W7 P [.int .i64 x1, .int .i64 x2] 56) := Lib.hid (by rw [← hW7]; exact HP6.out.two)
                    have HC7 : Hid (CI w B R U n G tx k us' l W7) := Lib.hid (HC4.out.on (by rw [← hW7]; exact below_st (below_st HB6.out (by rw [HPe.out]; exact Nat.le_refl _)) (by rw [HPe.out]; exact Nat.le_refl _)))
                    rw [hW7]
                    go_meet
                    case rel => exact ⟨HP7, HC7⟩
                case rest =>
                  clear HC5 HC4 HP5 HB45 HRI5
                  obtain ⟨HPW, HC⟩ := hcut
                  have c0 := HPW.out.cell (j := 0) rfl
                  have c1 := HPW.out.cell (j := 1) rfl
                  go_wp2_with (go_at_call 70; refine (take_any w B R U n G k tx us' l x1 x2 mn HB.out hU HMN.out hxn (by omega) (by omega) (by omega) _ HC.out).mono ?_; rintro e w5 ⟨rfl, hC⟩; (have HC6 := Lib.hid hC); clear hC)
                  go_roundg k
                  case measure => omega
                  case rel => exact ⟨k - mn, setR us' x1 mn true, l ++ [(x1, mn)], g, by omega, HC6, Lib.hid HL.out.set, by simp; omega, by have := HF.out; omega, by omega, HM2⟩
end Go.Proofs.Ytibohhiebejbmaa
/- Walks: choose, where it gives up. -/
namespace Go.Proofs.Ytibohhiebejbmaa
open Go.RowKit Go.Deep Go.Shelf
set_option linter.unusedVariables false
set_option linter.unusedSimpArgs false
set_option maxRecDepth 100000

theorem need_is (b : Bool) (hb : b = false) (e : Int) (w : World) : Calls Try.prog 57 #[.bool b, .int .i64 e] w fun x w' => x = gaveUp e ∧ w' = w := by
  subst hb
  exact need_no e w
set_option maxHeartbeats 4000000 in
theorem choose_arg (R U n G : Nat) (tx : Value) (us : List Bool) (m near : Int) (inside : Bool) (w : World) (h : Rm w R U n G tx us) (hbad : ¬ (1 ≤ m ∧ -1 ≤ near ∧ near < n)) :
    Calls Try.prog 44 #[.pointer (some ⟨R, 0, none⟩), .int .i64 m, .int .i64 near, .bool inside] w fun e w' => e = gaveUp 1 ∧ Below w.heap.size w w' := by
  obtain ⟨W0, hW0⟩ : ∃ W0, (w.alloc (.cells #[.pointer (some ⟨R, 0, none⟩)] 76)).alloc (.cells #[.int .i64 m] 3) = W0 := ⟨_, rfl⟩
  obtain ⟨B, hB⟩ : ∃ B, w.heap.size = B := ⟨_, rfl⟩
  have q1 : Blk W0 B [.pointer (some ⟨R, 0, none⟩)] 76 := by rw [← hW0, ← hB]; exact (Blk.new w [_] _).alloc _
  have q2 : Blk W0 (B + 1) [.int .i64 m] 3 := by
    have h := Blk.new (w.alloc (.cells #[.pointer (some ⟨R, 0, none⟩)] 76)) [.int .i64 m] 3
    rw [World.size_alloc, hB] at h
    rw [← hW0]; exact h
  have q3 : Below w.heap.size w W0 := by rw [← hW0]; exact below_al (one_alloc _ _) _
  have q4 := h.on q3
  have c0 := q1.cell (j := 0) rfl
  have c1 := q2.cell (j := 0) rfl
  have c2 := q4.obj.cell (j := 2) rfl
  have HQ3 := Lib.hid q3
  have HBAD := Lib.hid hbad
  clear h q1 q2 q3 q4 hbad
  by_cases h1 : 1 ≤ m
  · by_cases h2 : -1 ≤ near
    · have h3 : ¬ near < n := fun h => HBAD.out ⟨h1, h2, h⟩
      go_enter Try.func44, Try.ntmps44
      go_upto_region 2 with (fail)
      go_wp2_with (go_at_call 57; refine (need_is _ (by simp <;> omega) 1 _).mono ?_; rintro e w1 ⟨rfl, hw9⟩; (have hw8 := hw9.symm); subst hw8; clear hw9; simp only [gaveUp])
      exact ⟨rfl, rfl, by rw [← hB]; exact HQ3.out⟩
    · go_enter Try.func44, Try.ntmps44
      go_upto_region 2 with (fail)
      go_wp2_with (go_at_call 57; refine (need_is _ (by simp <;> omega) 1 _).mono ?_; rintro e w1 ⟨rfl, hw9⟩; (have hw8 := hw9.symm); subst hw8; clear hw9; simp only [gaveUp])
      exact ⟨rfl, rfl, by rw [← hB]; exact HQ3.out⟩
  · go_enter Try.func44, Try.ntmps44
    go_upto_region 2 with (fail)
    go_wp2_with (go_at_call 57; refine (need_is _ (by simp <;> omega) 1 _).mono ?_; rintro e w1 ⟨rfl, hw9⟩; (have hw8 := hw9.symm); subst hw8; clear hw9; simp only [gaveUp])
    exact ⟨rfl, rfl, by rw [← hB]; exact HQ3.out⟩
set_option maxHeartbeats 4000000 in
theorem choose_full (R U n G : Nat) (tx : Value) (us : List Bool) (m near : Int) (inside : Bool) (w : World) (h : Rm w R U n G tx us) (hn : n ≤ 1000000) (hm1 : 1 ≤ m) (hn1 : -1 ≤ near) (hn2 : near < n) (hbad : ¬ m ≤ freeM us) :
    Calls Try.prog 44 #[.pointer (some ⟨R, 0, none⟩), .int .i64 m, .int .i64 near, .bool inside] w fun e w' => e = gaveUp 5 ∧ Below w.heap.size w w' := by
  obtain ⟨W0, hW0⟩ : ∃ W0, (w.alloc (.cells #[.pointer (some ⟨R, 0, none⟩)] 76)).alloc (.cells #[.int .i64 m] 3) = W0 := ⟨_, rfl⟩
  obtain ⟨B, hB⟩ : ∃ B, w.heap.size = B := ⟨_, rfl⟩
  have q1 : Blk W0 B [.pointer (some ⟨R, 0, none⟩)] 76 := by rw [← hW0, ← hB]; exact (Blk.new w [_] _).alloc _
  have q2 : Blk W0 (B + 1) [.int .i64 m] 3 := by
    have h := Blk.new (w.alloc (.cells #[.pointer (some ⟨R, 0, none⟩)] 76)) [.int .i64 m] 3
    rw [World.size_alloc, hB] at h
    rw [← hW0]; exact h
  have q3 : Below w.heap.size w W0 := by rw [← hW0]; exact below_al (one_alloc _ _) _
  have q4 := h.on q3
  have c0 := q1.cell (j := 0) rfl
  have c1 := q2.cell (j := 0) rfl
  have c2 := q4.obj.cell (j := 2) rfl
  have HQ1 := Lib.hid q1
  have HQ2 := Lib.hid q2
  have HQ3 := Lib.hid q3
  have HQ4 := Lib.hid q4
  have HBAD := Lib.hid hbad
  clear h q1 q2 q3 q4 hbad
  go_enter Try.func44, Try.ntmps44
  go_upto_region 3 with (go_at_call 57; refine (need_ok 1 _).mono ?_; rintro e w1 ⟨rfl, hw9⟩; (have hw8 := hw9.symm); subst hw8; clear hw9)
  clear hB hW0 c0 c1 c2
  have c0 := HQ1.out.cell (j := 0) rfl
  have c1 := HQ2.out.cell (j := 0) rfl
  obtain ⟨wd, hwd⟩ : ∃ wd, W0.drew = wd := ⟨_, rfl⟩
  have HQ4 : Hid (Rm wd R U n G tx us) := Lib.hid (by rw [← hwd]; exact ⟨HQ4.out.obj.drew, HQ4.out.row.drew, HQ4.out.len⟩)
  have HQ3 : Hid (Below w.heap.size w wd) := Lib.hid (by rw [← hwd]; exact below_drew1 HQ3.out)
  have d0 : wd.cell? ⟨B, 0, none⟩ = some (.pointer (some ⟨R, 0, none⟩)) := by rw [← hwd]; exact c0
  have d1 : wd.cell? ⟨B + 1, 0, none⟩ = some (.int .i64 m) := by rw [← hwd]; exact c1
  refine wp_region_still_tail 4 (by kernel_rfl) (by kernel_rfl) ?_
  change wpStill _ _ W0.drew (fun a' => wpList _ _ _ _ a' W0.drew) _ _
  rw [hwd]
  simp only [List.take_succ_cons, List.take_zero, List.drop_succ_cons, List.drop_zero]
  clear c0 c1 hwd
  repeat still_step
  still_call (free_any R U n G tx us wd HQ4.out (by omega))
  repeat still_step
  refine wpStill_nil ?_
  go_wp2_with (go_at_call 57; refine (need_dec (show ¬ (m ≤ (freeM us : Int)) by have := HBAD.out; omega) 5 _).mono ?_; rintro e w1 ⟨rfl, hw9⟩; (have hw8 := hw9.symm); subst hw8; clear hw9; simp only [gaveUp])
  exact ⟨rfl, rfl, HQ3.out⟩
end Go.Proofs.Ytibohhiebejbmaa
