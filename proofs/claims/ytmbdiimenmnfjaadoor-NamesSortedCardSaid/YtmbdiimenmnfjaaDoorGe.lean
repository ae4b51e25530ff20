/- Walk: the names that are tried, one after the other (a function that is ranged over, and stopped early). -/
import Derived.Test.YtmbdiimenmnfjaaDoorGd
import Derived.Sort.CutIn
import Derived.BigQuiet
namespace Go.Proofs.YtmbdiimenmnfjaaDoor
open Go.RowKit Go.Deep
open Go.BigFrame
set_option linter.unusedVariables false
set_option linter.unusedSimpArgs false

set_option maxRecDepth 100000 in
set_option maxHeartbeats 8000000 in
theorem tries1_in (m : Nat) (h1m : 1 ≤ m) (lp Bs : Nat) (s : ByteArray) (hs : s.size ≤ 1000) (l : List Int) (hl : getU s = some l) (hl1 : 1 ≤ l.length) (J Jx : List ByteArray → World → Prop)
    (hJ : ∀ pre W W', J pre W → Below W.heap.size W W' → J pre W') (hJt : ∀ pre W, J pre W → Tab W)
    (hY : ∀ pre x W, x.size ≤ 1000000 → J pre W → YieldAt Fence.wide (m - 1) Tryd.prog lp #[.string x] W fun e W' => ∃ bb, e = .returned (.bool bb) ∧ ((bb = true ∧ J (pre ++ [x]) W' ∧ Keeps W W') ∨ (bb = false ∧ Jx (pre ++ [x]) W')))
    (W : World) (hbox : W.heap[Bs]? = some (.cells #[.string s] 9 (0, 0))) (h0 : J [] W) :
    CallsIn Fence.wide m Tryd.prog 76 #[.func (.yield lp) #[] #[], .pointer (some ⟨Bs, 0, none⟩)] W fun e W' => (∃ v, e = .returned v) ∧ (J (triesM l) W' ∨ ∃ pre x, pre ++ [x] <+: triesM l ∧ Jx (pre ++ [x]) W') := by
  obtain ⟨c0, z0, l0⟩ := one_cell hbox
  have hp := getU_props hl
  have HX := Lib.hid hp.1
  have hll : l.length ≤ 1000 := by omega
  have H := Lib.hid (getU_some hl)
  have HJ := Lib.hid hJ
  have HJT := Lib.hid hJt
  have HHY := Lib.hid hY
  have HJ0 := Lib.hid h0
  clear hp hl hJ hJt hY h0 hbox
  obtain ⟨up, hup⟩ : ∃ up, upS l = up := ⟨_, rfl⟩
  have HUP := Lib.hid hup
  have hups : mkB (textM (l.map upM)) = up := hup
  clear hup
  obtain ⟨sh, hsh⟩ : ∃ sh, isShortM up = sh := ⟨_, rfl⟩
  have HSH := Lib.hid hsh
  have hupz : up.size ≤ 1000000 := by
    rw [← HUP.out, upS, mkB_size]
    have := textM_len (l.map upM)
    rw [List.length_map] at this
    omega
  clear hsh
  refine callsIn_of_wp Tryd.func76 rfl trivial ?_ rfl
  simp only [Tryd.ntmps76, List.size_toArray, List.length_cons, List.length_nil, Nat.reduceAdd, Nat.reduceSub, Array.replicate_succ, Array.replicate_zero, List.push_toArray, List.append_toArray, List.nil_append, List.cons_append]
  gi_upto_region 2 with (first
      | (refine ⟨trivial, ?_⟩; gi_at_call 45; refine (callsIn_wide.2 (read_rd s (by omega) _ _ _ H.out)).mono ?_; rintro e w1 ⟨A1, c1, rfl, hc1, hR, hB⟩; (have HR1 := Lib.hid hR); (have HJ1 := Lib.hid (HJ.out _ _ _ HJ0.out hB)); clear hR hB)
      | (refine ⟨trivial, ?_⟩; gi_at_call 47; refine (callsIn_wide.2 (raised_rd A1 c1 l (by omega) HX.out _ HR1.out)).mono ?_; rintro e w2 ⟨A2, c2, rfl, hc2, hR, hB⟩; (have HR2 := Lib.hid hR); (have HR1 := Lib.hid (HR1.out.below hB)); (have HJ2 := Lib.hid (HJ.out _ _ _ HJ1.out hB)); clear hR hB)
      | (refine ⟨trivial, ?_⟩; gi_at_call 61; refine (callsIn_wide.2 (Eq.mp (by rw [List.length_map]) (text_any A2 c2 (l.map upM) (by rw [List.length_map]; omega) HX.out.map_up _ (by rw [List.length_map]; exact HR2.out)) : Calls Tryd.prog 61 #[.slice A2 l.length c2] _ _)).mono ?_; rintro e w3 ⟨rfl, hB⟩; rw [hups]; (have HR1 := Lib.hid (HR1.out.below hB)); (have HJ3 := Lib.hid (HJ.out _ _ _ HJ2.out hB)); clear hB))
  obtain ⟨P0, hP0⟩ : ∃ P0, (if sh = true then [up] else []) = P0 := ⟨_, rfl⟩
  have HP0 := Lib.hid hP0
  clear hP0
  gi_cut [27] from 28 (fun s27 wc => ∃ q : Bool, s27 = .bool q ∧ Hid (q = true → sh = true ∧ Jx [up] wc) ∧ Hid (q = false → J P0 wc ∧ Rd wc .u16 A1 l.length l))
  case first =>
    have hcases : sh = true ∨ sh = false := by cases sh <;> simp
    rcases hcases with rfl | rfl
    · gi_wp2_with (first
        | (refine ⟨trivial, ?_⟩; gi_at_call 25; refine (callsIn_wide.2 (isShort_any up hupz _)).mono ?_; rintro e w4 ⟨rfl, hB⟩; rw [HSH.out]; (have HR1 := Lib.hid (HR1.out.below hB)); (have HJ4 := Lib.hid (HJ.out _ _ _ HJ3.out hB)); clear hB)
        | ((have hgd := HJ4); clear hgd; refine wpListIn_yield h1m rfl _ _ _ rfl rfl rfl (HHY.out [] up _ hupz HJ4.out) ?_; rintro e w5 ⟨bb, rfl, hor⟩; refine ⟨_, rfl, ?_⟩; (have HOR := Lib.hid hor); clear hor))
      gi_meet
      case rel =>
        refine ⟨!bb, rfl, Lib.hid (fun h => ?_), Lib.hid (fun h => ?_)⟩
        · rcases HOR.out with ⟨h2, -⟩ | ⟨h2, h3⟩
          · rw [h2] at h; cases h
          · exact ⟨by first | rfl | trivial, h3⟩
        · rcases HOR.out with ⟨h2, h3, h4⟩ | ⟨h2, -⟩
          · have hP : P0 = [up] := by rw [← HP0.out]; simp
            rw [hP]
            exact ⟨h3, HR1.out.keeps h4⟩
          · rw [h2] at h; cases h
    · gi_wp2_with (refine ⟨trivial, ?_⟩; gi_at_call 25; refine (callsIn_wide.2 (isShort_any up hupz _)).mono ?_; rintro e w4 ⟨rfl, hB⟩; rw [HSH.out]; (have HR1 := Lib.hid (HR1.out.below hB)); (have HJ4 := Lib.hid (HJ.out _ _ _ HJ3.out hB)); clear hB)
      refine ⟨fun f hf => (by cases hf), ?_⟩
      gi_wp2
      gi_meet
      case rel =>
        refine ⟨false, rfl, Lib.hid (fun h => by cases h), Lib.hid (fun _ => ?_)⟩
        have hP : P0 = [] := by rw [← HP0.out]; simp
        rw [hP]
        exact ⟨HJ4.out, HR1.out⟩
  case rest =>
    obtain ⟨q, rfl, HQ1, HQ2⟩ := hcut
    gi_upto_region 4 with (fail)
    · have hq : q = true := by assumption
      obtain ⟨h2, h3⟩ := HQ1.out hq
      refine ⟨rfl, .tuple #[], by simp [results, Tryd.results76, go_sem], ⟨_, rfl⟩, Or.inr ⟨[], up, ?_, h3⟩⟩
      have := tries_head (l := l) (by rw [HUP.out, HSH.out, h2])
      rw [HUP.out] at this
      exact this
    · have hq : q = false := by assumption
      obtain ⟨h2, h3⟩ := HQ2.out hq
      have HJ5 := Lib.hid h2
      have HR5 := Lib.hid h3
      clear h2 h3 HQ1 HQ2
      gi_cut [8] from 28 (fun s8 wd => s8 = .int .i64 ((l.length - 1 : Nat) : Int) ∧ wd = wc)
      case first =>
        have hln : (l.length : Int) - 1 = ((l.length - 1 : Nat) : Int) := by omega
        gi_wp2
        gi_meet
        case rel => exact ⟨by first | rfl | trivial, by first | rfl | trivial⟩
      case rest =>
        obtain ⟨rfl, hwd⟩ := hcut
        subst hwd
        gi_step
        gi_cut [6, 7] from 28 (fun s6 s7 we => (∃ A c, s6 = .slice A (baseU l).length c ∧ (baseU l).length ≤ c ∧ Hid (Rd we .u16 A (baseU l).length (baseU l))) ∧ s7 = .string (end0 l) ∧ Hid (J P0 we))
        case first =>
          gi_wp2
          gi_loopg [6, 7, 8] (l.length) (fun kq v6 v7 v8 we => v6 = .slice A1 l.length c1 ∧ v7 = .string ⟨#[]⟩ ∧ ∃ i : Nat, v8 = .int .i64 i ∧ i + 1 ≤ l.length ∧ kq = i + 1 ∧ Hid (dotU l i = dotOf l) ∧ we = wc)
          case atStart => exact ⟨rfl, rfl, l.length - 1, rfl, by omega, by omega, Lib.hid rfl, rfl⟩
          case round =>
            obtain ⟨rfl, rfl, i, rfl, hil, hkq, HD, hwe⟩ := hrel
            subst hwe
            by_cases hi00 : i = 0
            · subst hi00
              gi_wp2
              gi_meet
              case rel =>
                have hd0 : dotOf l = 0 := HD.out.symm
                have hbu : baseU l = l := by unfold baseU; rw [if_pos hd0]
                have he0 : end0 l = ByteArray.empty := by unfold end0; rw [if_pos hd0]
                rw [hbu, he0]
                exact ⟨⟨A1, c1, rfl, hc1, HR5⟩, rfl, HJ5⟩
            · obtain ⟨ad1, hA, hcl1⟩ := HR5.out.at_ i (by omega)
              subst hA
              obtain ⟨j, hj⟩ : ∃ j, j + 1 = i := ⟨i - 1, by omega⟩
              obtain ⟨x, hx⟩ : ∃ x, l.getD i 0 = x := ⟨_, rfl⟩
              rw [hx] at hcl1
              have hi1 : (i : Int) < l.length := by omega
              have hi0 : 0 < (i : Int) := by omega
              have HXI := Lib.hid hx
              have HJI := Lib.hid hj
              clear hx hj
              by_cases hdot : x = 46
              · have HDI : Hid (dotOf l = i) := Lib.hid (by rw [← HD.out, ← HJI.out]; simp only [dotU]; rw [if_pos (by rw [HJI.out, HXI.out]; exact hdot)])
                subst hdot
                gi_wp2
                have hcp : 0 < c1 := by omega
                have hsl1 : ∀ w, (Instr.slice 49 (.slice (some ad1) l.length c1) none (some (.int .i64 i)) none).run Tryd.prog w = .ok (.slice (some ad1) i c1) w := slice_to49 (some ad1) l.length c1 i (by omega) hcp
                have hsl2 : ∀ w, (Instr.slice 49 (.slice (some ad1) l.length c1) (some (.int .i64 ((i : Int) + 1))) none none).run Tryd.prog w = .ok (.slice (if c1 = i + 1 then some ad1 else (some ad1).map fun x => x.add (i + 1)) (l.length - (i + 1)) (c1 - (i + 1))) w := slice_from49 (some ad1) l.length c1 (i + 1) (by omega)
                obtain ⟨A', hA'⟩ : ∃ A' : Option Addr, (if c1 = i + 1 then some ad1 else (some ad1).map fun x => x.add (i + 1)) = A' := ⟨_, rfl⟩
                obtain ⟨n', hn'⟩ : ∃ n', l.length - (i + 1) = n' := ⟨_, rfl⟩
                have hRdr := HR5.out.drop hc1 (i + 1) (by omega)
                rw [hA', hn'] at hsl2 hRdr
                have HRdr := Lib.hid hRdr
                have HN' := Lib.hid hn'
                have hnb : n' ≤ 1000 := by rw [← hn']; omega
                obtain ⟨t3, ht3⟩ : ∃ t3, mkB (shortenedM (l.drop (i + 1))) = t3 := ⟨_, rfl⟩
                have HT3 := Lib.hid ht3
                have ht3z : t3.size ≤ 1000000 := by rw [← ht3, mkB_size]; have := shortenedM_len (l.drop (i + 1)); rw [List.length_drop] at this; omega
                have hw1 : IntKind.i64.wrap ((i : Int) + 1) = (i : Int) + 1 := IntWalk.i64_in _ (by omega)
                clear hRdr hn' ht3 hA' hcl1
                obtain ⟨S, hne, f, hf1, hf2⟩ := grown_class wr
                have HF1 := Lib.hid hf1
                have HF2 := Lib.hid hf2
                clear hf1 hf2
                refine wpIn_wide.2 ?_
                refine region_quiet_f f (by kernel_rfl) (HF1.out _ (below_drew1 (Below.refl _ _))) ?_
                repeat (go_big_quiet_step ((first
                  | (go_at_call 78; refine (shortened_at _ _ _ (l.drop (i + 1)) (by rw [List.length_drop]; exact HN'.out) (by omega) (HX.out.drop _) _ (HRdr.out.below (HF2.out _))).mono ?_; rintro e w5 ⟨rfl, hB⟩; rw [HT3.out]; exact ⟨rfl, HF1.out _ (below_then (HF2.out _) (HF2.out _).size hB)⟩)
                  | (go_at_call 77; refine (first_3 _ ht3z _).mono ?_; rintro e w5 ⟨rfl, rfl⟩; exact ⟨rfl, _, rfl⟩))))
                refine wpQuiet_nil ?_
                rintro W5 ⟨u, rfl⟩
                have HB5 := Lib.hid (HF2.out u)
                generalize f u = W5 at *
                gi_wp2
                gi_meet
                case rel =>
                  have hbu : baseU l = l.take i := by unfold baseU; rw [HDI.out, if_neg (by omega)]
                  have hbl : (l.take i).length = i := by rw [List.length_take]; omega
                  have he0 : end0 l = firstS t3 3 := by unfold end0; rw [HDI.out, if_neg (by omega), HT3.out]
                  rw [hbu, he0, hbl]
                  exact ⟨⟨some ad1, c1, rfl, by omega, Lib.hid ((HR5.out.below HB5.out).take i (by omega))⟩, rfl, Lib.hid (HJ.out _ _ _ HJ5.out HB5.out)⟩
              · have hdb : (x == 46) = false := by simpa using hdot
                have HD2 : Hid (dotU l j = dotOf l) := Lib.hid (by have := HD.out; rw [← HJI.out] at this; simp only [dotU] at this; rwa [if_neg (by rw [HJI.out, HXI.out]; exact hdot)] at this)
                have hij : (i : Int) - 1 = (j : Int) := by have := HJI.out; omega
                gi_wp2
                gi_roundg i
                case measure => omega
                case rel => exact ⟨rfl, rfl, j, rfl, by have := HJI.out; omega, HJI.out.symm, HD2, rfl⟩
        case rest =>
          obtain ⟨⟨Ab, cb, rfl, hcb, HRb⟩, rfl, HJ6⟩ := hcut
          have HTR : Hid (triesM l = P0 ++ numsT l 9999) := Lib.hid (tries_pre HUP.out HSH.out HP0.out)
          obtain ⟨E, hE⟩ : ∃ E, end0 l = E := ⟨_, rfl⟩
          have hEz : E.size ≤ 3 := by rw [← hE]; unfold end0; split; exact Nat.zero_le _; exact firstS_size _ _
          obtain ⟨ES, hES⟩ : ∃ ES, endS l = ES := ⟨_, rfl⟩
          have hES' : (if E.toList = [] then E else ⟨#[46]⟩ ++ E) = ES := by rw [← hES]; unfold endS; rw [hE]
          have hdt : (⟨#[46]⟩ : ByteArray).size = 1 := rfl
          have htl : (⟨#[126]⟩ : ByteArray).size = 1 := rfl
          have hESz : ES.size ≤ 4 := by rw [← hES']; split; omega; rw [ByteArray.size_append, hdt]; omega
          obtain ⟨tb, htb⟩ : ∃ tb, mkB (shortenedM (baseU l)) = tb := ⟨_, rfl⟩
          have HTB := Lib.hid htb
          obtain ⟨BS, hBS⟩ : ∃ BS, baseS l = BS := ⟨_, rfl⟩
          have hBS' : (if tb.toList = [] then ⟨#[95]⟩ else tb) = BS := by rw [← hBS]; unfold baseS; rw [htb]
          have HBS' := Lib.hid hBS'
          have hbul : (baseU l).length ≤ 1000 := by unfold baseU; split; omega; rw [List.length_take]; omega
          have hbuU : U16 (baseU l) := by unfold baseU; split; exact HX.out; exact HX.out.take _
          have HBU := Lib.hid hbuU
          have htbz : tb.size ≤ 1000 := by rw [← htb, mkB_size]; have := shortenedM_len (baseU l); omega
          have hBSz : BS.size ≤ 1000 := by rw [← hBS']; split; decide; exact htbz
          have HES := Lib.hid hES
          have HBS := Lib.hid hBS
          rw [hE]
          have HTN : Hid (∀ n, tryN l n = firstS BS (7 - (decS n).size) ++ ⟨#[126]⟩ ++ decS n ++ ES) := Lib.hid (fun n => by unfold tryN; rw [HBS.out, HES.out])
          have hadd1 : ∀ W : World, (Op.stringOp .add ⟨#[46]⟩ E).run Tryd.prog W = .ok (.string (⟨#[46]⟩ ++ E)) W := fun W => run_string_add_sum W _ _ (by omega)
          obtain ⟨q2, hq2⟩ : ∃ q2 : Bool, E.toList.isEmpty = q2 := ⟨_, rfl⟩
          have hE2 : (if q2 = true then E else ⟨#[46]⟩ ++ E) = ES := by
            rw [← hES', ← hq2]
            cases E.toList with
            | nil => rfl
            | cons a r => rfl
          have hq2' : (E.toList == []) = q2 := by rw [← hq2]; cases E.toList <;> rfl
          clear hE hES hES' htb hBS hBS' hbuU
          have hqc : q2 = true ∨ q2 = false := by cases q2 <;> simp
          rcases hqc with rfl | rfl
          · simp only [if_true] at hE2
            obtain rfl : ES = E := hE2.symm
            gi_wp2_with (first
              | (refine ⟨trivial, ?_⟩; gi_at_call 78; refine (callsIn_wide.2 (shortened_at _ _ _ (baseU l) rfl (by omega) HBU.out _ HRb.out)).mono ?_; rintro e w6 ⟨rfl, hB⟩; rw [HTB.out]; (have HJ7 := Lib.hid (HJ.out _ _ _ HJ6.out hB)); clear hB)
              | (refine ⟨trivial, ?_⟩; gi_at_call 79; refine (callsIn_wide.2 (or_dash _ _ rfl tb)).mono ?_; rintro e w7 ⟨rfl, rfl⟩; rw [HBS'.out]; (have HJ8 := Lib.hid (HJ.out _ _ _ HJ7.out (one_alloc _ (.cells #[.string tb, .string ⟨#[95]⟩] 9))))))
            gi_loopg [10, 11] 10000 (fun kq v10 v11 we => ∃ n : Nat, v10 = .int .i64 n ∧ 1 ≤ n ∧ n ≤ 10000 ∧ kq = 10001 - n ∧ Hid (J (P0 ++ numsT l (n - 1)) we))
            case atStart => exact ⟨1, rfl, by omega, by omega, by omega, Lib.hid (by have := HJ8.out; simpa [numsT] using this)⟩
            case round =>
              obtain ⟨n, rfl, hn1, hn2, hkq, HJn⟩ := hrel
              by_cases hlt : n ≤ 9999
              · have hlti : (n : Int) ≤ 9999 := by omega
                obtain ⟨D, hD⟩ : ∃ D, decS n = D := ⟨_, rfl⟩
                have hDz : D.size ≤ 4 := by rw [← hD]; exact decS_size n hlt
                obtain ⟨k7, hk7⟩ : ∃ k7, 7 - D.size = k7 := ⟨_, rfl⟩
                have hk7i : (7 : Int) - (D.size : Int) = (k7 : Int) := by omega
                obtain ⟨F, hF⟩ : ∃ F, firstS BS k7 = F := ⟨_, rfl⟩
                have hFz : F.size ≤ 7 := by rw [← hF]; exact Nat.le_trans (firstS_size _ _) (by omega)
                obtain ⟨G, hG⟩ : ∃ G, F ++ ⟨#[126]⟩ = G := ⟨_, rfl⟩
                have hGz : G.size ≤ 8 := by rw [← hG, ByteArray.size_append, htl]; omega
                obtain ⟨K1, hK1⟩ : ∃ K1, G ++ D = K1 := ⟨_, rfl⟩
                have hKz : K1.size ≤ 12 := by rw [← hK1, ByteArray.size_append]; omega
                obtain ⟨T, hT⟩ : ∃ T, K1 ++ ES = T := ⟨_, rfl⟩
                have hTz : T.size ≤ 1000000 := by rw [← hT, ByteArray.size_append]; omega
                have hadd2 : ∀ W : World, (Op.stringOp .add F ⟨#[126]⟩).run Tryd.prog W = .ok (.string G) W := fun W => by rw [run_string_add_sum W _ _ (by omega), hG]
                have hadd3 : ∀ W : World, (Op.stringOp .add G D).run Tryd.prog W = .ok (.string K1) W := fun W => by rw [run_string_add_sum W _ _ (by omega), hK1]
                have hadd4 : ∀ W : World, (Op.stringOp .add K1 ES).run Tryd.prog W = .ok (.string T) W := fun W => by rw [run_string_add_sum W _ _ (by omega), hT]
                have HTT : Hid (tryN l n = T) := Lib.hid (by rw [HTN.out n, hD, hk7, hF, hG, hK1, hT])
                have HNS : Hid (numsT l n = numsT l (n - 1) ++ [T]) := Lib.hid (by rw [← HTT.out, show n = (n - 1) + 1 by omega, numsT_succ]; simp)
                have HD := Lib.hid hD
                have HF := Lib.hid hF
                clear hD hk7 hF hG hK1 hT
                gi_wp2_with (first
                  | (refine ⟨trivial, ?_⟩; gi_at_call 80; refine (callsIn_wide.2 (itoa_any n (by omega) _ (HJT.out _ _ HJn.out))).mono ?_; rintro e w9 ⟨rfl, hB⟩; rw [HD.out]; (have HJ9 := Lib.hid (HJ.out _ _ _ HJn.out hB)); clear hB)
                  | (refine ⟨trivial, ?_⟩; gi_at_call 77; refine (callsIn_wide.2 (first_any BS k7 (by omega) (by omega) _)).mono ?_; rintro e w10 ⟨rfl, rfl⟩; rw [HF.out])
                  | ((have hgd := HJ9); clear hgd; refine wpListIn_yield h1m rfl _ _ _ rfl rfl rfl (HHY.out _ T _ hTz HJ9.out) ?_; rintro e w11 ⟨bb, rfl, hor⟩; refine ⟨_, rfl, ?_⟩; (have HOR := Lib.hid hor); clear hor))
                · rcases HOR.out with ⟨h2, -⟩ | ⟨h2, h3⟩
                  · have hb : (!bb) = true := by assumption
                    rw [h2] at hb
                    cases hb
                  · have hpre := tries_upto HTR.out n hlt
                    rw [HNS.out, ← List.append_assoc] at hpre
                    exact ⟨rfl, .tuple #[], by simp [results, Tryd.results76, go_sem], ⟨_, rfl⟩, Or.inr ⟨P0 ++ numsT l (n - 1), T, hpre, h3⟩⟩
                · have HJ12 : Hid (J (P0 ++ numsT l (n + 1 - 1)) w11) := Lib.hid (by
                    rcases HOR.out with ⟨h2, h3, -⟩ | ⟨h2, -⟩
                    · rw [Nat.add_sub_cancel, HNS.out, ← List.append_assoc]; exact h3
                    · have hb : (!bb) = false := by assumption
                      rw [h2] at hb
                      cases hb)
                  gi_roundg (10001 - (n + 1))
                  case measure => omega
                  case rel => exact ⟨n + 1, by simp, by omega, by omega, rfl, HJ12⟩
              · have hne : n = 10000 := by omega
                subst hne
                have hlti : ¬ ((10000 : Nat) : Int) ≤ 9999 := by decide
                gi_wp2
                exact ⟨rfl, .tuple #[], by simp [results, Tryd.results76, go_sem], ⟨_, rfl⟩, Or.inl (by rw [HTR.out]; exact HJn.out)⟩
          · simp only [if_false, Bool.false_eq_true] at hE2
            gi_wp2_with (first
              | (refine ⟨trivial, ?_⟩; gi_at_call 78; refine (callsIn_wide.2 (shortened_at _ _ _ (baseU l) rfl (by omega) HBU.out _ HRb.out)).mono ?_; rintro e w6 ⟨rfl, hB⟩; rw [HTB.out]; (have HJ7 := Lib.hid (HJ.out _ _ _ HJ6.out hB)); clear hB)
              | (refine ⟨trivial, ?_⟩; gi_at_call 79; refine (callsIn_wide.2 (or_dash _ _ rfl tb)).mono ?_; rintro e w7 ⟨rfl, rfl⟩; rw [HBS'.out]; (have HJ8 := Lib.hid (HJ.out _ _ _ HJ7.out (one_alloc _ (.cells #[.string tb, .string ⟨#[95]⟩] 9))))))
            gi_loopg [10, 11] 10000 (fun kq v10 v11 we => ∃ n : Nat, v10 = .int .i64 n ∧ 1 ≤ n ∧ n ≤ 10000 ∧ kq = 10001 - n ∧ Hid (J (P0 ++ numsT l (n - 1)) we))
            case atStart => exact ⟨1, rfl, by omega, by omega, by omega, Lib.hid (by have := HJ8.out; simpa [numsT] using this)⟩
            case round =>
              obtain ⟨n, rfl, hn1, hn2, hkq, HJn⟩ := hrel
              by_cases hlt : n ≤ 9999
              · have hlti : (n : Int) ≤ 9999 := by omega
                obtain ⟨D, hD⟩ : ∃ D, decS n = D := ⟨_, rfl⟩
                have hDz : D.size ≤ 4 := by rw [← hD]; exact decS_size n hlt
                obtain ⟨k7, hk7⟩ : ∃ k7, 7 - D.size = k7 := ⟨_, rfl⟩
                have hk7i : (7 : Int) - (D.size : Int) = (k7 : Int) := by omega
                obtain ⟨F, hF⟩ : ∃ F, firstS BS k7 = F := ⟨_, rfl⟩
                have hFz : F.size ≤ 7 := by rw [← hF]; exact Nat.le_trans (firstS_size _ _) (by omega)
                obtain ⟨G, hG⟩ : ∃ G, F ++ ⟨#[126]⟩ = G := ⟨_, rfl⟩
                have hGz : G.size ≤ 8 := by rw [← hG, ByteArray.size_append, htl]; omega
                obtain ⟨K1, hK1⟩ : ∃ K1, G ++ D = K1 := ⟨_, rfl⟩
                have hKz : K1.size ≤ 12 := by rw [← hK1, ByteArray.size_append]; omega
                obtain ⟨T, hT⟩ : ∃ T, K1 ++ ES = T := ⟨_, rfl⟩
                have hTz : T.size ≤ 1000000 := by rw [← hT, ByteArray.size_append]; omega
                have hadd2 : ∀ W : World, (Op.stringOp .add F ⟨#[126]⟩).run Tryd.prog W = .ok (.string G) W := fun W => by rw [run_string_add_sum W _ _ (by omega), hG]
                have hadd3 : ∀ W : World, (Op.stringOp .add G D).run Tryd.prog W = .ok (.string K1) W := fun W => by rw [run_string_add_sum W _ _ (by omega), hK1]
                have hadd4 : ∀ W : World, (Op.stringOp .add K1 ES).run Tryd.prog W = .ok (.string T) W := fun W => by rw [run_string_add_sum W _ _ (by omega), hT]
                have HTT : Hid (tryN l n = T) := Lib.hid (by rw [HTN.out n, hD, hk7, hF, hG, hK1, hT])
                have HNS : Hid (numsT l n = numsT l (n - 1) ++ [T]) := Lib.hid (by rw [← HTT.out, show n = (n - 1) + 1 by omega, numsT_succ]; simp)
                have HD := Lib.hid hD
                have HF := Lib.hid hF
                clear hD hk7 hF hG hK1 hT
                gi_wp2_with (first
                  | (refine ⟨trivial, ?_⟩; gi_at_call 80; refine (callsIn_wide.2 (itoa_any n (by omega) _ (HJT.out _ _ HJn.out))).mono ?_; rintro e w9 ⟨rfl, hB⟩; rw [HD.out]; (have HJ9 := Lib.hid (HJ.out _ _ _ HJn.out hB)); clear hB)
                  | (refine ⟨trivial, ?_⟩; gi_at_call 77; refine (callsIn_wide.2 (first_any BS k7 (by omega) (by omega) _)).mono ?_; rintro e w10 ⟨rfl, rfl⟩; rw [HF.out])
                  | ((have hgd := HJ9); clear hgd; refine wpListIn_yield h1m rfl _ _ _ rfl rfl rfl (HHY.out _ T _ hTz HJ9.out) ?_; rintro e w11 ⟨bb, rfl, hor⟩; refine ⟨_, rfl, ?_⟩; (have HOR := Lib.hid hor); clear hor))
                · rcases HOR.out with ⟨h2, -⟩ | ⟨h2, h3⟩
                  · have hb : (!bb) = true := by assumption
                    rw [h2] at hb
                    cases hb
                  · have hpre := tries_upto HTR.out n hlt
                    rw [HNS.out, ← List.append_assoc] at hpre
                    exact ⟨rfl, .tuple #[], by simp [results, Tryd.results76, go_sem], ⟨_, rfl⟩, Or.inr ⟨P0 ++ numsT l (n - 1), T, hpre, h3⟩⟩
                · have HJ12 : Hid (J (P0 ++ numsT l (n + 1 - 1)) w11) := Lib.hid (by
                    rcases HOR.out with ⟨h2, h3, -⟩ | ⟨h2, -⟩
                    · rw [Nat.add_sub_cancel, HNS.out, ← List.append_assoc]; exact h3
                    · have hb : (!bb) = false := by assumption
                      rw [h2] at hb
                      cases hb)
                  gi_roundg (10001 - (n + 1))
                  case measure => omega
                  case rel => exact ⟨n + 1, by simp, by omega, by omega, rfl, HJ12⟩
              · have hne : n = 10000 := by omega
                subst hne
                have hlti : ¬ ((10000 : Nat) : Int) ≤ 9999 := by decide
                gi_wp2
                exact ⟨rfl, .tuple #[], by simp [results, Tryd.results76, go_sem], ⟨_, rfl⟩, Or.inl (by rw [HTR.out]; exact HJn.out)⟩
end Go.Proofs.YtmbdiimenmnfjaaDoor
