/- Walk: the document's Data. -/
import Derived.Test.YtmlgjilflpdffaaRefA
namespace Go.Proofs.Ytmlgjilflpdffaa
open Go.RowKit Go.Deep
set_option linter.unusedVariables false
set_option linter.unusedSimpArgs false

set_option maxRecDepth 100000 in
set_option maxHeartbeats 4000000 in
theorem RData_any (A : Option Addr) (c : Nat) (ts : List Tok) (p : Int) (w : World) (hT : RdT w A ts.length ts) (hpos : posM 4 0 ts = .ok p) :
    Calls Try.prog 42 #[.slice A ts.length c] w fun e w' => ∃ v, e = .returned v ∧ w'.ownsRow w.heap.size 5 1 v (dataM [] ts).length (nums8 (dataM [] ts)) ∧ Below w.heap.size w w' := by
  obtain ⟨i5, h5i, h5z, h51, h5b⟩ := info_parts info5
  have htl : ts.length ≤ 3744 := by
    have h1 := pos_len 4 _ _ _ hpos (by omega)
    by_cases hn : ts = []
    · subst hn; simp
    · have := h1.2 hn; omega
  have HT := Lib.hid hT
  have HP := Lib.hid hpos
  clear hT hpos
  go_enter Try.func42, Try.ntmps42
  go_wp2
  go_loopg [3, 4] ts.length (fun kq v3 v4 W => ∃ (j : Nat) (out : List Int), v4 = .int .i64 j ∧ j ≤ ts.length ∧ out.length ≤ 3744 ∧ kq = ts.length - j ∧
    Hid (W.ownsRow w.heap.size 5 1 v3 out.length (nums8 out)) ∧ Hid (Below w.heap.size w W) ∧ Hid (posM 4 out.length (ts.drop j) = .ok p) ∧ Hid (dataM out (ts.drop j) = dataM [] ts))
  case atStart => exact ⟨0, [], rfl, by omega, by simp, rfl, Lib.hid (World.ownsRow_nil _ _ _ _), Lib.hid (Below.refl _ _), HP, Lib.hid rfl⟩
  case round =>
    clear HP
    obtain ⟨j, out, rfl, hj, hout, hkq, HO, HW, HP, HD⟩ := hrel
    by_cases hlt : j < ts.length
    · have hdrop : ts.drop j = ts[j] :: ts.drop (j + 1) := List.drop_eq_getElem_cons hlt
      have hP := HP.out
      have hD := HD.out
      rw [hdrop] at hP hD
      simp only [posM] at hP
      simp only [dataM] at hD
      obtain ⟨t, htj⟩ : ∃ t, ts[j] = t := ⟨_, rfl⟩
      rw [htj] at hP hD
      obtain ⟨ad, e, -⟩ := HT.out.at_ j hlt
      subst e
      obtain ⟨h0, h1, h2, h3⟩ := (HT.out.below HW.out).tok j hlt t htj
      have hj1 : (j : Int) < ts.length := by omega
      have HTJ := Lib.hid htj
      clear htj hdrop HP HD
      obtain ⟨tc, tb, tk, tm⟩ := t
      simp only at hP hD h0 h1 h2 h3
      cases hv : validM ⟨tc, tb, tk, tm⟩ (out.length : Int) 4 with
      | error e => rw [hv] at hP; cases hP
      | ok q =>
        rw [hv] at hP
        simp only at hP
        have HP := Lib.hid hP
        have hq := validM_bd hv
        cases tc with
        | false =>
          have hz : tk = 0 ∧ tm = 0 ∧ q = out.length + 1 := by
            unfold validM at hv
            simp only [if_true] at hv
            by_cases hb : tk ≠ 0 ∨ tm ≠ 0
            · rw [if_pos hb] at hv; cases hv
            · rw [if_neg hb] at hv
              by_cases hb2 : (3744 : Int) ≤ out.length
              · rw [if_pos hb2] at hv; cases hv
              · rw [if_neg hb2] at hv; cases hv; omega
          obtain ⟨rfl, rfl, hq1⟩ := hz
          have HD : Hid (dataM (out ++ [tb]) (ts.drop (j + 1)) = dataM [] ts) := Lib.hid hD
          have HQ := Lib.hid hq1
          clear hv hP hD hq1
          go_wp2_with (at_builtin; refine wpList_append_own _ rfl _ _ 22 rfl w.heap.size 5 i5 _ 1 1 Try.underlying22 h5i h5z h51 h5b rfl (by decide) _ out.length (nums8 out) rfl (World.ownsRow.alloc HO.out _) ⟨wr.heap.size, 0, none⟩ 1 1 [.int .u8 tb] rfl rfl (cell_new1 _ _ rfl _ _) (by simp [Value.oneCell']) (by simp only [maxLen]; omega) (by omega) (by have := HW.out.size; simp; omega) ?_; intro v3 w3 hown3 hgrow3 _)
          have HO3 : Hid (w3.ownsRow w.heap.size 5 1 v3 (out ++ [tb]).length (nums8 (out ++ [tb]))) := Lib.hid (by rw [List.length_append, nums8_snoc]; exact hown3)
          have HW3 : Hid (Below w.heap.size w w3) := Lib.hid ((below_al HW.out _).grown hgrow3 (by have := HW.out.size; simp; omega) (fun kk hk => (HO.out.lt kk hk).1))
          obtain ⟨g0, g1, g2, g3⟩ := (HT.out.below HW3.out).tok j hlt _ HTJ.out
          clear hown3 hgrow3 HO HW h0 h1 h2 h3
          simp only at g0 g1 g2 g3
          go_loopg [3, 5] 0 (fun kq v6 v32 W => v6 = v3 ∧ v32 = .int .i64 0 ∧ W = w3)
          case atStart => exact ⟨rfl, rfl, rfl⟩
          case round =>
            obtain ⟨rfl, rfl, rfl⟩ := hrel
            go_wp2
            have hl : (out ++ [tb]).length = out.length + 1 := by simp
            go_roundg (ts.length - (j + 1))
            case measure => omega
            case rel => exact ⟨j + 1, out ++ [tb], by go_num, by omega, by omega, rfl, HO3, HW3, Lib.hid (by rw [hl, show ((out.length + 1 : Nat) : Int) = q from by have := HQ.out; omega]; exact HP.out), HD⟩
        | true =>
          have hz : 1 ≤ tk ∧ tk ≤ out.length ∧ 3 ≤ tm ∧ q = out.length + tm := by
            unfold validM at hv
            simp only [Bool.true_eq_false, if_false] at hv
            by_cases hb : tb ≠ 0 ∨ tk < 1 ∨ (out.length : Int) < tk ∨ tm < 3 ∨ reach out.length < tm
            · rw [if_pos hb] at hv; cases hv
            · rw [if_neg hb] at hv
              by_cases hb2 : (3744 : Int) < out.length + tm
              · rw [if_pos hb2] at hv; cases hv
              · rw [if_neg hb2] at hv; cases hv; omega
          obtain ⟨hk1, hk2, hm3, hq1⟩ := hz
          obtain ⟨mn, rfl⟩ := Int.eq_ofNat_of_zero_le (show 0 ≤ tm by omega)
          have HD : Hid (dataM (copyM tk mn out) (ts.drop (j + 1)) = dataM [] ts) := Lib.hid hD
          have HQ := Lib.hid hq1
          clear hv hP hD hq1
          go_wp2
          clear h0 h1 h2 h3
          go_loopg [3, 5] mn (fun kq v6 v32 W => ∃ (m : Nat) (o : List Int), v32 = .int .i64 m ∧ m ≤ mn ∧ kq = mn - m ∧ Hid (o.length = out.length + m) ∧ Hid (W.ownsRow w.heap.size 5 1 v6 o.length (nums8 o)) ∧
            Hid (Below w.heap.size w W) ∧ Hid (copyM tk (mn - m) o = copyM tk mn out))
          case atStart => exact ⟨0, out, rfl, by omega, rfl, Lib.hid rfl, HO, HW, Lib.hid rfl⟩
          case round =>
            clear HO HW
            obtain ⟨m, o, rfl, hm, hkm, HL, HO, HW, HC⟩ := hrel
            obtain ⟨g0, g1, g2, g3⟩ := (HT.out.below HW.out).tok j hlt _ HTJ.out
            simp only at g0 g1 g2 g3
            by_cases hlm : m < mn
            · have hol := HL.out
              have hqq := HQ.out
              have hob : o.length ≤ 3744 := by omega
              have hmb : m ≤ 3744 := by omega
              obtain ⟨Ao, co, rfl, hco, hRo, -⟩ := own_bytes HO.out (by omega)
              have hidx : (((o.length : Int) - tk)).toNat < o.length := by omega
              obtain ⟨ado, rfl, hcell⟩ := hRo.at_ _ hidx
              obtain ⟨ix, hix⟩ : ∃ ix : Nat, (o.length : Int) - tk = ix := ⟨((o.length : Int) - tk).toNat, by omega⟩
              have hixlt : ix < o.length := by omega
              rw [hix] at hcell
              simp only [Int.toNat_natCast] at hcell
              have hcop : Hid (copyM tk (mn - (m + 1)) (o ++ [o.getD ix 0]) = copyM tk mn out) := Lib.hid (by
                have := HC.out
                rw [show mn - m = (mn - (m + 1)) + 1 from by omega] at this
                simp only [copyM] at this
                rw [hix] at this
                exact this)
              obtain ⟨ex, hex⟩ : ∃ ex, o.getD ix 0 = ex := ⟨_, rfl⟩
              rw [hex] at hcell hcop
              have hmlt : (m : Int) < mn := by omega
              clear hidx hRo HC hol hqq hex
              go_wp2_with (at_builtin; refine wpList_append_own _ rfl _ _ 22 rfl w.heap.size 5 i5 _ 1 1 Try.underlying22 h5i h5z h51 h5b rfl (by decide) _ o.length (nums8 o) rfl (World.ownsRow.alloc HO.out _) ⟨wr.heap.size, 0, none⟩ 1 1 [.int .u8 ex] rfl rfl (cell_new1 _ _ rfl _ _) (by simp [Value.oneCell']) (by simp only [maxLen]; omega) (by omega) (by have := HW.out.size; simp; omega) ?_; intro v3 w3 hown3 hgrow3 _)
              have hol := HL.out
              go_roundg (mn - (m + 1))
              case measure => omega
              case rel => exact ⟨m + 1, o ++ [ex], by go_num, by omega, rfl, Lib.hid (by simp; omega), Lib.hid (by rw [List.length_append, nums8_snoc]; exact hown3), Lib.hid ((below_al HW.out _).grown hgrow3 (by have := HW.out.size; simp; omega) (fun kk hk => (HO.out.lt kk hk).1)), hcop⟩
            · obtain rfl : m = mn := by omega
              have hol := HL.out
              have hqq := HQ.out
              have hco : o = copyM tk m out := by have := HC.out; rw [Nat.sub_self] at this; exact this
              have HP2 : Hid (posM 4 o.length (ts.drop (j + 1)) = .ok p) := Lib.hid (by rw [show ((o.length : Nat) : Int) = q from by omega]; exact HP.out)
              have HD2 : Hid (dataM o (ts.drop (j + 1)) = dataM [] ts) := Lib.hid (by rw [hco]; exact HD.out)
              clear hco hol hqq HC
              go_wp2
              have hol := HL.out
              have hqq := HQ.out
              go_roundg (ts.length - (j + 1))
              case measure => omega
              case rel => exact ⟨j + 1, o, by go_num, by omega, by omega, rfl, HO, HW, HP2, HD2⟩
    · obtain rfl : j = ts.length := by omega
      have hP := HP.out
      have hD := HD.out
      rw [List.drop_length] at hD
      simp only [dataM] at hD
      subst hD
      have hlt1 : ¬ ((ts.length : Int) < ts.length) := by omega
      clear hP HP HD
      go_wp2
      go_ret
      exact ⟨_, rfl, HO.out, HW.out⟩
end Go.Proofs.Ytmlgjilflpdffaa
