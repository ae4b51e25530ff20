/- Walk: the document's Build. -/
import Derived.Test.YtmlgjilflpdffaaRefA
namespace Go.Proofs.Ytmlgjilflpdffaa
open Go.RowKit Go.Deep
set_option linter.unusedVariables false
set_option linter.unusedSimpArgs false

/-- How the document's Build ends. -/
def RBuildEnd (w : World) (ts : List Tok) (r : Except Int Int) (e : Ending) (w' : World) : Prop :=
  (match r with
    | .error k => e = .returned (.tuple #[.slice none 0 0, .int .i64 k])
    | .ok _ => ∃ v, e = .returned (.tuple #[v, .int .i64 0]) ∧ w'.ownsRow w.heap.size 5 1 v (buildM ts).length (nums8 (buildM ts))) ∧ Below w.heap.size w w'

theorem sizT_put (s : Wst) (t : Tok) : (putM s t).pos = s.pos + sizT t := by
  have hp : (openM s).pos = s.pos := by unfold openM; split <;> rfl
  unfold putM laidM sizT
  rw [hp]
  split <;> rfl
theorem inn_put (s : Wst) (t : Tok) : (putM s t).inn = (s.inn + 1) % 8 := by
  have hp : (openM s).inn = s.inn := by unfold openM; split <;> rfl
  unfold putM laidM
  rw [hp]
  split <;> rfl

theorem hdr_fit (hb i : Int) (h0 : 0 ≤ i) (h7 : i < 8) (h : hb < 2 ^ i.toNat) : hb + 2 ^ i.toNat ≤ 255 := by
  have := pow8 i h0 h7
  omega

set_option maxRecDepth 100000 in
set_option maxHeartbeats 8000000 in
theorem RBuild_any (A : Option Addr) (c : Nat) (ts : List Tok) (r : Except Int Int) (w : World) (hT : RdT w A ts.length ts) (hsz : ts.length ≤ 10000) (h : posM 1 0 ts = r) :
    Calls Try.prog 22 #[.slice A ts.length c] w (RBuildEnd w ts r) := by
  obtain ⟨i5, h5i, h5z, h51, h5b⟩ := info_parts info5
  have HT := Lib.hid hT
  have HP := Lib.hid h
  clear hT h
  go_enter Try.func22, Try.ntmps22
  go_wp2
  go_loopg [4, 5, 6, 7] ts.length (fun kq v4 v5 v6 v7 W => ∃ (j : Nat) (s : Wst), v7 = .int .i64 j ∧ v5 = .int .i64 s.pos ∧ v6 = .int .i64 s.head ∧ j ≤ ts.length ∧ 0 ≤ s.pos ∧ s.pos ≤ 3744 ∧ kq = ts.length - j ∧
    Hid (s.inn = (j : Int) % 8) ∧ Hid (W.ownsRow w.heap.size 5 1 v4 s.out.length (nums8 s.out)) ∧ Hid (Wok s) ∧ Hid (s.out.length ≤ 3 * j) ∧ Hid (posM 1 s.pos (ts.drop j) = r) ∧ Hid ((ts.drop j).foldl putM s = ts.foldl putM w0M) ∧ Hid (Below w.heap.size w W))
  case atStart => exact ⟨0, w0M, rfl, rfl, rfl, by omega, by simp [w0M], by simp [w0M], rfl, Lib.hid (by simp [w0M]), Lib.hid (World.ownsRow_nil _ _ _ _), Lib.hid w0_ok, Lib.hid (by simp [w0M]), HP, Lib.hid rfl, Lib.hid (Below.refl _ _)⟩
  case round =>
    clear HP
    obtain ⟨j, s, rfl, rfl, rfl, hj, hp0, hp, hkq, HI, HO, HOK, HL, HP, HG, HW⟩ := hrel
    by_cases hlt : j < ts.length
    · have hdrop : ts.drop j = ts[j] :: ts.drop (j + 1) := List.drop_eq_getElem_cons hlt
      have hP := HP.out
      have hG := HG.out
      rw [hdrop, pos_step] at hP
      rw [hdrop] at hG
      obtain ⟨t, htj⟩ : ∃ t, ts[j] = t := ⟨_, rfl⟩
      rw [htj] at hP hG
      simp only [List.foldl_cons] at hG
      obtain ⟨ad, e, -⟩ := HT.out.at_ j hlt
      subst e
      obtain ⟨h0, h1, h2, h3⟩ := (HT.out.below HW.out).tok j hlt t htj
      have hj1 : (j : Int) < ts.length := by omega
      have HTJ := Lib.hid htj
      have HG1 := Lib.hid hG
      have hL := HL.out
      obtain ⟨Ao, co, rfl, hco, -, -⟩ := own_bytes HO.out (by omega)
      clear htj hdrop HP HG hG
      have hvr := validM_r t s.pos 1
      cases hrv : rvalid t s.pos with
      | false =>
        rw [hrv] at hvr
        simp only [Bool.false_eq_true, if_false] at hvr
        rw [hvr] at hP
        have HPP := Lib.hid hP
        have HRV := Lib.hid hrv
        clear hP hvr hrv
        go_wp2_with (go_at_call 39; refine (Rvalid_any t _ _ hp0 hp).mono ?_; rintro e w2 ⟨rfl, hB2⟩; rw [HRV.out]; (have HB2 := Lib.hid (below_then HW.out HW.out.size hB2)); clear hB2)
        go_ret2
        rw [← HPP.out]
        exact ⟨rfl, HB2.out⟩
      | true =>
        rw [hrv] at hvr
        simp only [if_true] at hvr
        have hsz2 := rvalid_size hrv
        obtain ⟨z, hz⟩ : ∃ z, sizT t = z := ⟨_, rfl⟩
        rw [hz] at hvr hsz2
        have HZ := Lib.hid hz
        have HRV := Lib.hid hrv
        clear hz hrv
        by_cases hbig : 3744 < s.pos + z
        · rw [if_pos hbig] at hvr
          rw [hvr] at hP
          have HPP := Lib.hid hP
          clear hP hvr
          go_wp2_with (first
            | (go_at_call 39; refine (Rvalid_any t _ _ hp0 hp).mono ?_; rintro e w2 ⟨rfl, hB2⟩; rw [HRV.out]; (have hcs := (HT.out.below (below_then HW.out HW.out.size hB2)).tok j hlt t HTJ.out); obtain ⟨g0, g1, g2, g3⟩ := hcs; (have HB2 := Lib.hid (below_then HW.out HW.out.size hB2)); clear hB2)
            | (go_at_call 40; refine (Rsize_any t _).mono ?_; rintro e w3 ⟨rfl, hB3⟩; rw [HZ.out]; (have HB3 := Lib.hid (below_then HB2.out HB2.out.size hB3)); clear hB3))
          go_ret2
          rw [← HPP.out]
          exact ⟨rfl, HB3.out⟩
        · rw [if_neg hbig] at hvr
          have HV := Lib.hid hvr
          rw [hvr] at hP
          simp only at hP
          have HP2 := Lib.hid hP
          clear hP hvr
          go_upto_if 35 with (first
            | (go_at_call 39; refine (Rvalid_any t _ _ hp0 hp).mono ?_; rintro e w2 ⟨rfl, hB2⟩; rw [HRV.out]; (have hcs := (HT.out.below (below_then HW.out HW.out.size hB2)).tok j hlt t HTJ.out); obtain ⟨g0, g1, g2, g3⟩ := hcs; (have HO2 := Lib.hid (own_keep HO.out hB2)); (have HB2 := Lib.hid (below_then HW.out HW.out.size hB2)); clear hB2)
            | (go_at_call 40; refine (Rsize_any t _).mono ?_; rintro e w3 ⟨rfl, hB3⟩; rw [HZ.out]; (have HO3 := Lib.hid (own_keep HO2.out hB3)); (have HB3 := Lib.hid (below_then HB2.out HB2.out.size hB3)); clear hB3))
          clear g0 g1 g2 g3 h0 h1 h2 h3
          have hop := open_ok HOK.out
          obtain ⟨s1, hs1⟩ : ∃ s1, openM s = s1 := ⟨_, rfl⟩
          rw [hs1] at hop
          have HS1 := Lib.hid hs1
          clear hs1
          have hsb : s.out.length ≤ 30000 := by omega
          go_cut [4, 6] (fun v4 v6 wc => v6 = .int .i64 s1.head ∧ Hid (wc.ownsRow w.heap.size 5 1 v4 s1.out.length (nums8 s1.out)) ∧ Hid (Below w.heap.size w wc))
          case first =>
            clear hop
            by_cases hin : (j : Int) % 8 = 0
            · have hinb : ((j : Int) % 8 == 0) = true := by simpa using hin
              have HOP : Hid (s1 = ⟨s.out ++ [0], s.pos, s.inn, s.out.length⟩) := Lib.hid (by rw [← HS1.out]; unfold openM; rw [if_pos (by rw [HI.out]; exact hin)])
              clear hin
              go_wp2_with (at_builtin; refine wpList_append_own _ rfl _ _ 22 rfl w.heap.size 5 i5 _ 1 1 Try.underlying22 h5i h5z h51 h5b rfl (by decide) _ s.out.length (nums8 s.out) rfl (World.ownsRow.alloc HO3.out _) ⟨w3.heap.size, 0, none⟩ 1 1 [.int .u8 0] rfl rfl (cell_new1 _ _ rfl _ _) (by simp [Value.oneCell']) (by simp only [maxLen]; omega) (by omega) (by have := HB3.out.size; simp; omega) ?_; intro v5 w5 hown5 hgrow5 _)
              go_meet
              case rel =>
                refine ⟨by rw [HOP.out], Lib.hid ?_, Lib.hid ((below_al HB3.out _).grown hgrow5 (by have := HB3.out.size; simp; omega) (fun kk hk => (HO3.out.lt kk hk).1))⟩
                rw [HOP.out]
                simp only [List.length_append, List.length_cons, List.length_nil, nums8_snoc]
                exact hown5
            · have hinb : ((j : Int) % 8 == 0) = false := by simpa using hin
              have HOP : Hid (s1 = s) := Lib.hid (by rw [← HS1.out]; unfold openM; rw [if_neg (by rw [HI.out]; exact hin)])
              clear hin
              go_wp2
              go_meet
              case rel => exact ⟨by rw [HOP.out], Lib.hid (by rw [HOP.out]; exact HO3.out), HB3⟩
          case rest =>
            obtain ⟨rfl, HO4, HW4⟩ := hcut
            obtain ⟨wp0, wi0, wi7, wh0, whl, wv0, wv1⟩ := hop
            have hpos1 : s1.pos = s.pos := by rw [← HS1.out]; unfold openM; split <;> rfl
            have hinn1 : s1.inn = (j : Int) % 8 := by rw [← HI.out, ← HS1.out]; unfold openM; split <;> rfl
            have hl1 : s1.out.length ≤ 30001 := by
              rw [← HS1.out]
              unfold openM
              split
              · simp only [List.length_append, List.length_cons, List.length_nil]; omega
              · omega
            obtain ⟨s2, hs2⟩ : ∃ s2, putM s t = s2 := ⟨_, rfl⟩
            have HPUT : Hid (s2 = laidM s1 t) := Lib.hid (by rw [← hs2, ← HS1.out]; rfl)
            have hpos2 : s2.pos = s.pos + z := by rw [← hs2, sizT_put, HZ.out]
            have HOK2 : Hid (Wok s2) := Lib.hid (by rw [← hs2]; exact (put_ok HOK.out HV.out).1)
            have HL2 : Hid (s2.out.length ≤ 3 * (j + 1)) := Lib.hid (by have := put_len s t; rw [hs2] at this; omega)
            have HI2 : Hid (s2.inn = ((j + 1 : Nat) : Int) % 8) := Lib.hid (by rw [← hs2, inn_put, HI.out]; omega)
            have HH2 : Hid (s2.head = s1.head) := Lib.hid (by rw [HPUT.out]; unfold laidM; split <;> rfl)
            have HP3 : Hid (posM 1 s2.pos (ts.drop (j + 1)) = r) := Lib.hid (by rw [hpos2]; exact HP2.out)
            rw [hs2] at HG1
            have HPOS2 := Lib.hid hpos2
            rw [hinn1] at wv1
            obtain ⟨h0, h1, h2, h3⟩ := (HT.out.below HW4.out).tok j hlt t HTJ.out
            have HPS1 := Lib.hid hpos1
            have HIN1 := Lib.hid hinn1
            clear HO HO2 HO3 HB2 HB3 hs2 hpos2 hpos1 hinn1 HP2 HOK HL HI
            obtain ⟨tc, tb, tk, tm⟩ := t
            simp only at h0 h1 h2 h3
            cases tc with
            | false =>
              clear h2 h3 wv0 wv1
              go_wp2_with (first
                | (at_builtin; refine wpList_append_own _ rfl _ _ 22 rfl w.heap.size 5 i5 _ 1 1 Try.underlying22 h5i h5z h51 h5b rfl (by decide) _ s1.out.length (nums8 s1.out) rfl (World.ownsRow.alloc HO4.out _) ⟨wc.heap.size, 0, none⟩ 1 1 [.int .u8 tb] rfl rfl (cell_new1 _ _ rfl _ _) (by simp [Value.oneCell']) (by simp only [maxLen]; omega) (by omega) (by have := HW4.out.size; simp; omega) ?_; intro v5 w5 hown5 hgrow5 _; (have HB5 := Lib.hid ((below_al HW4.out _).grown hgrow5 (by have := HW4.out.size; simp; omega) (fun kk hk => (HO4.out.lt kk hk).1))); (have HO5 := Lib.hid hown5); obtain ⟨g0, g1, g2, g3⟩ := (HT.out.below HB5.out).tok j hlt _ HTJ.out; simp only at g0 g1 g2 g3; clear hown5 hgrow5)
                | (go_at_call 40; refine (Rsize_any ⟨false, tb, tk, tm⟩ _).mono ?_; rintro e w6 ⟨rfl, hB6⟩; rw [HZ.out]; (have HO6 := Lib.hid (own_keep HO5.out hB6)); (have HB6 := Lib.hid (below_then HB5.out HB5.out.size hB6)); clear hB6))
              have hpos2 := HPOS2.out
              go_roundg (ts.length - (j + 1))
              case measure => omega
              case rel =>
                refine ⟨j + 1, s2, by go_num, by rw [HPOS2.out], by rw [HH2.out], by omega, by omega, by omega, rfl, HI2, Lib.hid ?_, HOK2, HL2, HP3, HG1, HB6⟩
                rw [HPUT.out]
                simp only [laidM, Bool.false_eq_true, if_false]
                rw [List.length_append, nums8_snoc]
                exact HO6.out
            | true =>
              have hz : 1 ≤ tk ∧ tk ≤ s.pos ∧ 3 ≤ tm ∧ tm ≤ reach s.pos := by
                have h1 := HRV.out
                unfold rvalid at h1
                simp only [Bool.true_eq_false, if_false, decide_eq_true_eq] at h1
                omega
              obtain ⟨hk1, hk2, hm3, hmr⟩ := hz
              obtain ⟨A1, c1, rfl, hc1, hR1, hblk⟩ := own_bytes HO4.out (by omega)
              have hgp := gap_pow s.pos
              have hg := gap_bd s.pos
              have hwd := widN_bd s.pos
              obtain ⟨G, hG⟩ : ∃ G, gap s.pos = G := ⟨_, rfl⟩
              have hkG : 0 ≤ (tk - 1) * G ∧ (tk - 1) * G + tm - 3 ≤ 65535 := by rw [← hG]; exact cpy_bd s.pos tk tm (by omega) hk1 hk2 hmr
              have hreach : tm ≤ G + 2 := by rw [← hG]; exact hmr
              have HG := Lib.hid hG
              rw [hG] at hgp hg
              clear hG hmr
              go_wp2_with (go_at_call 15; refine (RWidth_ok _ _ hp0 hp).mono ?_; rintro e w' ⟨rfl, ⟨m, rfl⟩⟩)
              go_quiet (fail)
              go_wp2
              obtain ⟨ad1, rfl, hcell⟩ := hR1.at_ s1.head.toNat (by omega)
              obtain ⟨had, hab, has⟩ := hblk ad1 rfl
              obtain ⟨ab, ao, asp⟩ := ad1
              simp only at had hab has
              subst had has
              rw [Addr.add_lit, Nat.zero_add] at hcell
              have hfz := HO4.out.frozenAt s1.head.toNat
              obtain ⟨hb, hhb⟩ : ∃ hb, s1.out.getD s1.head.toNat 0 = hb := ⟨_, rfl⟩
              rw [hhb] at hcell wv0 wv1
              have hp2 := pow8 ((j : Int) % 8) (by omega) (by omega)
              have hp3 : hb + 2 ^ ((j : Int) % 8).toNat ≤ 255 := by
                have hx := hdr_fit hb ((j : Int) % 8) (by omega) (by omega) wv1
                exact hx
              have hwr : IntKind.u8.wrap (2 ^ ((j : Int) % 8).toNat) = 2 ^ ((j : Int) % 8).toNat := by rw [IntKind.wrap_u8]; omega
              have hwr2 : IntKind.u8.wrap (hb + 2 ^ ((j : Int) % 8).toNat) = hb + 2 ^ ((j : Int) % 8).toNat := by rw [IntKind.wrap_u8]; omega
              have HH := Lib.hid hhb
              clear hhb hR1 hblk h0 h1 h2 h3
              have hval : (hb + (2 : Int) ^ (j % 8)) % 256 = hb + 2 ^ ((j : Int) % 8).toNat := by
                rw [show ((j : Int) % 8).toNat = j % 8 from by omega] at hp3 hp2 ⊢
                omega
              have HVAL := Lib.hid hval
              clear hval
              go_region
              rw [HVAL.out]
              have hst := (HO4.out : (wc.drewN (m + nq + 1)).ownsRow _ _ _ _ _ _).stored s1.head.toNat (.int .u8 (hb + 2 ^ ((j : Int) % 8).toNat))
              obtain ⟨o4, ho4⟩ : ∃ o4, s1.out.set s1.head.toNat (hb + 2 ^ ((j : Int) % 8).toNat) = o4 := ⟨_, rfl⟩
              have ho4l : Hid (s1.out.length = o4.length) := Lib.hid (by rw [← ho4]; simp)
              obtain ⟨W4, hW4⟩ : ∃ W4, (wc.drewN (m + nq + 1)).setCell ⟨ab, s1.head.toNat, none⟩ (.int .u8 (hb + 2 ^ ((j : Int) % 8).toNat)) = W4 := ⟨_, rfl⟩
              have HR4 : Hid (W4.ownsRow w.heap.size 5 1 (.slice (some ⟨ab, 0, none⟩) s1.out.length c1) s1.out.length (nums8 o4)) := Lib.hid (by
                rw [← ho4, ← hW4]
                have e : nums8 (s1.out.set s1.head.toNat (hb + 2 ^ ((j : Int) % 8).toNat)) = (nums8 s1.out).set s1.head.toNat (.int .u8 (hb + 2 ^ ((j : Int) % 8).toNat)) := by simp [nums8, List.map_set]
                rw [e]
                exact hst.1)
              have HB4 : Hid (Below w.heap.size w W4) := Lib.hid (by rw [← hW4]; exact below_st (below_drewN HW4.out _) (by simp; omega))
              rw [hW4]
              have HO4' := Lib.hid ho4
              clear hst ho4 hW4 hcell hfz hwr hwr2 wv0 wv1 HO4
              go_wp2_with (first
                | (at_builtin; refine wpList_append_own _ rfl _ _ 22 rfl w.heap.size 5 i5 _ 1 1 Try.underlying22 h5i h5z h51 h5b rfl (by decide) _ s1.out.length (nums8 o4) rfl (World.ownsRow.alloc HR4.out _) ⟨W4.heap.size, 0, none⟩ 2 2 [.int .u8 (((tk - 1) * G + tm - 3) % 256), .int .u8 (((tk - 1) * G + tm - 3) / 256)] rfl rfl (cells_new _ _ rfl [.int .u8 (((tk - 1) * G + tm - 3) % 256), .int .u8 (((tk - 1) * G + tm - 3) / 256)] _) (by simp [Value.oneCell']) (by simp only [maxLen]; omega) (by omega) (by have := HB4.out.size; simp; omega) ?_; intro v5 w5 hown5 hgrow5 _; (have HB5 := Lib.hid ((below_al HB4.out _).grown hgrow5 (by have := HB4.out.size; simp; omega) (fun kk hk => (HR4.out.lt kk hk).1))); (have HO5 := Lib.hid hown5); obtain ⟨g0, g1, g2, g3⟩ := (HT.out.below HB5.out).tok j hlt _ HTJ.out; simp only at g0 g1 g2 g3; clear hown5 hgrow5)
                | (go_at_call 40; refine (Rsize_any ⟨true, tb, tk, tm⟩ _).mono ?_; rintro e w6 ⟨rfl, hB6⟩; rw [HZ.out]; (have HO6 := Lib.hid (own_keep HO5.out hB6)); (have HB6 := Lib.hid (below_then HB5.out HB5.out.size hB6)); clear hB6))
              have hpos2 := HPOS2.out
              go_roundg (ts.length - (j + 1))
              case measure => omega
              case rel =>
                refine ⟨j + 1, s2, by go_num, by rw [HPOS2.out], by rw [HH2.out], by omega, by omega, by omega, rfl, HI2, Lib.hid ?_, HOK2, HL2, HP3, HG1, HB6⟩
                rw [HPUT.out]
                simp only [laidM, if_true]
                rw [HH.out, HIN1.out, HO4'.out, HPS1.out, HG.out, List.length_append, nums8_append, ← ho4l.out]
                exact HO6.out
    · obtain rfl : j = ts.length := by omega
      have hP := HP.out
      have hG := HG.out
      rw [List.drop_length] at hP hG
      have HPP := Lib.hid hP
      have HGG : Hid (s.out = buildM ts) := Lib.hid (by unfold buildM; rw [← hG]; rfl)
      have hlt1 : ¬ ((ts.length : Int) < ts.length) := by omega
      clear hP hG HP HG
      go_wp2
      go_ret2
      rw [← HPP.out]
      exact ⟨⟨_, rfl, by rw [← HGG.out]; exact HO.out⟩, HW.out⟩
end Go.Proofs.Ytmlgjilflpdffaa
