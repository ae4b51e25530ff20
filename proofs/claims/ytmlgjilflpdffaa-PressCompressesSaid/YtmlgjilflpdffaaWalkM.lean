/- Walks: Build. -/
import Derived.Test.YtmlgjilflpdffaaWalkL
namespace Go.Proofs.Ytmlgjilflpdffaa
open Go.RowKit Go.Deep
set_option linter.unusedVariables false
set_option linter.unusedSimpArgs false

theorem pos_step (bad p : Int) (t : Tok) (ts : List Tok) : posM bad p (t :: ts) = match validM t p bad with | .error e => .error e | .ok q => posM bad q ts := rfl

set_option maxRecDepth 100000 in
set_option maxHeartbeats 4000000 in
theorem Build_err (A : Option Addr) (c : Nat) (ts : List Tok) (k : Int) (w : World) (hr : RdT w A ts.length ts) (hsz : ts.length ≤ 5864062014805) (h : posM 1 0 ts = .error k) :
    Calls Try.prog 21 #[.slice A ts.length c] w fun e w' => e = .returned (.tuple #[.slice none 0 0, .int .i64 k]) ∧ Below w.heap.size w w' := by
  have HT : Hid (RdT (w.alloc (.cells #[.int .i64 0] 24)) A ts.length ts) := Lib.hid (hr.below (one_alloc _ _))
  have HP0 := Lib.hid h
  clear hr h
  obtain ⟨w0, hw0⟩ : ∃ w0, w.alloc (.cells #[.int .i64 0] 24) = w0 := ⟨_, rfl⟩
  have HW0 := Lib.hid hw0
  rw [hw0] at HT
  go_enter_defers Try.func21, Try.ntmps21
  go_wp2
  clear hw0
  go_loopg [4, 13] ts.length (fun kq v4 v13 W => ∃ (j : Nat) (p : Int), v13 = .int .i64 j ∧ v4 = .int .i64 p ∧ 0 ≤ p ∧ p ≤ 3744 ∧ j ≤ ts.length ∧ kq = ts.length - j ∧ Hid (Below w0.heap.size w0 W) ∧ Hid (posM 1 p (ts.drop j) = .error k))
  case atStart => exact ⟨0, 0, rfl, rfl, by omega, by omega, by omega, rfl, Lib.hid (Below.refl _ _), HP0⟩
  case round =>
    obtain ⟨j, p, rfl, rfl, hp0, hp, hj, hkq, HW, HP⟩ := hrel
    by_cases hlt : j < ts.length
    · have hdrop : ts.drop j = ts[j] :: ts.drop (j + 1) := List.drop_eq_getElem_cons hlt
      have hP := HP.out
      rw [hdrop, pos_step] at hP
      obtain ⟨t, htj⟩ : ∃ t, ts[j] = t := ⟨_, rfl⟩
      rw [htj] at hP
      obtain ⟨ad, e, -⟩ := HT.out.at_ j hlt
      subst e
      obtain ⟨h0, h1, h2, h3⟩ := (HT.out.below HW.out).tok j hlt t htj
      have hli : (j : Int) < ts.length := by omega
      clear htj hdrop HP
      cases hv : validM t p 1 with
      | error e =>
        rw [hv] at hP
        obtain rfl : e = k := by injection hP
        have HV := Lib.hid hv
        clear hv hP
        go_wp2_with (go_at_call 41; refine (valid_err t p 1 e _ hp0 hp HV.out).mono ?_; rintro e1 w1 ⟨rfl, hB⟩)
        have hBB : Below w0.heap.size w0 w1 := below_then (below_al HW.out _) (by have := HW.out.size; simp; omega) hB
        rw [← HW0.out] at hBB
        obtain ⟨g0, gf0, gcell, gbelow⟩ := door_fault w w1 e hBB
        refine leaves_cons (f := 35) (args := #[.pointer (some ⟨w.heap.size, 0, none⟩)]) (by simp) (by simp [go_sem]) ?_
        refine (caught_panicking w.heap.size 0 e [] _ g0 gf0).mono ?_
        rintro e2 u2 w2 ⟨rfl, rfl, rfl⟩
        simp [Leaves, settle, results, Try.results21, go_sem, gcell]
        exact gbelow
      | ok q =>
        rw [hv] at hP
        have HP := Lib.hid (show posM 1 q (ts.drop (j + 1)) = .error k from hP)
        have HV := Lib.hid hv
        have hq := validM_bd hv
        clear hv hP
        go_wp2_with (go_at_call 41; refine (valid_ok t p 1 q _ hp0 hp HV.out).mono ?_; rintro e1 w1 ⟨rfl, hB⟩)
        go_roundg (ts.length - (j + 1))
        case measure => omega
        case rel => exact ⟨j + 1, q, by go_num, rfl, by omega, by omega, by omega, rfl, Lib.hid (below_then (below_al HW.out _) (by have := HW.out.size; simp; omega) hB), HP⟩
    · exfalso
      have hP := HP.out
      rw [List.drop_eq_nil_of_le (by omega)] at hP
      cases hP

theorem pos_at (bad : Int) : ∀ (ts : List Tok) (p : Int) (q : Int), posM bad p ts = .ok q → 0 ≤ p → p ≤ 3744 → 0 ≤ q ∧ q ≤ 3744
  | [], p, q, h, h0, hp => by cases h; exact ⟨h0, hp⟩
  | t :: ts, p, q, h, h0, hp => by
    rw [pos_step] at h
    cases hv : validM t p bad with
    | error e => rw [hv] at h; cases h
    | ok r =>
      rw [hv] at h
      have := valid_pos hv h0
      exact pos_at bad ts r q h (by omega) (by omega)

set_option maxRecDepth 100000 in
set_option maxHeartbeats 4000000 in
theorem Build_ok (A : Option Addr) (c : Nat) (ts : List Tok) (qe : Int) (w : World) (hr : RdT w A ts.length ts) (h : posM 1 0 ts = .ok qe) :
    Calls Try.prog 21 #[.slice A ts.length c] w fun e w' => ∃ v, e = .returned (.tuple #[v, .int .i64 0]) ∧ w'.ownsRow w.heap.size 5 1 v (buildM ts).length (nums8 (buildM ts)) ∧ Below w.heap.size w w' := by
  have HT : Hid (RdT (w.alloc (.cells #[.int .i64 0] 24)) A ts.length ts) := Lib.hid (hr.below (one_alloc _ _))
  have HP0 := Lib.hid h
  have htl : ts.length ≤ 3744 := by
    have h1 := pos_len 1 _ _ _ h (by omega)
    by_cases hn : ts = []
    · subst hn; simp
    · have := h1.2 hn; omega
  clear hr h
  obtain ⟨w0, hw0⟩ : ∃ w0, w.alloc (.cells #[.int .i64 0] 24) = w0 := ⟨_, rfl⟩
  have HW0 := Lib.hid hw0
  rw [hw0] at HT
  go_enter_defers Try.func21, Try.ntmps21
  go_wp2
  clear hw0
  go_loopg [4, 13] ts.length (fun kq v4 v13 W => ∃ (j : Nat) (p : Int), v13 = .int .i64 j ∧ v4 = .int .i64 p ∧ 0 ≤ p ∧ p ≤ 3744 ∧ j ≤ ts.length ∧ kq = ts.length - j ∧ Hid (Below w0.heap.size w0 W) ∧ Hid (posM 1 p (ts.drop j) = .ok qe))
  case atStart => exact ⟨0, 0, rfl, rfl, by omega, by omega, by omega, rfl, Lib.hid (Below.refl _ _), HP0⟩
  case round =>
    obtain ⟨j, p, rfl, rfl, hp0, hp, hj, hkq, HW, HP⟩ := hrel
    by_cases hlt : j < ts.length
    · have hdrop : ts.drop j = ts[j] :: ts.drop (j + 1) := List.drop_eq_getElem_cons hlt
      have hP := HP.out
      rw [hdrop, pos_step] at hP
      obtain ⟨t, htj⟩ : ∃ t, ts[j] = t := ⟨_, rfl⟩
      rw [htj] at hP
      obtain ⟨ad, e, -⟩ := HT.out.at_ j hlt
      subst e
      obtain ⟨h0, h1, h2, h3⟩ := (HT.out.below HW.out).tok j hlt t htj
      have hli : (j : Int) < ts.length := by omega
      clear htj hdrop HP
      cases hv : validM t p 1 with
      | error e => rw [hv] at hP; cases hP
      | ok q =>
        rw [hv] at hP
        have HP := Lib.hid (show posM 1 q (ts.drop (j + 1)) = .ok qe from hP)
        have HV := Lib.hid hv
        have hq := validM_bd hv
        clear hv hP
        go_wp2_with (go_at_call 41; refine (valid_ok t p 1 q _ hp0 hp HV.out).mono ?_; rintro e1 w1 ⟨rfl, hB⟩)
        go_roundg (ts.length - (j + 1))
        case measure => omega
        case rel => exact ⟨j + 1, q, by go_num, rfl, by omega, by omega, by omega, rfl, Lib.hid (below_then (below_al HW.out _) (by have := HW.out.size; simp; omega) hB), HP⟩
    · obtain rfl : j = ts.length := by omega
      go_wp2_with (go_at_call 34; refine (writer_any _).mono ?_; rintro e w1 ⟨rfl, hWS, hB⟩)
      obtain ⟨n, hn⟩ : ∃ n, wr.heap.size = n := ⟨_, rfl⟩
      rw [hn] at hWS hB ⊢
      have HN : Hid (w0.heap.size ≤ n) := Lib.hid (by have := HW.out.size; omega)
      have HS := Lib.hid hWS
      have HW1 : Hid (Below w0.heap.size w0 w1) := Lib.hid (HW.out.trans (hB.mono HN.out))
      have HNW : Hid (n ≤ w1.heap.size) := Lib.hid (by have := hB.size; omega)
      clear hWS hB hn HW HP
      go_loopg [27] ts.length (fun kq v27 W => ∃ (j : Nat) (s : Wst), v27 = .int .i64 j ∧ j ≤ ts.length ∧ kq = ts.length - j ∧ s.pos ≤ 3744 ∧ Hid (WS W n s) ∧ Hid (Wok s) ∧ Hid (s.out.length ≤ 3 * j) ∧ Hid (posM 1 s.pos (ts.drop j) = .ok qe) ∧ Hid ((ts.drop j).foldl putM s = ts.foldl putM w0M) ∧ Hid (Below w0.heap.size w0 W) ∧ Hid (n ≤ W.heap.size))
      case atStart => exact ⟨0, w0M, rfl, by omega, rfl, by simp [w0M], HS, Lib.hid w0_ok, Lib.hid (by simp [w0M]), HP0, Lib.hid rfl, HW1, HNW⟩
      case round =>
        clear HS HW1 HNW
        obtain ⟨j, s, rfl, hj, hkq, hpos, HS, HOK, HL, HP, HG, HW, HNW⟩ := hrel
        by_cases hlt : j < ts.length
        · have hdrop : ts.drop j = ts[j] :: ts.drop (j + 1) := List.drop_eq_getElem_cons hlt
          have hP := HP.out
          have hG := HG.out
          rw [hdrop, pos_step] at hP
          rw [hdrop] at hG
          obtain ⟨t, htj⟩ : ∃ t, ts[j] = t := ⟨_, rfl⟩
          rw [htj] at hP hG
          obtain ⟨ad, e, -⟩ := HT.out.at_ j hlt
          subst e
          obtain ⟨h0, h1, h2, h3⟩ := (HT.out.below HW.out).tok j hlt t htj
          have hli : (j : Int) < ts.length := by omega
          clear htj hdrop HP HG
          cases hv : validM t s.pos 1 with
          | error e => rw [hv] at hP; cases hP
          | ok q =>
            rw [hv] at hP
            have HP := Lib.hid (show posM 1 q (ts.drop (j + 1)) = .ok qe from hP)
            have HG := Lib.hid hG
            have HV := Lib.hid hv
            have hq := validM_bd hv
            have hpo := put_ok HOK.out hv
            have hpl := put_len s t
            have hLn := HL.out
            have hs1 := HNW.out
            have HPO := Lib.hid hpo
            have HPL := Lib.hid hpl
            clear hv hP hG hpo hpl
            go_wp2_with (go_at_call 48; refine (put_any _ n s t q 1 (HS.out.below (one_alloc _ _)) (by simp; omega) HOK.out (by omega) HV.out).mono ?_; rintro e w2 ⟨rfl, hS2, hB2⟩)
            have HL2 : Hid ((putM s t).out.length ≤ 3 * (j + 1)) := Lib.hid (by have := HPL.out; omega)
            have HPQ := HPO.out.2
            go_roundg (ts.length - (j + 1))
            case measure => omega
            case rel => exact ⟨j + 1, putM s t, by go_num, by omega, rfl, by rw [HPQ]; omega, Lib.hid hS2, Lib.hid HPO.out.1, HL2, by rw [HPQ]; exact HP, HG, Lib.hid ((below_al HW.out _).trans (hB2.mono HN.out)), Lib.hid (by have h1 := hB2.size; have h2 := HNW.out; simp at h1; omega)⟩
        · obtain rfl : j = ts.length := by omega
          have hG := HG.out
          rw [List.drop_length, List.foldl_nil] at hG
          subst hG
          have hBB : Below (w.alloc (.cells #[.int .i64 0] 24)).heap.size (w.alloc (.cells #[.int .i64 0] 24)) wr := by rw [HW0.out]; exact HW.out
          obtain ⟨g0, gf0, -, -⟩ := door_fault w wr 0 hBB
          obtain ⟨gcell, gbelow⟩ := door_ok w wr hBB
          have hwn : w.heap.size < n + 4 := by have := HN.out; rw [← HW0.out] at this; simp at this; omega
          have GC := Lib.hid gcell
          have GB := Lib.hid gbelow
          have HWN := Lib.hid hwn
          clear hBB gcell gbelow hwn
          go_wp2_with (go_at_call 49; refine (end_any _ n _ HS.out).mono ?_; rintro e w2 ⟨v, rfl, rfl, hO⟩)
          refine leaves_cons (f := 35) (args := #[.pointer (some ⟨w.heap.size, 0, none⟩)]) (by simp) (by simp [go_sem]) ?_
          refine (caught_idle _ _).mono ?_
          rintro e u' w'' ⟨rfl, rfl, rfl⟩
          have gcell := GC.out
          have hrow := World.ownsRow.alloc (own_weak (base' := w.heap.size) (own_st (u := .int .i64 0) (p := ⟨w.heap.size, 0, none⟩) hO HWN.out) (Nat.le_of_lt HWN.out)) (.cells #[.int .i64 0] 71)
          simp [Leaves, settle, results, Try.results21, go_sem, gcell]
          exact ⟨hrow, GB.out⟩
end Go.Proofs.Ytmlgjilflpdffaa
