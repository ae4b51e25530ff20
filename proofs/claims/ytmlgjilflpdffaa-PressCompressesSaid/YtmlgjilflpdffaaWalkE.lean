/- Walks: Size, Expand. -/
import Derived.Test.YtmlgjilflpdffaaWalkD
namespace Go.Proofs.Ytmlgjilflpdffaa
open Go.RowKit Go.Deep
set_option linter.unusedVariables false
set_option linter.unusedSimpArgs false

theorem own_ne_type {w : World} {base : Nat} {e e' : TypeId} {size n : Nat} {v : Value} {xs : List Value} {b : Nat} {cs : Array Value} {fz : Nat × Nat} (h : w.ownsRow base e size v n xs) (hb : w.heap[b]? = some (.cells cs e' fz)) (hne : e ≠ e') : ∀ k, v.ownBlock = some k → k ≠ b := by
  rintro k hk rfl
  obtain ⟨h1, ⟨rfl, rfl⟩ | ⟨g, cap, cur, rfl, hg, hh, r⟩⟩ := h
  · simp [Value.ownBlock] at hk
  · have : g = k := by simpa [Value.ownBlock] using hk
    subst this
    rw [hh] at hb
    cases hb
    exact hne rfl

/-- What the door of a function with a deferred 'caught' leaves, behind a fault. -/
theorem door_fault (w w1 : World) (k : Int) (hB : Below (w.alloc (.cells #[.int .i64 0] 24)).heap.size (w.alloc (.cells #[.int .i64 0] 24)) w1) :
    w1.cell? ⟨w.heap.size, 0, none⟩ = some (.int .i64 0) ∧ w1.frozen? ⟨w.heap.size, 0, none⟩ = false ∧
    ((w1.alloc (.cells #[.int .i64 k] 71)).setCell ⟨w.heap.size, 0, none⟩ (.int .i64 k)).cell? ⟨w.heap.size, 0, none⟩ = some (.int .i64 k) ∧
    Below w.heap.size w ((w1.alloc (.cells #[.int .i64 k] 71)).setCell ⟨w.heap.size, 0, none⟩ (.int .i64 k)) := by
  obtain ⟨hc1, hf1⟩ := bcell hB
  have hsz1 : w.heap.size < w1.heap.size := by have := hB.size; simp at this; omega
  have h0 : w1.cell? ⟨w.heap.size, 0, none⟩ = some (.int .i64 0) := by rw [hc1 _ _ (by simp)]; simp [go_sem]
  have hf0 : w1.frozen? ⟨w.heap.size, 0, none⟩ = false := by rw [hf1 _ _ (by simp)]; simp [go_sem]
  refine ⟨h0, hf0, ?_, below_st (below_al (below_then (one_alloc _ _) (by simp) hB) _) (Nat.le_refl _)⟩
  rw [World.cell?_setCell_same']
  rw [World.cell?_alloc_past _ _ _ hsz1, h0]; rfl

/-- .. and behind a return that has laid the error 0. -/
theorem door_ok (w w1 : World) (hB : Below (w.alloc (.cells #[.int .i64 0] 24)).heap.size (w.alloc (.cells #[.int .i64 0] 24)) w1) :
    ((w1.setCell ⟨w.heap.size, 0, none⟩ (.int .i64 0)).alloc (.cells #[.int .i64 0] 71)).cell? ⟨w.heap.size, 0, none⟩ = some (.int .i64 0) ∧
    Below w.heap.size w ((w1.setCell ⟨w.heap.size, 0, none⟩ (.int .i64 0)).alloc (.cells #[.int .i64 0] 71)) := by
  obtain ⟨hc1, hf1⟩ := bcell hB
  have hsz1 : w.heap.size < w1.heap.size := by have := hB.size; simp at this; omega
  have h0 : w1.cell? ⟨w.heap.size, 0, none⟩ = some (.int .i64 0) := by rw [hc1 _ _ (by simp)]; simp [go_sem]
  refine ⟨?_, below_al (below_st (below_then (one_alloc _ _) (by simp) hB) (Nat.le_refl _)) _⟩
  rw [World.cell?_alloc_past _ _ _ (by simpa using hsz1), World.cell?_setCell_same' _ _ _ (by rw [h0]; rfl)]

set_option maxRecDepth 100000 in
set_option maxHeartbeats 1000000 in
theorem Size_err (A : Option Addr) (c : Nat) (xs : List Int) (k : Int) (w : World) (hc : xs.length ≤ c) (hr : Rd w .u8 A xs.length xs) (hb : Bytes xs)
    (hsz : xs.length ≤ 5864062014805) (h : tokensM (xs.length + 1) xs 0 [] = .error k) :
    Calls Try.prog 26 #[.slice A xs.length c] w fun e w' => e = .returned (.tuple #[.int .i64 0, .int .i64 k]) ∧ Below w.heap.size w w' := by
  have H := Lib.hid (tokens_err A c xs k (w.alloc (.cells #[.int .i64 0] 24)) hc (hr.below (one_alloc _ _)) hb hsz h)
  clear h hr hb
  go_enter_defers Try.func26, Try.ntmps26
  go_wp2_with (go_at_call 36; refine H.out.mono ?_; rintro e w1 ⟨rfl, hB⟩)
  obtain ⟨h0, hf0, hcell, hbelow⟩ := door_fault w w1 k hB
  refine leaves_cons (f := 35) (args := #[.pointer (some ⟨w.heap.size, 0, none⟩)]) (by simp) (by simp [go_sem]) ?_
  refine (caught_panicking w.heap.size 0 k [] _ h0 hf0).mono ?_
  rintro e u' w'' ⟨rfl, rfl, rfl⟩
  simp [Leaves, settle, results, Try.results26, go_sem, hcell]
  exact hbelow

set_option maxRecDepth 100000 in
set_option maxHeartbeats 1000000 in
theorem Size_ok (A : Option Addr) (c : Nat) (xs : List Int) (ts : List Tok) (p : Int) (w : World) (hc : xs.length ≤ c) (hr : Rd w .u8 A xs.length xs) (hb : Bytes xs)
    (hsz : xs.length ≤ 5864062014805) (h : tokensM (xs.length + 1) xs 0 [] = .ok (ts, p)) :
    Calls Try.prog 26 #[.slice A xs.length c] w fun e w' => e = .returned (.tuple #[.int .i64 p, .int .i64 0]) ∧ Below w.heap.size w w' := by
  have H := Lib.hid (tokens_ok A c xs ts p (w.alloc (.cells #[.int .i64 0] 24)) hc (hr.below (one_alloc _ _)) hb hsz h)
  clear h hr hb
  go_enter_defers Try.func26, Try.ntmps26
  go_wp2_with (go_at_call 36; refine H.out.mono ?_; rintro e w1 ⟨v, rfl, hO, hB⟩; obtain ⟨hc1, hf1⟩ := bcell hB)
  obtain ⟨hcell, hbelow⟩ := door_ok w w1 hB
  refine leaves_cons (f := 35) (args := #[.pointer (some ⟨w.heap.size, 0, none⟩)]) (by simp) (by simp [go_sem]) ?_
  refine (caught_idle _ _).mono ?_
  rintro e u' w'' ⟨rfl, rfl, rfl⟩
  simp [Leaves, settle, results, Try.results26, go_sem, hcell]
  exact hbelow

set_option maxRecDepth 100000 in
set_option maxHeartbeats 1000000 in
theorem Expand_err (A : Option Addr) (c : Nat) (xs : List Int) (k : Int) (w : World) (hc : xs.length ≤ c) (hr : Rd w .u8 A xs.length xs) (hb : Bytes xs)
    (hsz : xs.length ≤ 5864062014805) (h : tokensM (xs.length + 1) xs 0 [] = .error k) :
    Calls Try.prog 24 #[.slice A xs.length c] w fun e w' => e = .returned (.tuple #[.slice none 0 0, .int .i64 k]) ∧ Below w.heap.size w w' := by
  have H := Lib.hid (tokens_err A c xs k (w.alloc (.cells #[.int .i64 0] 24)) hc (hr.below (one_alloc _ _)) hb hsz h)
  clear h hr hb
  go_enter_defers Try.func24, Try.ntmps24
  go_wp2_with (go_at_call 36; refine H.out.mono ?_; rintro e w1 ⟨rfl, hB⟩)
  obtain ⟨h0, hf0, hcell, hbelow⟩ := door_fault w w1 k hB
  refine leaves_cons (f := 35) (args := #[.pointer (some ⟨w.heap.size, 0, none⟩)]) (by simp) (by simp [go_sem]) ?_
  refine (caught_panicking w.heap.size 0 k [] _ h0 hf0).mono ?_
  rintro e u' w'' ⟨rfl, rfl, rfl⟩
  simp [Leaves, settle, results, Try.results24, go_sem, hcell]
  exact hbelow

set_option maxRecDepth 100000 in
set_option maxHeartbeats 4000000 in
theorem Expand_ok (A : Option Addr) (c : Nat) (xs : List Int) (ts : List Tok) (p : Int) (w : World) (hc : xs.length ≤ c) (hr : Rd w .u8 A xs.length xs) (hb : Bytes xs)
    (hsz : xs.length ≤ 5864062014805) (h : tokensM (xs.length + 1) xs 0 [] = .ok (ts, p)) (hts : ts.length ≤ 5864062014805) (hp0 : 0 ≤ p) (hp : p ≤ 3744) (hpos : posM 4 0 ts = .ok p) :
    Calls Try.prog 24 #[.slice A xs.length c] w fun e w' => ∃ v, e = .returned (.tuple #[v, .int .i64 0]) ∧ w'.ownsRow w.heap.size 5 1 v (dataM [] ts).length (nums8 (dataM [] ts)) ∧ Below w.heap.size w w' := by
  have H := Lib.hid (tokens_ok A c xs ts p (w.alloc (.cells #[.int .i64 0] 24)) hc (hr.below (one_alloc _ _)) hb hsz h)
  have HP := Lib.hid hpos
  clear h hr hb hpos
  obtain ⟨i5, h5i, h5z, h51, h5b⟩ := info_parts info5
  obtain ⟨np, rfl⟩ := Int.eq_ofNat_of_zero_le hp0
  go_enter_defers Try.func24, Try.ntmps24
  go_wp2_with (first | (go_at_call 36; refine H.out.mono ?_; rintro e w1 ⟨v, rfl, hO, hB⟩; obtain ⟨At, ct, rfl, hct, hRT⟩ := own_toks hO rfl (by omega)) | (refine wpList_make_own _ rfl _ _ 22 rfl w1.heap.size 5 i5 _ 1 Try.underlying22 h5i h5z h51 .i64 .i64 _ np rfl rfl rfl (by rw [h5b]; omega) (by simp only [maxLen]; omega) (Nat.le_refl _) ?_; intro w2 hown2 hgrow2))
  have HT := Lib.hid hRT
  have HB1 := Lib.hid hB
  have HO2 : Hid (w2.ownsRow w1.heap.size 5 1 (.slice (some ⟨w1.heap.size, 0, none⟩) 0 np) ([] : List Int).length (nums8 [])) := Lib.hid hown2
  have HW2 := Lib.hid ((Below.refl w1.heap.size w1).grown hgrow2 (Nat.le_refl _) (fun k e => by cases e))
  clear hRT hO hB H hown2 hgrow2
  go_loopg [6, 18] ts.length (fun kq v6 v18 W => ∃ (j : Nat) (out : List Int), v18 = .int .i64 j ∧ j ≤ ts.length ∧ out.length ≤ 3744 ∧ kq = ts.length - j ∧
    Hid (W.ownsRow w1.heap.size 5 1 v6 out.length (nums8 out)) ∧ Hid (Below w1.heap.size w1 W) ∧ Hid (posM 4 out.length (ts.drop j) = .ok (np : Int)) ∧ Hid (dataM out (ts.drop j) = dataM [] ts))
  case atStart => exact ⟨0, [], rfl, by omega, by simp, rfl, HO2, HW2, HP, Lib.hid rfl⟩
  case round =>
    clear HO2 HW2 HP
    obtain ⟨j, out, rfl, hj, hout, hkq, HO, HW, HP, HD⟩ := hrel
    by_cases hlt : j < ts.length
    · have hdrop : ts.drop j = ts[j] :: ts.drop (j + 1) := List.drop_eq_getElem_cons hlt
      have hP := HP.out
      have hD := HD.out
      rw [hdrop] at hP hD
      simp only [posM] at hP
      simp only [dataM] at hD
      obtain ⟨ad, rfl, h0, h1, h2, h3⟩ := (HT.out.below HW.out).at_ j hlt
      obtain ⟨t, htj⟩ : ∃ t, ts[j] = t := ⟨_, rfl⟩
      rw [htj] at hP hD h0 h1 h2 h3
      obtain ⟨tc, tb, tk, tm⟩ := t
      clear htj hdrop HP HD
      simp only at hP hD h0 h1 h2 h3
      cases hv : validM ⟨tc, tb, tk, tm⟩ (out.length : Int) 4 with
      | error e => rw [hv] at hP; cases hP
      | ok q =>
        rw [hv] at hP
        simp only at hP
        have HP := Lib.hid hP
        have hq := validM_bd hv
        cases tc with
        | false =>
          have hz : tk = 0 ∧ tm = 0 ∧ q = out.length + 1 := by
            unfold validM at hv
            simp only [if_true] at hv
            by_cases hb : tk ≠ 0 ∨ tm ≠ 0
            · rw [if_pos hb] at hv; cases hv
            · rw [if_neg hb] at hv
              by_cases hb2 : (3744 : Int) ≤ out.length
              · rw [if_pos hb2] at hv; cases hv
              · rw [if_neg hb2] at hv; cases hv; omega
          obtain ⟨rfl, rfl, hq1⟩ := hz
          have HD : Hid (dataM (out ++ [tb]) (ts.drop (j + 1)) = dataM [] ts) := Lib.hid hD
          have HQ := Lib.hid hq1
          clear hv hP hD hq1
          have hj1 : (j : Int) < ts.length := by omega
          go_wp2_with (at_builtin; refine wpList_append_own _ rfl _ _ 22 rfl w1.heap.size 5 i5 _ 1 1 Try.underlying22 h5i h5z h51 h5b rfl (by decide) _ out.length (nums8 out) rfl (World.ownsRow.alloc (World.ownsRow.alloc HO.out _) _) ⟨wr.heap.size + 1, 0, none⟩ 1 1 [.int .u8 tb] rfl rfl (cell_new1 _ _ (by simp) _ _) (by simp [Value.oneCell']) (by simp only [maxLen]; omega) (by omega) (by have := HW.out.size; simp; omega) ?_; intro v3 w3 hown3 hgrow3 _; obtain ⟨hgc, hgf⟩ := grown_block hgrow3 wr.heap.size (by simp; omega) (fun k hk => by have := (HO.out.lt k hk).2; omega))
          have HO3 : Hid (w3.ownsRow w1.heap.size 5 1 v3 (out ++ [tb]).length (nums8 (out ++ [tb]))) := Lib.hid (by rw [List.length_append, nums8_snoc]; exact hown3)
          have HW3 : Hid (Below w1.heap.size w1 w3) := Lib.hid ((below_al (below_al HW.out _) _).grown hgrow3 (by have := HW.out.size; simp; omega) (fun kk hk => (HO.out.lt kk hk).1))
          clear hown3 hgrow3 HO HW
          go_loopg [6, 32] 0 (fun kq v6 v32 W => v6 = v3 ∧ v32 = .int .i64 0 ∧ W = w3)
          case atStart => exact ⟨rfl, rfl, rfl⟩
          case round =>
            obtain ⟨rfl, rfl, rfl⟩ := hrel
            go_wp2
            have hl : (out ++ [tb]).length = out.length + 1 := by simp
            go_roundg (ts.length - (j + 1))
            case measure => omega
            case rel => exact ⟨j + 1, out ++ [tb], by go_num, by omega, by omega, rfl, HO3, HW3, Lib.hid (by rw [hl, show ((out.length + 1 : Nat) : Int) = q from by have := HQ.out; omega]; exact HP.out), HD⟩
        | true =>
          have hz : 1 ≤ tk ∧ tk ≤ out.length ∧ 3 ≤ tm ∧ q = out.length + tm := by
            unfold validM at hv
            simp only [Bool.true_eq_false, if_false] at hv
            by_cases hb : tb ≠ 0 ∨ tk < 1 ∨ (out.length : Int) < tk ∨ tm < 3 ∨ reach out.length < tm
            · rw [if_pos hb] at hv; cases hv
            · rw [if_neg hb] at hv
              by_cases hb2 : (3744 : Int) < out.length + tm
              · rw [if_pos hb2] at hv; cases hv
              · rw [if_neg hb2] at hv; cases hv; omega
          obtain ⟨hk1, hk2, hm3, hq1⟩ := hz
          obtain ⟨mn, rfl⟩ := Int.eq_ofNat_of_zero_le (show 0 ≤ tm by omega)
          have HD : Hid (dataM (copyM tk mn out) (ts.drop (j + 1)) = dataM [] ts) := Lib.hid hD
          have HQ := Lib.hid hq1
          clear hv hP hD hq1
          have hj1 : (j : Int) < ts.length := by omega
          go_wp2
          obtain ⟨nb, hnb⟩ : ∃ nb, wr.heap.size = nb := ⟨_, rfl⟩
          have HX : Hid ((wr.alloc (.cells #[.bool true, .int .u8 tb, .int .i64 tk, .int .i64 (mn : Int)] 35)).heap[nb]? = some (.cells #[.bool true, .int .u8 tb, .int .i64 tk, .int .i64 (mn : Int)] 35 (0, 0))) := Lib.hid (by rw [← hnb]; exact heap_alloc_new wr _)
          have HO4 := Lib.hid (World.ownsRow.alloc HO.out (.cells #[.bool true, .int .u8 tb, .int .i64 tk, .int .i64 (mn : Int)] 35))
          have HW4 := Lib.hid (below_al HW.out (.cells #[.bool true, .int .u8 tb, .int .i64 tk, .int .i64 (mn : Int)] 35))
          rw [hnb]
          clear h0 h1 h2 h3 HO HW
          go_loopg [6, 32] mn (fun kq v6 v32 W => ∃ (m : Nat) (o : List Int), v32 = .int .i64 m ∧ m ≤ mn ∧ kq = mn - m ∧ Hid (o.length = out.length + m) ∧ Hid (W.ownsRow w1.heap.size 5 1 v6 o.length (nums8 o)) ∧
            Hid (Below w1.heap.size w1 W) ∧ Hid (W.heap[nb]? = some (.cells #[.bool true, .int .u8 tb, .int .i64 tk, .int .i64 (mn : Int)] 35 (0, 0))) ∧ Hid (copyM tk (mn - m) o = copyM tk mn out))
          case atStart => exact ⟨0, out, rfl, by omega, rfl, Lib.hid rfl, HO4, HW4, HX, Lib.hid rfl⟩
          case round =>
            clear HO4 HW4 HX
            obtain ⟨m, o, rfl, hm, hkm, HL, HO, HW, HX, HC⟩ := hrel
            by_cases hlm : m < mn
            · have hol := HL.out
              have hqq := HQ.out
              have hob : o.length ≤ 3744 := by omega
              have hmb : m ≤ 3744 := by omega
              obtain ⟨Ao, co, rfl, hco, hRo, -⟩ := own_bytes HO.out (by omega)
              have hidx : (((o.length : Int) - tk)).toNat < o.length := by omega
              obtain ⟨ado, rfl, hcell⟩ := hRo.at_ _ hidx
              obtain ⟨ix, hix⟩ : ∃ ix : Nat, (o.length : Int) - tk = ix := ⟨((o.length : Int) - tk).toNat, by omega⟩
              have hixlt : ix < o.length := by omega
              rw [hix] at hcell
              simp only [Int.toNat_natCast] at hcell
              have hx2 : wr.cell? ⟨nb, 2, none⟩ = some (.int .i64 tk) := by rw [cell_of_row _ _ _ _ _ _ HX.out]; rfl
              have hcop : Hid (copyM tk (mn - (m + 1)) (o ++ [o.getD ix 0]) = copyM tk mn out) := Lib.hid (by
                have := HC.out
                rw [show mn - m = (mn - (m + 1)) + 1 from by omega] at this
                simp only [copyM] at this
                rw [hix] at this
                exact this)
              obtain ⟨ex, hex⟩ : ∃ ex, o.getD ix 0 = ex := ⟨_, rfl⟩
              rw [hex] at hcell hcop
              have hmlt : (m : Int) < mn := by omega
              clear hidx hRo HC hol hqq hex
              go_wp2_with (at_builtin; refine wpList_append_own _ rfl _ _ 22 rfl w1.heap.size 5 i5 _ 1 1 Try.underlying22 h5i h5z h51 h5b rfl (by decide) _ o.length (nums8 o) rfl (World.ownsRow.alloc HO.out _) ⟨wr.heap.size, 0, none⟩ 1 1 [.int .u8 ex] rfl rfl (cell_new1 _ _ rfl _ _) (by simp [Value.oneCell']) (by simp only [maxLen]; omega) (by omega) (by have := HW.out.size; simp; omega) ?_; intro v3 w3 hown3 hgrow3 _)
              have hol := HL.out
              have hnbl : nb < wr.heap.size := (Array.getElem?_eq_some_iff.1 HX.out).1
              have hHX : Hid (w3.heap[nb]? = some (.cells #[.bool true, .int .u8 tb, .int .i64 tk, .int .i64 (mn : Int)] 35 (0, 0))) := Lib.hid (by
                rw [hgrow3.block nb (by simp; omega) (fun e => own_ne_type HO.out HX.out (by decide) nb e.symm rfl)]
                rw [heap_alloc_old _ _ hnbl]
                exact HX.out)
              go_roundg (mn - (m + 1))
              case measure => omega
              case rel => exact ⟨m + 1, o ++ [ex], by go_num, by omega, rfl, Lib.hid (by simp; omega), Lib.hid (by rw [List.length_append, nums8_snoc]; exact hown3), Lib.hid ((below_al HW.out _).grown hgrow3 (by have := HW.out.size; simp; omega) (fun kk hk => (HO.out.lt kk hk).1)), hHX, hcop⟩
            · obtain rfl : m = mn := by omega
              have hol := HL.out
              have hqq := HQ.out
              have hco : o = copyM tk m out := by have := HC.out; rw [Nat.sub_self] at this; exact this
              have HP2 : Hid (posM 4 o.length (ts.drop (j + 1)) = .ok (np : Int)) := Lib.hid (by rw [show ((o.length : Nat) : Int) = q from by omega]; exact HP.out)
              have HD2 : Hid (dataM o (ts.drop (j + 1)) = dataM [] ts) := Lib.hid (by rw [hco]; exact HD.out)
              clear hco hol hqq HC
              go_wp2
              have hol := HL.out
              have hqq := HQ.out
              go_roundg (ts.length - (j + 1))
              case measure => omega
              case rel => exact ⟨j + 1, o, by go_num, by omega, by omega, rfl, HO, HW, HP2, HD2⟩
    · obtain rfl : j = ts.length := by omega
      have hP := HP.out
      have hD := HD.out
      rw [List.drop_length] at hD
      simp only [dataM] at hD
      subst hD
      have hBW := below_then HB1.out HB1.out.size HW.out
      obtain ⟨hc1, hf1⟩ := bcell hBW
      have HBW := Lib.hid hBW
      clear hP HP HD hBW
      go_wp2
      obtain ⟨hcell, hbelow⟩ := door_ok w wr HBW.out
      refine leaves_cons (f := 35) (args := #[.pointer (some ⟨w.heap.size, 0, none⟩)]) (by simp) (by simp [go_sem]) ?_
      refine (caught_idle _ _).mono ?_
      rintro e u' w'' ⟨rfl, rfl, rfl⟩
      have hlt1 : w.heap.size < w1.heap.size := by have := HB1.out.size; simp at this; omega
      have hrow := World.ownsRow.alloc (own_weak (base' := w.heap.size) (own_st (u := .int .i64 0) (p := ⟨w.heap.size, 0, none⟩) HO.out hlt1) (Nat.le_of_lt hlt1)) (.cells #[.int .i64 0] 71)
      simp [Leaves, settle, results, Try.results24, go_sem, hcell]
      exact ⟨hrow, hbelow⟩
end Go.Proofs.Ytmlgjilflpdffaa
