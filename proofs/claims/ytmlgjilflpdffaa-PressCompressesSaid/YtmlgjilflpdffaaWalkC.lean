/- Walks: tokens. -/
import Derived.Test.YtmlgjilflpdffaaWalkB
namespace Go.Proofs.Ytmlgjilflpdffaa
open Go.RowKit Go.Deep
set_option linter.unusedVariables false
set_option linter.unusedSimpArgs false

/-- The cells of a token, of a list of tokens. -/
def tokCells (t : Tok) : List Value := [.bool t.copy, .int .u8 t.byte, .int .i64 t.back, .int .i64 t.many]
def toksCells (l : List Tok) : List Value := l.flatMap tokCells
theorem toksCells_snoc (l : List Tok) (t : Tok) : toksCells (l ++ [t]) = toksCells l ++ tokCells t := by simp [toksCells]

/-- A slice of tokens that is read. -/
structure RdT (w : World) (A : Option Addr) (n : Nat) (ts : List Tok) : Prop where
  len : ts.length = n
  max : n ≤ 9223372036854775807
  at_ : ∀ j (h : j < ts.length), ∃ ad, A = some ad ∧ w.cell? (ad.add (j * 4)) = some (.bool ts[j].copy) ∧ w.cell? ⟨(ad.add (j * 4)).block, (ad.add (j * 4)).off + 1, none⟩ = some (.int .u8 ts[j].byte) ∧
    w.cell? ⟨(ad.add (j * 4)).block, (ad.add (j * 4)).off + 2, none⟩ = some (.int .i64 ts[j].back) ∧ w.cell? ⟨(ad.add (j * 4)).block, (ad.add (j * 4)).off + 3, none⟩ = some (.int .i64 ts[j].many)
theorem RdT.below {w w' : World} {A : Option Addr} {n : Nat} {ts : List Tok} (h : RdT w A n ts) (hb : Below w.heap.size w w') : RdT w' A n ts :=
  ⟨h.len, h.max, fun j hj => let ⟨ad, e, h0, h1, h2, h3⟩ := h.at_ j hj; ⟨ad, e, cell_keep hb h0, cell_keep hb h1, cell_keep hb h2, cell_keep hb h3⟩⟩
theorem toksCells_get (ts : List Tok) : ∀ (j : Nat) (h : j < ts.length) (i : Nat) (u : Value), (tokCells ts[j])[i]? = some u → (toksCells ts)[j * 4 + i]? = some u := by
  induction ts with
  | nil => intro j h; simp at h
  | cons t ts ih =>
    intro j h i u hu
    cases j with
    | zero =>
      have hi : i < (tokCells t).length := by
        rcases Nat.lt_or_ge i (tokCells t).length with h' | h'
        · exact h'
        · simp only [List.getElem_cons_zero] at hu; rw [List.getElem?_eq_none h'] at hu; cases hu
      simp only [toksCells, List.flatMap_cons, Nat.zero_mul, Nat.zero_add]
      rw [List.getElem?_append_left hi]
      exact hu
    | succ j =>
      have := ih j (by simpa using h) i u hu
      simp only [toksCells, List.flatMap_cons]
      rw [List.getElem?_append_right (by simp [tokCells]; omega)]
      rw [← this]
      congr 1
      simp [tokCells]; omega
theorem own_toks {w : World} {base n : Nat} {v : Value} {ts : List Tok} (h : w.ownsRow base 35 4 v n (toksCells ts)) (hl : ts.length = n) (hm : n ≤ 9223372036854775807) :
    ∃ A c, v = .slice A n c ∧ n ≤ c ∧ RdT w A n ts := by
  have h0 := h
  obtain ⟨h1, ⟨rfl, rfl⟩ | ⟨g, cap, cur, rfl, hg, hh, hle, r⟩⟩ := h
  · exact ⟨none, 0, rfl, Nat.le_refl _, ⟨hl, hm, fun j hj => by omega⟩⟩
  · refine ⟨some ⟨g, 0, none⟩, cap, rfl, hle, ⟨hl, hm, fun j hj => ⟨_, rfl, ?_⟩⟩⟩
    have hc := fun i u hu => h0.cells (g := g) rfl _ _ (toksCells_get ts j hj i u hu)
    have hadd : ∀ k, (⟨g, 0, none⟩ : Addr).add k = ⟨g, k, none⟩ := fun k => by rw [Addr.add_lit]; simp
    simp only [hadd] at hc ⊢
    exact ⟨hc 0 _ rfl, hc 1 _ rfl, hc 2 _ rfl, hc 3 _ rfl⟩

/-- How 'tokens' ends. -/
def TokEnd (w : World) (r : Except Int (List Tok × Int)) (e : Ending) (w' : World) : Prop :=
  (match r with
    | .error k => e = fault k
    | .ok (ts, p) => ∃ v, e = .returned (.tuple #[v, .int .i64 p]) ∧ w'.ownsRow w.heap.size 35 4 v ts.length (toksCells ts)) ∧ Below w.heap.size w w'

theorem news_cells (w : World) (cs : List Value) (e : TypeId) : ∀ j u, cs[j]? = some u → (w.alloc (.cells cs.toArray e)).cell? ((⟨w.heap.size, 0, none⟩ : Addr).add j) = some u := by
  intro j u hu
  rw [Addr.add_lit, cell_of_row _ _ _ cs.toArray e (0, 0) (heap_alloc_new w _)]
  simpa using hu
theorem tok_one (t : Tok) : ∀ u ∈ tokCells t, u.oneCell' = true := by
  intro u hu
  simp only [tokCells, List.mem_cons, List.not_mem_nil, or_false] at hu
  rcases hu with rfl | rfl | rfl | rfl <;> rfl

theorem info35 : (Try.prog.info? 35).map (fun i => (i.zero, i.size, i.bytes)) = some (some (.agg #[(.bool false), (.int .u8 0), (.int .i64 0), (.int .i64 0)]), 4, 24) := by kernel_rfl
theorem info5 : (Try.prog.info? 5).map (fun i => (i.zero, i.size, i.bytes)) = some (some (.int .u8 0), 1, 1) := by kernel_rfl

theorem validM_bd {t : Tok} {p k q : Int} (h : validM t p k = .ok q) : p < q ∧ q ≤ 3744 := by
  unfold validM at h
  repeat' split at h
  all_goals first | (cases h; omega) | cases h

theorem tokM_len {xs r : List Int} {b : Bool} {p : Int} {t : Tok} (ht : tokM xs b p = .ok (t, r)) : r.length + 1 ≤ xs.length := by
  cases b with
  | false =>
    cases xs with
    | nil => cases ht
    | cons x r => cases ht; simp
  | true =>
    match xs with
    | [] => cases ht
    | [x] => cases ht
    | x :: y :: r => cases ht; simp only [List.length_cons]; omega

theorem groupM_len : ∀ (k : Nat) (h i : Int) (xs : List Int) (p : Int) (out : List Tok) (j : Int) (ys : List Int) (q : Int) (out' : List Tok), groupM k h i xs p out = .ok (j, ys, q, out') → ys.length ≤ xs.length ∧ out'.length + ys.length ≤ out.length + xs.length := by
  intro k
  induction k with
  | zero =>
    intro h i xs p out j ys q out' H
    cases H
  | succ k ih =>
    intro h i xs p out j ys q out' H
    unfold groupM at H
    split at H
    · split at H
      · cases H
      · rename_i t r ht
        split at H
        · cases H
        · have h1 := ih _ _ _ _ _ _ _ _ _ H
          have h2 := tokM_len ht
          simp at h1
          omega
    · cases H
      exact ⟨Nat.le_refl _, Nat.le_refl _⟩

theorem and1_u8 (x : Int) (h0 : 0 ≤ x) (h1 : x < 256) : bits .and .u8 x 1 = x % 2 := bits_mask .u8 8 (by decide) wraps_u8 1 (by decide) x h0 h1
theorem shr_u8 (h i : Int) (h0 : 0 ≤ h) (h1 : h ≤ 255) : 0 ≤ h / 2 ^ i.toNat ∧ h / 2 ^ i.toNat ≤ 255 := by
  have hp : (0 : Int) < 2 ^ i.toNat := Int.pow_pos (by decide)
  exact ⟨Int.ediv_nonneg h0 (by omega), by have := Int.ediv_le_self (2 ^ i.toNat) h0; omega⟩

theorem from1 (A : Option Addr) (n c : Nat) (h : 1 ≤ n) : ∃ A', (∀ w, (Instr.slice 22 (.slice A n c) (some (.int .i64 1)) none none).run Try.prog w = .ok (.slice A' (n - 1) (c - 1)) w) ∧
    ∀ w xs, Rd w .u8 A n xs → n ≤ c → Rd w .u8 A' (n - 1) (xs.drop 1) :=
  ⟨_, run_from22 A n c 1 h, fun w xs hr hc => hr.drop hc 1 h⟩

set_option maxRecDepth 100000 in
set_option maxHeartbeats 4000000 in
theorem tokens_any (A : Option Addr) (c : Nat) (xs : List Int) (r : Except Int (List Tok × Int)) (w : World) (hc : xs.length ≤ c) (hr : Rd w .u8 A xs.length xs) (hb : Bytes xs)
    (hsz : xs.length ≤ 5864062014805) (h : tokensM (xs.length + 1) xs 0 [] = r) :
    Calls Try.prog 36 #[.slice A xs.length c] w (TokEnd w r) := by
  obtain ⟨i0, hi, hz0, hz1, hz2⟩ := info_parts info35
  have H := Lib.hid h
  have HR := Lib.hid hr
  have HB := Lib.hid hb
  have HW := Lib.hid (Below.refl w.heap.size w)
  clear h hr hb
  go_enter Try.func36, Try.ntmps36
  go_wp2
  go_loopg [0, 4, 5] (xs.length + 1) (fun kq v0 v4 v5 W => ∃ (A1 : Option Addr) (c1 : Nat) (ys : List Int) (ts : List Tok) (p : Int), v0 = .slice A1 ys.length c1 ∧ v5 = .int .i64 p ∧ ys.length ≤ c1 ∧ 0 ≤ p ∧ p ≤ 3744 ∧
    Hid (Rd w .u8 A1 ys.length ys) ∧ Hid (Bytes ys) ∧ Hid (tokensM kq ys p ts = r) ∧ Hid (W.ownsRow w.heap.size 35 4 v4 ts.length (toksCells ts)) ∧ Hid (Below w.heap.size w W) ∧ Hid (ts.length + ys.length ≤ xs.length) ∧ Hid (ys.length < kq))
  case atStart => exact ⟨A, c, xs, [], 0, rfl, rfl, hc, by omega, by omega, HR, HB, H, Lib.hid (World.ownsRow_nil _ _ _ _), HW, Lib.hid (by simp), Lib.hid (by omega)⟩
  case round =>
    clear H HR HB HW
    obtain ⟨A1, c1, ys, ts, p, rfl, rfl, hc1, h0, hp, HR, HB, H, HO, HW, HL, HK⟩ := hrel
    cases gk with
    | zero => exact absurd HK.out (by omega)
    | succ k =>
      cases ys with
      | nil =>
        go_wp2
        go_ret2
        have h1 := H.out
        simp only [tokensM] at h1
        subst h1
        exact ⟨⟨_, rfl, HO.out⟩, HW.out⟩
      | cons hd ys =>
        have hx := HB.out hd (by simp)
        have hlen := HR.out.max
        have b0 : 0 < ys.length + 1 := by omega
        obtain ⟨ad, e0, hcell⟩ := (HR.out.below HW.out).at_ 0 (by simp)
        cases e0
        rw [Addr.add_zero'] at hcell
        simp only [List.getD_cons_zero] at hcell
        simp only [List.length_cons] at *
        obtain ⟨A2, hsl, hA2⟩ := from1 (some ad) (ys.length + 1) c1 (by omega)
        have HR2 := Lib.hid (hA2 _ _ HR.out hc1)
        simp only [List.drop_succ_cons, List.drop_zero, Nat.add_sub_cancel] at HR2 hsl
        clear hA2
        obtain ⟨g, hg⟩ : ∃ g, groupM 9 hd 0 ys p ts = g := ⟨_, rfl⟩
        have HG := Lib.hid hg
        have HH : Hid (afterM (tokensM k) hd g = r) := Lib.hid (by rw [← hg]; exact H.out)
        clear hg H
        have HB2 : Hid (Bytes ys) := Lib.hid (fun x hx => HB.out x (by simp [hx]))
        clear HR HB
        go_wp2
        go_loopg [0, 4, 5, 7] 9 (fun kq v0 v4 v5 v7 W => ∃ (A1 : Option Addr) (c1 : Nat) (zs : List Int) (us : List Tok) (q i : Int), v0 = .slice A1 zs.length c1 ∧ v5 = .int .i64 q ∧ v7 = .int .i64 i ∧ zs.length ≤ c1 ∧ 0 ≤ q ∧ q ≤ 3744 ∧ 0 ≤ i ∧ i ≤ 8 ∧
          Hid (Rd w .u8 A1 zs.length zs) ∧ Hid (Bytes zs) ∧ Hid (groupM kq hd i zs q us = g) ∧ Hid (W.ownsRow w.heap.size 35 4 v4 us.length (toksCells us)) ∧ Hid (Below w.heap.size w W) ∧ Hid (us.length + zs.length ≤ xs.length ∧ zs.length ≤ ys.length) ∧ Hid (8 < kq + i))
        case atStart => exact ⟨A2, c1 - 1, ys, ts, p, 0, rfl, rfl, rfl, by omega, h0, hp, by omega, by omega, HR2, HB2, HG, HO, HW, Lib.hid (by have := HL.out; omega), Lib.hid (by omega)⟩
        case round =>
          clear HG HR2 HB2 HO HW
          obtain ⟨A3, c3, zs, us, q, i, rfl, rfl, rfl, hc3, hq0, hq, hi0, hi8, HR, HB, HG, HO, HW, HL2, HK2⟩ := hrel
          cases gk with
          | zero => exact absurd HK2.out (by omega)
          | succ k2 =>
            have hs8 := shr_u8 hd i hx.1 hx.2
            have hand := and1_u8 (hd / 2 ^ i.toNat) hs8.1 (by omega)
            by_cases hin : i < 8 ∧ zs ≠ []
            · obtain ⟨h8, hne⟩ := hin
              have hpos : 0 < zs.length := by cases zs with | nil => exact absurd rfl hne | cons _ _ => simp
              obtain ⟨b, hbv⟩ : ∃ b, bit hd i = b := ⟨_, rfl⟩
              have hbit : (bits BinOp.and IntKind.u8 (hd / 2 ^ i.toNat) 1 == 1) = b := by rw [← hbv, hand, bit]; rfl
              have HG1 := HG.out
              unfold groupM at HG1
              rw [if_pos ⟨h8, hne⟩, hbv] at HG1
              clear HG hbv hand hne
              cases ht : tokM zs b q with
              | error e =>
                rw [ht] at HG1
                have HT := Lib.hid ht
                have HG2 := Lib.hid HG1
                clear ht HG1
                go_wp2_with (go_at_call 50; refine (token_err _ _ _ zs _ _ e _ (HR.out.below HW.out) HT.out).mono ?_; rintro e w' ⟨rfl, hb⟩)
                exact ⟨rfl, ⟨by have h1 := HH.out; rw [← HG2.out] at h1; rw [← h1]; rfl, below_then HW.out HW.out.size hb⟩⟩
              | ok tr =>
                obtain ⟨t, rest⟩ := tr
                rw [ht] at HG1
                simp only at HG1
                cases hv : validM t q 4 with
                | error e =>
                  rw [hv] at HG1
                  have HT := Lib.hid ht
                  have HV := Lib.hid hv
                  have HG2 := Lib.hid HG1
                  clear ht HG1 hv
                  go_wp2_with (first | (go_at_call 50; refine (token_ok _ _ _ zs rest _ _ t _ hc3 (by omega) (HR.out.below HW.out) HB.out HT.out).mono ?_; rintro e w1 ⟨A', c', rfl, hc', hR', hB'⟩) | (go_at_call 41; refine (valid_err t _ _ e _ hq0 hq HV.out).mono ?_; rintro e w2 ⟨rfl, hb2⟩))
                  exact ⟨rfl, ⟨by have h1 := HH.out; rw [← HG2.out] at h1; rw [← h1]; rfl, below_then (below_al (below_then HW.out HW.out.size hB') _) (by simp; have := HW.out.size; have := hB'.size; omega) hb2⟩⟩
                | ok q2 =>
                  rw [hv] at HG1
                  have HT := Lib.hid ht
                  have HV := Lib.hid hv
                  have HG2 := Lib.hid HG1
                  have HQ := validM_bd hv
                  clear ht HG1 hv
                  go_wp2_with (first | (go_at_call 50; refine (token_ok _ _ _ zs rest _ _ t _ hc3 (by omega) (HR.out.below HW.out) HB.out HT.out).mono ?_; rintro e w1 ⟨A', c', rfl, hc', hR', hB'⟩) | (go_at_call 41; refine (valid_ok t _ _ q2 _ hq0 hq HV.out).mono ?_; rintro e w2 ⟨rfl, hb2⟩; obtain ⟨hc2, hf2⟩ := bcell hb2; have HO2 := Lib.hid (own_keep (World.ownsRow.alloc (own_keep HO.out hB') _) hb2); have HW2 := Lib.hid (below_then (below_al (below_then HW.out HW.out.size hB') _) (by simp; have := HW.out.size; have := hB'.size; omega) hb2)) | (at_builtin; refine wpList_append_own _ rfl _ _ 31 rfl w.heap.size 35 i0 _ 4 24 Try.underlying31 hi hz0 hz1 hz2 rfl (by decide) _ us.length (toksCells us) rfl (World.ownsRow.alloc HO2.out _) ⟨w2.heap.size, 0, none⟩ 1 1 (tokCells t) rfl rfl (news_cells _ (tokCells t) _) (tok_one t) (by have := HL2.out; simp only [maxLen]; omega) (by have := HL2.out; omega) (by have := HW2.out.size; simp; omega) ?_; intro v3 w3 hown3 hgrow3 _))
                  have hl := tokM_len HT.out
                  have hl2 := HL2.out
                  have hk2 := HK2.out
                  go_roundg k2
                  case measure => omega
                  case rel => exact ⟨A', c', rest, us ++ [t], q2, i + 1, rfl, rfl, rfl, hc', by omega, by omega, by omega, by omega, Lib.hid (hR' w HR.out), Lib.hid (tokM_bytes HT.out HB.out), HG2, Lib.hid (by rw [List.length_append, toksCells_snoc]; exact hown3), Lib.hid ((below_al HW2.out _).grown hgrow3 (by simp; have := HW2.out.size; omega) (fun kk hk => (HO2.out.lt kk hk).1)), Lib.hid (by simp; omega), Lib.hid (by omega)⟩
            · have hg0 : g = .ok (i, zs, q, us) := by
                have h1 := HG.out
                unfold groupM at h1
                rw [if_neg hin] at h1
                exact h1.symm
              have hrr := HH.out
              rw [hg0] at hrr
              simp only [afterM] at hrr
              have hm3 := HR.out.max
              have hl2 := HL2.out
              have hkk := HK.out
              have hi2 : i = 0 ∨ ¬ i = 0 := by omega
              by_cases hi00 : i = 0
              · rw [if_pos (.inl hi00)] at hrr
                subst hi00
                have hz : zs = [] := by
                  cases zs with
                  | nil => rfl
                  | cons a l => exact absurd ⟨by omega, by simp⟩ hin
                subst hz
                have HRR := Lib.hid hrr
                clear hrr hg0 hin hi2 HG
                simp only [List.length_nil] at *
                go_wp2
                exact ⟨rfl, ⟨by rw [← HRR.out]; rfl, HW.out⟩⟩
              · by_cases hsh : hd / 2 ^ i.toNat = 0
                · rw [if_neg (by rintro (h | h); exact hi00 h; exact h hsh)] at hrr
                  have HRR := Lib.hid hrr
                  clear hrr hg0 hi2 HG
                  by_cases h8 : i < 8
                  · have hz : zs = [] := by
                      cases zs with
                      | nil => rfl
                      | cons a l => exact absurd ⟨h8, by simp⟩ hin
                    subst hz
                    clear hin
                    simp only [List.length_nil] at *
                    go_wp2
                    go_roundg k
                    case measure => omega
                    case rel => exact ⟨A3, c3, [], us, q, rfl, rfl, by simp, hq0, hq, HR, HB, HRR, HO, HW, Lib.hid (by simp; omega), Lib.hid (by simp; omega)⟩
                  · clear hin
                    go_wp2
                    go_roundg k
                    case measure => omega
                    case rel => exact ⟨A3, c3, zs, us, q, rfl, rfl, hc3, hq0, hq, HR, HB, HRR, HO, HW, Lib.hid (by omega), Lib.hid (by omega)⟩
                · rw [if_pos (.inr hsh)] at hrr
                  have hshb : (hd / 2 ^ i.toNat != 0) = true := by simpa using hsh
                  have hi0b : (i == 0) = false := by simpa using hi00
                  have HRR := Lib.hid hrr
                  clear hrr hg0 hi2 HG
                  by_cases h8 : i < 8
                  · have hz : zs = [] := by
                      cases zs with
                      | nil => rfl
                      | cons a l => exact absurd ⟨h8, by simp⟩ hin
                    subst hz
                    clear hin
                    simp only [List.length_nil] at *
                    go_wp2
                    exact ⟨rfl, ⟨by rw [← HRR.out]; rfl, HW.out⟩⟩
                  · clear hin
                    go_wp2
                    exact ⟨rfl, ⟨by rw [← HRR.out]; rfl, HW.out⟩⟩
end Go.Proofs.Ytmlgjilflpdffaa
