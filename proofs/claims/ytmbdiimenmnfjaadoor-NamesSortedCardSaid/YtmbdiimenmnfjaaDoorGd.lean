/- Walk: Match. -/
import Derived.Test.YtmbdiimenmnfjaaDoorGc
import Derived.BigQuiet
import Derived.WalkMore
import Derived.Sort.Grow
import Derived.Sort.LoopGhostIn
import Derived.Test.YtmbdiimenmnfjaaDoorGb
namespace Go.Proofs.YtmbdiimenmnfjaaDoor
open Go.RowKit Go.Deep
open Go.BigFrame
set_option linter.unusedVariables false
set_option linter.unusedSimpArgs false

/-- A region that draws its order, at a class of worlds that is spelt by a function. -/
theorem region_quiet_f {S : Type} (f : S → World) {id : Nat} {Q : Exit → Act → World → Prop} {a : Act} {w : World} {l : List Oper} (hB : Region.lexB .any l.toArray = true) (hC : ∃ u, w.drew = f u)
    (h : wpQuiet Tryd.prog l.toArray (fun w' => ∃ u, w' = f u) (fun a' => ∀ w', (∃ u, w' = f u) → Q .normal a' w') l a) : (Code.region id l.toArray true).wp Tryd.prog Q a w :=
  wp_region_quiet (C := fun w' => ∃ u, w' = f u) (by kernel_rfl) hB hC (by simpa using h)
/-- The class of the worlds that have grown out of one. -/
theorem grown_class (wr : World) : ∃ (S : Type) (_ : Nonempty S) (f : S → World), (∀ W, Below wr.heap.size wr W → ∃ u, W = f u) ∧ (∀ u, Below wr.heap.size wr (f u)) :=
  ⟨{ W : World // Below wr.heap.size wr W }, ⟨⟨wr, Below.refl _ _⟩⟩, Subtype.val, fun W h => ⟨⟨W, h⟩, rfl⟩, fun u => u.2⟩

/-- The rounds of 'Match': the place in the pattern, in the name, the last star, from where it stands for units. -/
def mGo (p l : List Int) : Nat → Nat → Nat → Int → Nat → Bool
  | 0, _, _, _, _ => false
  | f + 1, i, k, star, fr =>
    if k < l.length then
      if i < p.length ∧ p.getD i 0 = 42 then mGo p l f (i + 1) k i k
      else if i < p.length ∧ (p.getD i 0 = 63 ∨ upM (p.getD i 0) = upM (l.getD k 0)) then mGo p l f (i + 1) (k + 1) star fr
      else if star < 0 then false else mGo p l f (star.toNat + 1) (fr + 1) star (fr + 1)
    else (p.drop i).all (fun u => decide (u = 42))
/-- What 'Match' says of units. -/
def matchU (p l : List Int) : Bool := mGo p l 10000 0 0 (-1) 0
/-- What 'Match' says. -/
def matchM (a b : ByteArray) : Bool × Int := match getU a with
  | none => (false, 4)
  | some p => if 64 < p.length then (false, 2) else if checkM b ≠ 0 then (false, checkM b) else match getU b with
    | none => (false, 0)
    | some l => (matchU p l, 0)

set_option maxRecDepth 100000 in
set_option maxHeartbeats 4000000 in
theorem match_no1 (a b : ByteArray) (ha : a.size ≤ 40000) (hb : b.size ≤ 40000) (w : World) (h : getU a = none) :
    Calls Tryd.prog 29 #[.string a, .string b] w fun e w' => e = .returned (.tuple #[.bool false, .int .i64 4]) ∧ Below w.heap.size w w' := by
  obtain ⟨r, h'⟩ := getU_none h
  have H := Lib.hid h'
  clear h h'
  go_enter Tryd.func29, Tryd.ntmps29
  go_wp2
  go_step3
  go_wp2_with (go_at_call 45; refine (read_rd a ha _ _ _ H.out).mono ?_; rintro e w1 ⟨A1, c1, rfl, hc1, hR, hB⟩; (have HB1 := Lib.hid hB); clear hR hB)
  rw [Exit.noGoto_ret]
  go_ret2
  exact ⟨rfl, HB1.out⟩

set_option maxRecDepth 100000 in
set_option maxHeartbeats 4000000 in
theorem match_no2 (a b : ByteArray) (ha : a.size ≤ 40000) (hb : b.size ≤ 40000) (w : World) (p : List Int) (h : getU a = some p) (hl : 64 < p.length) :
    Calls Tryd.prog 29 #[.string a, .string b] w fun e w' => e = .returned (.tuple #[.bool false, .int .i64 2]) ∧ Below w.heap.size w w' := by
  have H := Lib.hid (getU_some h)
  have hli : 64 < (p.length : Int) := by omega
  clear h
  go_enter Tryd.func29, Tryd.ntmps29
  go_wp2
  go_step3
  go_wp2_with (go_at_call 45; refine (read_rd a ha _ _ _ H.out).mono ?_; rintro e w1 ⟨A1, c1, rfl, hc1, hR, hB⟩; (have HB1 := Lib.hid hB); clear hR hB)
  rw [Exit.noGoto_ret]
  go_ret2
  exact ⟨rfl, HB1.out⟩

set_option maxRecDepth 100000 in
set_option maxHeartbeats 4000000 in
theorem match_no3 (a b : ByteArray) (ha : a.size ≤ 40000) (hb : b.size ≤ 40000) (w : World) (p : List Int) (h : getU a = some p) (hl : p.length ≤ 64) (hc : checkM b ≠ 0) :
    Calls Tryd.prog 29 #[.string a, .string b] w fun e w' => e = .returned (.tuple #[.bool false, .int .i64 (checkM b)]) ∧ Below w.heap.size w w' := by
  have H := Lib.hid (getU_some h)
  have hli : ¬ 64 < (p.length : Int) := by omega
  obtain ⟨C, hC⟩ : ∃ C, checkM b = C := ⟨_, rfl⟩
  rw [hC] at hc ⊢
  have HC := Lib.hid hC
  clear h hC
  go_enter Tryd.func29, Tryd.ntmps29
  go_wp2
  go_step3
  go_wp2_with (first
    | (go_at_call 45; refine (read_rd a ha _ _ _ H.out).mono ?_; rintro e w1 ⟨A1, c1, rfl, hc1, hR, hB⟩; (have HB1 := Lib.hid hB); clear hR hB)
    | (go_at_call 20; refine (check_any b (by omega) _).mono ?_; rintro e w2 ⟨rfl, hB⟩; rw [HC.out]; (have HB2 := Lib.hid (below_then HB1.out HB1.out.size hB)); clear hB))
  rw [Exit.noGoto_ret]
  go_ret2
  exact ⟨rfl, HB2.out⟩

set_option maxRecDepth 100000 in
set_option maxHeartbeats 8000000 in
theorem match_yes (a b : ByteArray) (ha : a.size ≤ 40000) (hb : b.size ≤ 40000) (w : World) (p l : List Int) (h : getU a = some p) (hl : p.length ≤ 64) (hc : checkM b = 0) (h2 : getU b = some l) :
    Calls Tryd.prog 29 #[.string a, .string b] w fun e w' => e = .returned (.tuple #[.bool (matchU p l), .int .i64 0]) ∧ Below w.heap.size w w' := by
  obtain ⟨l', hg', hr1, hr2, -, -⟩ := check_units hc
  rw [h2] at hg'
  cases hg'
  have H := Lib.hid (getU_some h)
  have H2 := Lib.hid (getU_some h2)
  have HP := Lib.hid (getU_props h).1
  have HL := Lib.hid (getU_props h2).1
  have hli : ¬ 64 < (p.length : Int) := by omega
  have HC := Lib.hid hc
  obtain ⟨R, hR⟩ : ∃ R, matchU p l = R := ⟨_, rfl⟩
  rw [hR]
  have HR : Hid (mGo p l 10000 0 0 (-1) 0 = R) := Lib.hid hR
  clear h h2 hc hR
  go_enter Tryd.func29, Tryd.ntmps29
  go_wp2
  go_step3
  go_wp2_with (first
    | ((have hgd := HB2); clear hgd; go_at_call 45; refine (read_rd b hb _ _ _ H2.out).mono ?_; rintro e w3 ⟨A2, c2, rfl, hc2, hR, hB⟩; (have HR2 := Lib.hid hR); (have HR1 := Lib.hid (HR1.out.below hB)); (have HB3 := Lib.hid (below_then HB2.out HB2.out.size hB)); clear hR hB)
    | (go_at_call 45; refine (read_rd a ha _ _ _ H.out).mono ?_; rintro e w1 ⟨A1, c1, rfl, hc1, hR, hB⟩; (have HR1 := Lib.hid hR); (have HB1 := Lib.hid hB); clear hR hB)
    | (go_at_call 20; refine (check_any b (by omega) _).mono ?_; rintro e w2 ⟨rfl, hB⟩; rw [HC.out]; (have HR1 := Lib.hid (HR1.out.below hB)); (have HB2 := Lib.hid (below_then HB1.out HB1.out.size hB)); clear hB))
  go_step3
  go_wp2
  go_loopg [11, 12, 13, 14] 10000 (fun kq v11 v12 v13 v14 W => ∃ (i k fr : Nat) (star : Int), v11 = .int .i64 star ∧ v12 = .int .i64 fr ∧ v13 = .int .i64 i ∧ v14 = .int .i64 k ∧ i ≤ p.length ∧ k ≤ l.length ∧ fr ≤ k ∧ -1 ≤ star ∧ star < p.length ∧
    (l.length + 1 - fr) * 100 + (l.length - k) + (p.length - i) < kq ∧ Hid (mGo p l kq i k star fr = R) ∧ Hid (Rd W .u16 A1 p.length p) ∧ Hid (Rd W .u16 A2 l.length l) ∧ Hid (Below w.heap.size w W))
  case atStart => exact ⟨0, 0, 0, -1, rfl, rfl, rfl, rfl, by omega, by omega, by omega, by omega, by omega, by omega, HR, HR1, HR2, HB3⟩
  case round =>
    clear HR HR1 HR2 HB3 HB2 HB1
    obtain ⟨i, k, fr, star, rfl, rfl, rfl, rfl, hi, hk, hfr, hs1, hs2, hmu, HR, HR1, HR2, HB⟩ := hrel
    cases gk with
    | zero => omega
    | succ kq =>
      have hRR := HR.out
      unfold mGo at hRR
      by_cases hkl : k < l.length
      · rw [if_pos hkl] at hRR
        have hkli : (k : Int) < l.length := by omega
        by_cases him : i < p.length
        · have himi : (i : Int) < p.length := by omega
          obtain ⟨ad1, hA, hcl1⟩ := HR1.out.at_ i him
          subst hA
          obtain ⟨ad2, hA, hcl2⟩ := HR2.out.at_ k hkl
          subst hA
          obtain ⟨x, hx⟩ : ∃ x, p.getD i 0 = x := ⟨_, rfl⟩
          obtain ⟨y, hy⟩ : ∃ y, l.getD k 0 = y := ⟨_, rfl⟩
          have hxb := HP.out.get i
          have hyb := HL.out.get k
          rw [hx] at hcl1 hxb hRR
          rw [hy] at hcl2 hyb hRR
          by_cases hstar : x = 42
          · rw [if_pos ⟨him, hstar⟩] at hRR
            have HRR := Lib.hid hRR
            subst hstar
            clear hRR hx hy
            go_wp2
            go_roundg kq
            case measure => omega
            case rel => exact ⟨i + 1, k, k, i, rfl, rfl, by simp, rfl, by omega, by omega, by omega, by omega, by omega, by omega, HRR, HR1, HR2, HB⟩
          · rw [if_neg (fun h => hstar h.2)] at hRR
            have hstarb : (x == 42) = false := by simpa using hstar
            by_cases hq : x = 63
            · rw [if_pos ⟨him, Or.inl hq⟩] at hRR
              have HRR := Lib.hid hRR
              subst hq
              clear hRR hx hy
              go_wp2
              go_region
              go_wp2
              all_goals
                go_roundg kq
                case measure => omega
                case rel => exact ⟨i + 1, k + 1, fr, star, rfl, rfl, by simp, by simp, by omega, by omega, by omega, by omega, by omega, by omega, HRR, Lib.hid (HR1.out.drewN 1), Lib.hid (HR2.out.drewN 1), Lib.hid (below_drew1 HB.out)⟩
            · have hqb : (x == 63) = false := by simpa using hq
              clear hx hy
              by_cases hxy : upM x = upM y
              · rw [if_pos ⟨him, Or.inr hxy⟩] at hRR
                have HRR := Lib.hid hRR
                have hxe : (upM x == upM y) = true := by simpa using hxy
                clear hRR hxy
                go_wp2
                obtain ⟨S, hne, f, hf1, hf2⟩ := grown_class wr
                have q1 : ∀ u, (f u).cell? (ad1.add i) = some (.int .u16 x) := fun u => cell_keep (hf2 u) hcl1
                have q2 : ∀ u, (f u).cell? (ad2.add k) = some (.int .u16 y) := fun u => cell_keep (hf2 u) hcl2
                have HF1 := Lib.hid hf1
                have HF2 := Lib.hid hf2
                clear hf1 hf2
                refine region_quiet_f f (by kernel_rfl) (HF1.out _ (below_drew1 (Below.refl _ _))) ?_
                repeat (go_big_quiet_step ((go_at_call 31; refine (up_any _ _ (by omega) (by omega)).mono ?_; rintro e w5 ⟨rfl, hB⟩; exact ⟨rfl, HF1.out _ (below_then (HF2.out _) (HF2.out _).size hB)⟩)))
                refine wpQuiet_nil ?_
                rintro W5 ⟨u, rfl⟩
                have HB5 := Lib.hid (below_then HB.out HB.out.size (HF2.out u))
                have HR15 := Lib.hid (HR1.out.below (HF2.out u))
                have HR25 := Lib.hid (HR2.out.below (HF2.out u))
                generalize f u = W5 at *
                go_wp2
                go_roundg kq
                case measure => omega
                case rel => exact ⟨i + 1, k + 1, fr, star, rfl, rfl, by simp, by simp, by omega, by omega, by omega, by omega, by omega, by omega, HRR, HR15, HR25, HB5⟩
              · rw [if_neg (fun h => by rcases h.2 with h | h; exact hq h; exact hxy h)] at hRR
                have hxe : (upM x == upM y) = false := by simpa using hxy
                clear hxy
                by_cases hst : star < 0
                · rw [if_pos hst] at hRR
                  have HRR := Lib.hid hRR
                  clear hRR
                  go_wp2
                  obtain ⟨S, hne, f, hf1, hf2⟩ := grown_class wr
                  have q1 : ∀ u, (f u).cell? (ad1.add i) = some (.int .u16 x) := fun u => cell_keep (hf2 u) hcl1
                  have q2 : ∀ u, (f u).cell? (ad2.add k) = some (.int .u16 y) := fun u => cell_keep (hf2 u) hcl2
                  have HF1 := Lib.hid hf1
                  have HF2 := Lib.hid hf2
                  clear hf1 hf2
                  refine region_quiet_f f (by kernel_rfl) (HF1.out _ (below_drew1 (Below.refl _ _))) ?_
                  repeat (go_big_quiet_step ((go_at_call 31; refine (up_any _ _ (by omega) (by omega)).mono ?_; rintro e w5 ⟨rfl, hB⟩; exact ⟨rfl, HF1.out _ (below_then (HF2.out _) (HF2.out _).size hB)⟩)))
                  refine wpQuiet_nil ?_
                  rintro W5 ⟨u, rfl⟩
                  have HB5 := Lib.hid (below_then HB.out HB.out.size (HF2.out u))
                  have HR15 := Lib.hid (HR1.out.below (HF2.out u))
                  have HR25 := Lib.hid (HR2.out.below (HF2.out u))
                  generalize f u = W5 at *
                  go_wp2
                  rw [Exit.noGoto_ret]
                  go_ret2
                  rw [← HRR.out]
                  exact ⟨rfl, HB5.out⟩
                · rw [if_neg hst] at hRR
                  have HRR := Lib.hid hRR
                  obtain ⟨st, rfl⟩ : ∃ st : Nat, star = st := ⟨star.toNat, by omega⟩
                  clear hRR
                  go_wp2
                  obtain ⟨S, hne, f, hf1, hf2⟩ := grown_class wr
                  have q1 : ∀ u, (f u).cell? (ad1.add i) = some (.int .u16 x) := fun u => cell_keep (hf2 u) hcl1
                  have q2 : ∀ u, (f u).cell? (ad2.add k) = some (.int .u16 y) := fun u => cell_keep (hf2 u) hcl2
                  have HF1 := Lib.hid hf1
                  have HF2 := Lib.hid hf2
                  clear hf1 hf2
                  refine region_quiet_f f (by kernel_rfl) (HF1.out _ (below_drew1 (Below.refl _ _))) ?_
                  repeat (go_big_quiet_step ((go_at_call 31; refine (up_any _ _ (by omega) (by omega)).mono ?_; rintro e w5 ⟨rfl, hB⟩; exact ⟨rfl, HF1.out _ (below_then (HF2.out _) (HF2.out _).size hB)⟩)))
                  refine wpQuiet_nil ?_
                  rintro W5 ⟨u, rfl⟩
                  have HB5 := Lib.hid (below_then HB.out HB.out.size (HF2.out u))
                  have HR15 := Lib.hid (HR1.out.below (HF2.out u))
                  have HR25 := Lib.hid (HR2.out.below (HF2.out u))
                  generalize f u = W5 at *
                  go_wp2
                  go_roundg kq
                  case measure => omega
                  case rel => exact ⟨st + 1, fr + 1, fr + 1, st, rfl, by simp, by simp, by simp, by omega, by omega, by omega, by omega, by omega, by omega, HRR, HR15, HR25, HB5⟩
        · rw [if_neg (fun h => him h.1), if_neg (fun h => him h.1)] at hRR
          have himi : ¬ (i : Int) < p.length := by omega
          by_cases hst : star < 0
          · rw [if_pos hst] at hRR
            have HRR := Lib.hid hRR
            clear hRR
            go_wp2
            go_region
            go_wp2
            all_goals
              rw [Exit.noGoto_ret]
              go_ret2
              rw [← HRR.out]
              exact ⟨rfl, below_drew1 HB.out⟩
          · rw [if_neg hst] at hRR
            have HRR := Lib.hid hRR
            obtain ⟨st, rfl⟩ : ∃ st : Nat, star = st := ⟨star.toNat, by omega⟩
            clear hRR
            go_wp2
            go_region
            go_wp2
            all_goals
              go_roundg kq
              case measure => omega
              case rel => exact ⟨st + 1, fr + 1, fr + 1, st, rfl, by simp, by simp, by simp, by omega, by omega, by omega, by omega, by omega, by omega, HRR, Lib.hid (HR1.out.drewN 1), Lib.hid (HR2.out.drewN 1), Lib.hid below_drew1 HB.out⟩
      · rw [if_neg hkl] at hRR
        have hkli : ¬ (k : Int) < l.length := by omega
        have HRR := Lib.hid hRR
        clear hRR HR
        go_wp2
        go_loopw [13] (fun v W => W = wr ∧ ∃ i' : Nat, v = .int .i64 i' ∧ i' ≤ p.length ∧ Hid ((p.drop i').all (fun u => decide (u = 42)) = R)) (fun v _ => p.length - (intOf v).toNat)
        case atStart => exact ⟨rfl, i, rfl, hi, HRR⟩
        case round =>
          obtain ⟨hW, i', rfl, hi', HRR⟩ := hrel
          subst wr
          by_cases him : i' < p.length
          · have himi : (i' : Int) < p.length := by omega
            obtain ⟨ad1, hA, hcl1⟩ := HR1.out.at_ i' him
            subst hA
            obtain ⟨x, hx⟩ : ∃ x, p.getD i' 0 = x := ⟨_, rfl⟩
            rw [hx] at hcl1
            have hdr : p.drop i' = x :: p.drop (i' + 1) := by rw [drop_cons him, hx]
            have hRR := HRR.out
            rw [hdr, List.all_cons] at hRR
            clear hx hdr
            by_cases hstar : x = 42
            · subst hstar
              have HR2' : Hid ((p.drop (i' + 1)).all (fun u => decide (u = 42)) = R) := Lib.hid (by simpa using hRR)
              clear hRR
              go_wp2
              exact ⟨⟨by trivial, i' + 1, by simp, by omega, HR2'⟩, by simp only [intOf]; omega⟩
            · have hstarb : (x == 42) = false := by simpa using hstar
              have HRf : Hid (R = false) := Lib.hid (by rw [← hRR]; simp [hstar])
              have hne : ((i' : Int) == p.length) = false := by simp; omega
              clear hRR
              go_wp2
              rw [Exit.noGoto_ret]
              go_ret2
              rw [HRf.out]
              exact ⟨rfl, HB.out⟩
          · have hie : i' = p.length := by omega
            subst hie
            have himi : ¬ (p.length : Int) < p.length := by omega
            have HRt : Hid (R = true) := Lib.hid (by rw [← HRR.out, List.drop_length]; rfl)
            go_wp2
            go_ret2
            rw [HRt.out]
            exact ⟨rfl, HB.out⟩

/-- 'Match', whatever the strings. -/
theorem match_any (a b : ByteArray) (ha : a.size ≤ 40000) (hb : b.size ≤ 40000) (w : World) :
    Calls Tryd.prog 29 #[.string a, .string b] w fun e w' => e = .returned (.tuple #[.bool (matchM a b).1, .int .i64 (matchM a b).2]) ∧ Below w.heap.size w w' := by
  unfold matchM
  cases h : getU a with
  | none => exact match_no1 a b ha hb w h
  | some p =>
    simp only
    by_cases hl : 64 < p.length
    · rw [if_pos hl]; exact match_no2 a b ha hb w p h hl
    · rw [if_neg hl]
      by_cases hc : checkM b = 0
      · rw [if_neg (by simp [hc])]
        obtain ⟨l, hg, -⟩ := check_units hc
        rw [hg]
        exact match_yes a b ha hb w p l h (by omega) hc hg
      · rw [if_pos hc]; exact match_no3 a b ha hb w p h (by omega) hc
end Go.Proofs.YtmbdiimenmnfjaaDoor
/- Walks: first, cmp.Or of two strings, Itoa, tries. -/
namespace Go.Proofs.YtmbdiimenmnfjaaDoor
open Go.RowKit Go.Deep
set_option linter.unusedVariables false
set_option linter.unusedSimpArgs false

/-- The first bytes of a string, at most n. -/
def firstS (s : ByteArray) (n : Nat) : ByteArray := s.extract 0 (min n s.size)
set_option maxRecDepth 100000 in
theorem first_any (s : ByteArray) (n : Nat) (hs : s.size ≤ 1000000) (hn : n ≤ 1000) (w : World) : Calls Tryd.prog 77 #[.string s, .int .i64 n] w fun e w' => e = .returned (.string (firstS s n)) ∧ w' = w := by
  have hmin : (min (n : Int) (s.size : Int)).toNat = min n s.size := by omega
  have HM := Lib.hid hmin
  clear hmin
  go_enter Tryd.func77, Tryd.ntmps77
  go_wp2
  go_ret
  refine ⟨?_, rfl⟩
  unfold firstS
  rw [← HM.out]
  rfl

set_option maxRecDepth 100000 in
set_option maxHeartbeats 1000000 in
theorem orS_any (b c : Nat) (x y : ByteArray) (w : World) (h0 : w.cell? ⟨b, 0, none⟩ = some (.string x)) (h1 : w.cell? ⟨b, 1, none⟩ = some (.string y)) (hy : ¬ y.toList = []) (hc : 2 ≤ c) :
    Calls Tryd.prog 79 #[.slice (some ⟨b, 0, none⟩) 2 c] w fun e w' => e = .returned (.string (if x.toList = [] then y else x)) ∧ w' = w := by
  have hyb : (y.toList == []) = false := by simpa using hy
  have hye : y.toList.isEmpty = false := by simpa using hy
  by_cases hx : x.toList = []
  · rw [if_pos hx]
    have hxb : (x.toList == []) = true := by simpa using hx
    have hxe : x.toList.isEmpty = true := by simpa using hx
    go_enter Tryd.func79, Tryd.ntmps79
    go_wp2
    go_loopw [8] (fun v W => W = w ∧ ∃ i : Nat, i < 2 ∧ v = .int .i64 i) (fun v _ => 2 - (intOf v).toNat)
    case atStart => exact ⟨rfl, 0, by omega, rfl⟩
    case round =>
      obtain ⟨hW, i, hi, rfl⟩ := hrel
      subst wr
      rcases (show i = 0 ∨ i = 1 by omega) with rfl | rfl
      · go_wp2
        exact ⟨⟨by trivial, 1, by omega, rfl⟩, by simp only [intOf]; omega⟩
      · go_wp2
        go_ret
        exact ⟨rfl, rfl⟩
  · rw [if_neg hx]
    have hxb : (x.toList == []) = false := by simpa using hx
    have hxe : x.toList.isEmpty = false := by simpa using hx
    go_enter Tryd.func79, Tryd.ntmps79
    go_wp2
    go_loopw [8] (fun v W => W = w ∧ v = .int .i64 0) (fun v _ => 2 - (intOf v).toNat)
    case atStart => exact ⟨rfl, rfl⟩
    case round =>
      obtain ⟨hW, rfl⟩ := hrel
      subst wr
      go_wp2
      go_ret
      exact ⟨rfl, rfl⟩

/-- The library's table of powers of ten lies as it was laid. -/
def Tab (w : World) : Prop := Lib.TabIs Tryd.prog w "internal/strconv.uint64pow10" .u64 Lib.pow10Tab
theorem Tab.below {w w' : World} (h : Tab w) (hb : Below w.heap.size w w') : Tab w' := by
  unfold Tab Lib.TabIs World.var? at h ⊢
  cases hg : Tryd.prog.globalNamed "internal/strconv.uint64pow10" with
  | none => rw [hg] at h; cases h
  | some g =>
    rw [hg] at h
    simp only [Option.bind_some] at h ⊢
    cases hh : w.heap[g]? with
    | none => rw [hh] at h; cases h
    | some o => rw [hb.block g (Array.getElem?_eq_some_iff.1 hh).1]; exact h
/-- A number in decimal. -/
def decS (n : Nat) : ByteArray := ⟨(Lib.itoa n).toArray⟩
theorem itoa_any (n : Nat) (hn : n ≤ 100000) (w : World) (ht : Tab w) : Calls Tryd.prog 80 #[.int .i64 n] w fun e w' => e = .returned (.string (decS n)) ∧ Below w.heap.size w w' :=
  (Tryd.strconv_Itoa n (by omega) (by omega) w ht).mono fun e w' ⟨h1, k, os, h2⟩ => ⟨h1, by
    rw [h2]
    refine ⟨rfl, rfl, rfl, by simp [Sort.grow], fun i hi => ?_⟩
    show ((w.drewN k).heap ++ os)[i]? = w.heap[i]?
    have e : (w.drewN k).heap = w.heap := rfl
    rw [e, Array.getElem?_append_left hi]⟩

set_option maxRecDepth 100000 in
theorem tries_any (s : ByteArray) (w : World) :
    Calls Tryd.prog 58 #[.string s] w fun e w' => e = .returned (.func (.func 76) #[] #[.pointer (some ⟨w.heap.size, 0, none⟩)]) ∧ w' = w.alloc (.cells #[.string s] 9) := by
  have hmf : ∀ (fn : Fn) (first cap : Array Value) (w : World), (Instr.makeFunc fn first cap).run Tryd.prog w = .ok (.func fn first cap) w := fun _ _ _ _ => rfl
  go_enter Tryd.func58, Tryd.ntmps58
  go_wp2
  go_ret
  exact ⟨rfl, rfl⟩
end Go.Proofs.YtmbdiimenmnfjaaDoor
/- Walk: the names that are tried, one after the other (a function that is ranged over, and stopped early). -/
namespace Go.Proofs.YtmbdiimenmnfjaaDoor
open Go.RowKit Go.Deep
set_option linter.unusedVariables false
set_option linter.unusedSimpArgs false

/-- A call of 'yield', met by what its round does. -/
theorem wpListIn_yield {l m : Nat} {ops : Array Oper} {rest : List Oper} {o : Oper} {a : Act} {Q : Exit → Act → World → Prop} {w : World} (hm : 1 ≤ m) (hw : Region.wanted o (yielded ops a.tmps) = true) (x y : Operand) (ats : Array TypeId)
    (hop : o.op = .call { callee := .value x, args := #[y], argTypes := ats }) (hx : a.eval x = .func (.yield l) #[] #[]) {v : Value} (hy : a.eval y = v) {R : Ending → World → Prop} (h : YieldAt Fence.wide (m - 1) Tryd.prog l #[v] w R)
    (hR : ∀ e w', R e w' → ∃ u, e = .returned u ∧ wpListIn Fence.wide m Tryd.prog ops Q rest (a.put o.dst u) w') : wpListIn Fence.wide m Tryd.prog ops Q (o :: rest) a w := by
  obtain ⟨fn, tmps, assign, body, hyr, hRR⟩ := h
  refine wpListIn_step fun K hK => ?_
  rw [if_pos hw]
  unfold Oper.wpIn
  refine ⟨fun f hf => trivial, ?_⟩
  rw [Oper.semAt_plain Fence.wide _ _ (by rw [hop]; intro c hc'; cases hc')]
  have hrun : (execOp a.eval o).run Tryd.prog w = .ok (.round l fn tmps assign body) w := by
    simp [execOp, hop, resolve, invoke, Deferred.ofValue, hx, hy, hyr, Result.andThen]
  rw [hrun]
  exact ⟨fun _ => hm, hRR.mono fun e w' h => by obtain ⟨u, rfl, h2⟩ := hR e w' h; exact hK _ _ h2⟩

/-- The last dot that is not at the head; 0 if there is none. -/
def dotU (l : List Int) : Nat → Nat
  | 0 => 0
  | k + 1 => if l.getD (k + 1) 0 = 46 then k + 1 else dotU l k
def dotOf (l : List Int) : Nat := dotU l (l.length - 1)
def upS (l : List Int) : ByteArray := mkB (textM (l.map upM))
def baseU (l : List Int) : List Int := if dotOf l = 0 then l else l.take (dotOf l)
def end0 (l : List Int) : ByteArray := if dotOf l = 0 then ByteArray.empty else firstS (mkB (shortenedM (l.drop (dotOf l + 1)))) 3
def endS (l : List Int) : ByteArray := if (end0 l).toList = [] then end0 l else ⟨#[46]⟩ ++ end0 l
def baseS (l : List Int) : ByteArray := if (mkB (shortenedM (baseU l))).toList = [] then ⟨#[95]⟩ else mkB (shortenedM (baseU l))
/-- The name that is tried with a number. -/
def tryN (l : List Int) (n : Nat) : ByteArray := firstS (baseS l) (7 - (decS n).size) ++ ⟨#[126]⟩ ++ decS n ++ endS l
/-- The names that are tried. -/
def triesM (l : List Int) : List ByteArray := (if isShortM (upS l) = true then [upS l] else []) ++ (List.range 9999).map fun i => tryN l (i + 1)

/-- Cells stay. -/
def Keeps (W W' : World) : Prop := W.heap.size ≤ W'.heap.size ∧ ∀ (i : Nat) (cs : Array Value) (t : TypeId) (z : Nat × Nat), W.heap[i]? = some (Obj.cells cs t z) → W'.heap[i]? = some (Obj.cells cs t z)
theorem Rd.keeps {w w' : World} {k : IntKind} {A : Option Addr} {n : Nat} {xs : List Int} (h : Rd w k A n xs) (hk : Keeps w w') : Rd w' k A n xs := by
  refine ⟨h.len, h.max, fun j hj => ?_⟩
  obtain ⟨ad, e, hc⟩ := h.at_ j hj
  refine ⟨ad, e, ?_⟩
  unfold World.cell? at hc ⊢
  split at hc
  · rename_i cs t z hh
    rw [hk.2 _ _ _ _ hh]
    exact hc
  · cases hc

theorem fold_size : ∀ (xs : List Int) (r : ByteArray), (xs.foldl (fun r n => r.push (UInt8.ofNat n.toNat)) r).size = r.size + xs.length
  | [], r => by simp
  | x :: xs, r => by rw [List.foldl_cons, fold_size xs, ByteArray.size_push, List.length_cons]; omega
theorem mkB_size (xs : List Int) : (mkB xs).size = xs.length := by
  unfold mkB
  rw [fold_size]
  have : ByteArray.empty.size = 0 := rfl
  omega
theorem textM_len : ∀ (l : List Int), (textM l).length ≤ 4 * l.length
  | [] => by simp [textM]
  | [c] => by simp only [textM]; have := encB_len c; simp; omega
  | c :: d :: r => by
    simp only [textM]
    split
    · have h1 := encB_len (65536 + (c - 55296) * 1024 + d - 56320)
      have h2 := textM_len r
      simp only [List.length_append, List.length_cons]
      omega
    · have h1 := encB_len c
      have h2 := textM_len (d :: r)
      simp only [List.length_append, List.length_cons] at h2 ⊢
      omega
/-- The first part alone. -/
theorem tries_head {l : List Int} (h : isShortM (upS l) = true) : [upS l] <+: triesM l := by
  unfold triesM
  rw [if_pos h]
  exact List.prefix_append _ _


theorem dec_len : ∀ (k n : Nat), n < 10 ^ (k + 1) → (Lib.decDigits n).length ≤ k + 1
  | 0, n, h => by
    rw [Lib.decDigits, dif_pos (by simpa using h)]; simp
  | k + 1, n, h => by
    rw [Lib.decDigits]
    split
    · simp
    · have : n / 10 < 10 ^ (k + 1) := by rw [Nat.pow_succ] at h; omega
      have := dec_len k (n / 10) this
      rw [List.length_append, List.length_singleton]
      omega
theorem decS_size (n : Nat) (h : n ≤ 9999) : (decS n).size ≤ 4 := by
  have h1 := dec_len 3 n (by omega)
  have h2 : (decS n).size = (Lib.itoa (n : Int)).length := by unfold decS; simp [ByteArray.size]
  rw [h2]
  unfold Lib.itoa
  rw [if_neg (by omega)]
  simpa using h1
theorem dotU_le (l : List Int) : ∀ k, dotU l k ≤ k
  | 0 => Nat.le_refl _
  | k + 1 => by
    simp only [dotU]
    split
    · exact Nat.le_refl _
    · have := dotU_le l k; omega
theorem firstS_size (s : ByteArray) (n : Nat) : (firstS s n).size ≤ n := by unfold firstS; rw [ByteArray.size_extract]; omega

theorem slice_from49 (A : Option Addr) (n c l : Nat) (h : l ≤ n) (w : World) : (Instr.slice 49 (.slice A n c) (some (.int .i64 l)) none none).run Tryd.prog w = .ok (.slice (if c = l then A else A.map fun x => x.add l) (n - l) (c - l)) w := by
  have h1 : (l : Int) ≤ n := by omega
  have e : Tryd.prog.elem 49 = 46 := by kernel_rfl
  have hz : (sizeOf 46).run Tryd.prog w = .ok 1 w := by kernel_rfl
  have hu : Tryd.prog.underlying 49 = some (.slice (Tryd.prog.elem 49)) := by rw [e]; exact Tryd.underlying49
  rw [run_slice_l w 49 A n c hu .i64 l (by omega) h1, e, hz]
  simp [Result.andThen, sliced]
theorem slice_to49 (A : Option Addr) (n c l : Nat) (h : l ≤ c) (h0 : 0 < c) (w : World) : (Instr.slice 49 (.slice A n c) none (some (.int .i64 l)) none).run Tryd.prog w = .ok (.slice A l c) w := by
  have h1 : (l : Int) ≤ c := by omega
  have e : Tryd.prog.elem 49 = 46 := by kernel_rfl
  have hz : (sizeOf 46).run Tryd.prog w = .ok 1 w := by kernel_rfl
  have hu : Tryd.prog.underlying 49 = some (.slice (Tryd.prog.elem 49)) := by rw [e]; exact Tryd.underlying49
  rw [run_slice_h w 49 A n c hu .i64 l (by omega) h1, e, hz]
  have : ¬ c = 0 := by omega
  cases A <;> simp [Result.andThen, sliced, this, Addr.add]
theorem Rd.take {w : World} {k : IntKind} {A : Option Addr} {n : Nat} {xs : List Int} (h : Rd w k A n xs) (i : Nat) (hi : i ≤ n) : Rd w k A i (xs.take i) := by
  refine ⟨by rw [List.length_take, h.len]; omega, by have := h.max; omega, fun j hj => ?_⟩
  obtain ⟨ad, e, hc⟩ := h.at_ j (by omega)
  refine ⟨ad, e, ?_⟩
  rw [hc]
  simp [List.getD_eq_getElem?_getD, List.getElem?_take, hj]
theorem shortened_at (A : Option Addr) (c n : Nat) (xs : List Int) (hx : xs.length = n) (hn : n ≤ 40000) (hu : U16 xs) (w : World) (hR : Rd w .u16 A n xs) :
    Calls Tryd.prog 78 #[.slice A n c] w fun e w' => e = .returned (.string (mkB (shortenedM xs))) ∧ Below w.heap.size w w' := by
  subst hx
  exact shortened_any A c xs hn hu w hR
theorem U16.drop {xs : List Int} (h : U16 xs) (i : Nat) : U16 (xs.drop i) := fun x hx => h x (List.mem_of_mem_drop hx)
theorem U16.take {xs : List Int} (h : U16 xs) (i : Nat) : U16 (xs.take i) := fun x hx => h x (List.mem_of_mem_take hx)
theorem first_3 (s : ByteArray) (hs : s.size ≤ 1000000) (w : World) : Calls Tryd.prog 77 #[.string s, .int .i64 3] w fun e w' => e = .returned (.string (firstS s 3)) ∧ w' = w := first_any s 3 hs (by decide) w

/-- The names with the numbers from 1 to k. -/
def numsT (l : List Int) (k : Nat) : List ByteArray := (List.range k).map fun i => tryN l (i + 1)
theorem numsT_succ (l : List Int) (k : Nat) : numsT l (k + 1) = numsT l k ++ [tryN l (k + 1)] := by unfold numsT; rw [List.range_succ, List.map_append]; rfl
theorem numsT_prefix (l : List Int) (k : Nat) : ∀ d, numsT l k <+: numsT l (k + d)
  | 0 => List.prefix_refl _
  | d + 1 => by
    rw [show k + (d + 1) = (k + d) + 1 from rfl, numsT_succ]
    exact (numsT_prefix l k d).trans (List.prefix_append _ _)
theorem tries_pre {l : List Int} {up : ByteArray} {sh : Bool} {P0 : List ByteArray} (h1 : upS l = up) (h2 : isShortM up = sh) (h3 : (if sh = true then [up] else []) = P0) : triesM l = P0 ++ numsT l 9999 := by
  unfold triesM numsT
  rw [h1, h2, h3]
theorem tries_upto {l : List Int} {P0 : List ByteArray} (h : triesM l = P0 ++ numsT l 9999) (n : Nat) (hn : n ≤ 9999) : P0 ++ numsT l n <+: triesM l := by
  rw [h]
  obtain ⟨d, hd⟩ : ∃ d, n + d = 9999 := ⟨9999 - n, by omega⟩
  rw [← hd]
  obtain ⟨t, ht⟩ := numsT_prefix l n d
  exact ⟨t, by rw [List.append_assoc, ht]⟩

theorem two_cells (W : World) (v1 v2 : Value) (t : TypeId) (n : Nat) (hn : n = W.heap.size) : (W.alloc (.cells #[v1, v2] t)).cell? ⟨n, 0, none⟩ = some v1 ∧ (W.alloc (.cells #[v1, v2] t)).cell? ⟨n, 1, none⟩ = some v2 := by
  subst hn
  exact ⟨by rw [cell_of_row _ _ _ _ _ _ (heap_alloc_new W _)]; rfl, by rw [cell_of_row _ _ _ _ _ _ (heap_alloc_new W _)]; rfl⟩
theorem dash_list : (⟨#[95]⟩ : ByteArray).toList = [95] := by rw [Go.ByteArray.toList_eq]
/-- cmp.Or at a pair that was just made: a text, or a dash. -/
theorem or_dash (W : World) (n : Nat) (hn : n = W.heap.size) (x : ByteArray) :
    Calls Tryd.prog 79 #[.slice (some ⟨n, 0, none⟩) 2 2] (W.alloc (.cells #[.string x, .string ⟨#[95]⟩] 9)) fun e w' => e = .returned (.string (if x.toList = [] then ⟨#[95]⟩ else x)) ∧ w' = W.alloc (.cells #[.string x, .string ⟨#[95]⟩] 9) := by
  have h := two_cells W (.string x) (.string ⟨#[95]⟩) 9 n hn
  exact orS_any n 2 x ⟨#[95]⟩ _ h.1 h.2 (by rw [dash_list]; decide) (by decide)
end Go.Proofs.YtmbdiimenmnfjaaDoor
/- Short: the plain part. -/
namespace Go.Proofs.YtmbdiimenmnfjaaDoor
open Go.RowKit Go.Deep
set_option linter.unusedVariables false
set_option linter.unusedSimpArgs false

instance decBA : DecidableEq ByteArray := fun a b => decidable_of_iff (a.data.toList = b.data.toList) ⟨fun h => by
  cases a; cases b
  congr
  exact Array.toList_inj.1 h, fun h => by rw [h]⟩

/-- A slice of strings that is read. -/
structure RdS (w : World) (A : Option Addr) (n : Nat) (xs : List ByteArray) : Prop where
  len : xs.length = n
  max : n ≤ 9223372036854775807
  at_ : ∀ j, j < n → ∃ ad, A = some ad ∧ w.cell? (ad.add j) = some (.string (xs.getD j ByteArray.empty))
theorem RdS.below {w w' : World} {A : Option Addr} {n : Nat} {xs : List ByteArray} (h : RdS w A n xs) (hb : Below w.heap.size w w') : RdS w' A n xs :=
  ⟨h.len, h.max, fun j hj => let ⟨ad, e, hc⟩ := h.at_ j hj; ⟨ad, e, cell_keep hb hc⟩⟩

/-- The upper cases of what is taken. -/
def upOf (t : ByteArray) : List ByteArray := match getU t with
  | some r => [upS r]
  | none => []
def upsM (taken : List ByteArray) : List ByteArray := taken.flatMap upOf
theorem upsM_snoc (l : List ByteArray) (t : ByteArray) : upsM (l ++ [t]) = upsM l ++ upOf t := by simp [upsM]
/-- Is a name among those that are taken? -/
def metB (ups : List ByteArray) (x : ByteArray) : Bool := ups.any fun y => decide (y = x)
theorem metB_iff {ups : List ByteArray} {x : ByteArray} : metB ups x = true ↔ x ∈ ups := by simp [metB]
theorem metB_not {ups : List ByteArray} {x : ByteArray} : metB ups x = false ↔ x ∉ ups := by rw [← metB_iff]; simp
def shortOf (l : List Int) (ups : List ByteArray) : ByteArray × Int := match (triesM l).find? (fun x => !metB ups x) with
  | some x => (x, 0)
  | none => (ByteArray.empty, 5)
/-- What 'Short' says. -/
def shortM (s : ByteArray) (taken : List ByteArray) : ByteArray × Int := if checkM s ≠ 0 then (ByteArray.empty, checkM s) else match getU s with
  | none => (ByteArray.empty, 0)
  | some l => shortOf l (upsM taken)
theorem short_all {l : List Int} {ups : List ByteArray} (h : ∀ t ∈ triesM l, t ∈ ups) : shortOf l ups = (ByteArray.empty, 5) := by
  unfold shortOf
  rw [List.find?_eq_none.2 (fun x hx => by rw [metB_iff.2 (h x hx)]; decide)]
theorem short_one {l : List Int} {ups pre : List ByteArray} {x : ByteArray} (hp : pre ++ [x] <+: triesM l) (h : ∀ t ∈ pre, t ∈ ups) (hx : x ∉ ups) : shortOf l ups = (x, 0) := by
  unfold shortOf
  obtain ⟨r, hr⟩ := hp
  rw [← hr, List.append_assoc, List.find?_append, List.find?_eq_none.2 (fun y hy => by rw [metB_iff.2 (h y hy)]; decide)]
  simp [metB_not.2 hx]
end Go.Proofs.YtmbdiimenmnfjaaDoor
/- The order of lists of units and of strings: plain facts. -/
namespace Go.Proofs.YtmbdiimenmnfjaaDoor
open Go.RowKit
set_option linter.unusedVariables false
set_option linter.unusedSimpArgs false

theorem cmpU_cases (x y : List Int) : cmpU x y = -1 ∨ cmpU x y = 0 ∨ cmpU x y = 1 := by
  induction x generalizing y with
  | nil => cases y <;> simp [cmpU]
  | cons a x ih =>
    cases y with
    | nil => simp [cmpU]
    | cons b y =>
      simp only [cmpU]
      split
      · simp
      · split
        · simp
        · exact ih y
theorem cmpU_swap (x y : List Int) : cmpU y x = 0 - cmpU x y := by
  induction x generalizing y with
  | nil => cases y <;> simp [cmpU]
  | cons a x ih =>
    cases y with
    | nil => simp [cmpU]
    | cons b y =>
      simp only [cmpU]
      by_cases h1 : a < b
      · rw [if_neg (by omega), if_pos (by omega), if_pos h1]; rfl
      · by_cases h2 : a > b
        · rw [if_pos (by omega), if_neg h1, if_pos h2]; rfl
        · rw [if_neg (by omega), if_neg (by omega), if_neg h1, if_neg h2, ih]
theorem cmpU_self (x : List Int) : cmpU x x = 0 := by have := cmpU_swap x x; omega
theorem cmpU_eq {x y : List Int} (h : cmpU x y = 0) : x = y := by
  induction x generalizing y with
  | nil => cases y with
    | nil => rfl
    | cons b y => simp [cmpU] at h
  | cons a x ih =>
    cases y with
    | nil => simp [cmpU] at h
    | cons b y =>
      simp only [cmpU] at h
      split at h
      · simp at h
      · split at h
        · simp at h
        · rw [ih h, show a = b by omega]
theorem cmpU_zero (x y : List Int) : cmpU x y = 0 ↔ x = y := ⟨cmpU_eq, fun h => by rw [h]; exact cmpU_self y⟩
theorem cmpU_lt {x y z : List Int} (h1 : cmpU x y < 0) (h2 : cmpU y z < 0) : cmpU x z < 0 := by
  induction x generalizing y z with
  | nil =>
    cases y with
    | nil => simp [cmpU] at h1
    | cons b y => cases z with
      | nil => simp [cmpU] at h2
      | cons c z => simp [cmpU]
  | cons a x ih =>
    cases y with
    | nil => simp [cmpU] at h1
    | cons b y => cases z with
      | nil => simp [cmpU] at h2
      | cons c z =>
        simp only [cmpU] at h1 h2 ⊢
        by_cases q1 : a < b
        · by_cases q2 : b < c
          · rw [if_pos (by omega)]; decide
          · by_cases q3 : b > c
            · rw [if_neg q2, if_pos q3] at h2; exact absurd h2 (by decide)
            · rw [if_pos (by omega)]; decide
        · by_cases q1' : a > b
          · rw [if_neg q1, if_pos q1'] at h1; exact absurd h1 (by decide)
          · rw [if_neg q1, if_neg q1'] at h1
            by_cases q2 : b < c
            · rw [if_pos (by omega)]; decide
            · by_cases q3 : b > c
              · rw [if_neg q2, if_pos q3] at h2; exact absurd h2 (by decide)
              · rw [if_neg q2, if_neg q3] at h2
                rw [if_neg (by omega), if_neg (by omega)]
                exact ih h1 h2
/-- All that is asked of an order. -/
theorem cmpU_all (x y z : List Int) : (cmpU x y ≤ 0 → cmpU y z ≤ 0 → cmpU x z ≤ 0) ∧ (cmpU x y < 0 → cmpU y z ≤ 0 → cmpU x z < 0) ∧ (cmpU x y ≤ 0 → cmpU y z < 0 → cmpU x z < 0) := by
  rcases cmpU_cases x y with h1 | h1 | h1
  · rcases cmpU_cases y z with h2 | h2 | h2
    · have := cmpU_lt (x := x) (y := y) (z := z) (by omega) (by omega); omega
    · rw [cmpU_eq h2] at h1; rw [h1, h2]; omega
    · omega
  · rw [cmpU_eq h1, cmpU_self]; omega
  · omega
theorem cmpU_cc (a b : Int) (x y : List Int) : cmpU (a :: x) (b :: y) = if a < b then -1 else if a > b then 1 else cmpU x y := rfl
/-- A mark between two lists that is below all that stands ahead of it. -/
theorem cmpU_term (t : Int) (p q : List Int) : ∀ (x y : List Int), (∀ a ∈ x, t < a) → (∀ a ∈ y, t < a) → cmpU (x ++ t :: p) (y ++ t :: q) = if cmpU x y = 0 then cmpU p q else cmpU x y
  | [], [], _, _ => by simp [cmpU]
  | [], b :: y, _, hy => by
    have := hy b (List.mem_cons_self ..)
    simp only [List.nil_append, List.cons_append, cmpU]
    rw [if_pos this]; rfl
  | a :: x, [], hx, _ => by
    have := hx a (List.mem_cons_self ..)
    simp only [List.nil_append, List.cons_append, cmpU]
    rw [if_neg (by omega), if_pos this]; rfl
  | a :: x, b :: y, hx, hy => by
    have e := cmpU_cc a b x y
    rw [List.cons_append, List.cons_append, cmpU_cc]
    by_cases h1 : a < b
    · rw [if_pos h1] at e ⊢; rw [e]; rfl
    · by_cases h2 : a > b
      · rw [if_neg h1, if_pos h2] at e ⊢; rw [e]; rfl
      · rw [if_neg h1, if_neg h2] at e ⊢
        rw [e]
        exact cmpU_term t p q x y (fun c hc => hx c (List.mem_cons_of_mem _ hc)) (fun c hc => hy c (List.mem_cons_of_mem _ hc))

theorem less_cmp : ∀ (p q : List UInt8), (Op.bytesLess p q = true ↔ cmpU (p.map fun b => (b.toNat : Int)) (q.map fun b => (b.toNat : Int)) = -1)
  | [], [] => by simp [Op.bytesLess, cmpU]
  | [], b :: q => by simp [Op.bytesLess, cmpU]
  | a :: p, [] => by simp [Op.bytesLess, cmpU]
  | a :: p, b :: q => by
    have ih := less_cmp p q
    simp only [Op.bytesLess, List.map_cons, cmpU, Bool.or_eq_true, decide_eq_true_eq, Bool.and_eq_true, beq_iff_eq]
    have h1 : a < b ↔ (a.toNat : Int) < b.toNat := by rw [UInt8.lt_iff_toNat_lt]; omega
    have h2 : a = b ↔ (a.toNat : Int) = b.toNat := by rw [← UInt8.toNat_inj]; omega
    by_cases q1 : (a.toNat : Int) < b.toNat
    · rw [if_pos q1]; exact ⟨fun _ => rfl, fun _ => Or.inl (h1.2 q1)⟩
    · rw [if_neg q1]
      by_cases q2 : (a.toNat : Int) > b.toNat
      · rw [if_pos q2]; constructor
        · rintro (h | ⟨h, -⟩)
          · exact absurd (h1.1 h) q1
          · have := h2.1 h; omega
        · intro h; exact absurd h (by decide)
      · rw [if_neg q2]
        constructor
        · rintro (h | ⟨-, h⟩)
          · exact absurd (h1.1 h) q1
          · exact ih.1 h
        · intro h; exact Or.inr ⟨h2.2 (by omega), ih.2 h⟩
theorem less_bts (a b : ByteArray) : Op.bytesLess a.toList b.toList = decide (cmpU (bts a) (bts b) = -1) := by
  rw [Go.ByteArray.toList_eq, Go.ByteArray.toList_eq, Bool.eq_iff_iff, decide_eq_true_eq]
  exact less_cmp _ _
theorem same_bts (a b : ByteArray) : (a.toList == b.toList) = decide (a = b) := by
  rw [Go.ByteArray.toList_eq, Go.ByteArray.toList_eq, Bool.eq_iff_iff, decide_eq_true_eq, beq_iff_eq]
  refine ⟨fun h => ?_, fun h => by rw [h]⟩
  cases a; cases b
  congr
  exact Array.toList_inj.1 h
theorem cmpS_eq (a b : ByteArray) : cmpS a b = cmpU (bts a) (bts b) := by
  unfold cmpS
  rw [less_bts, same_bts]
  rcases cmpU_cases (bts a) (bts b) with h | h | h
  · rw [h]; rfl
  · have : a = b := bts_inj (cmpU_eq h)
    rw [h]; simp [this]
  · have : ¬ a = b := fun e => by rw [e, cmpU_self] at h; exact absurd h (by decide)
    rw [h]; simp [this]

/-- A list whose order is that of strings. -/
def rankS (a : ByteArray) : List Int := match getU a with
  | some x => 0 :: (x.map upM ++ -1 :: x)
  | none => 1 :: bts a
theorem U16.neg {x : List Int} (h : U16 x) : ∀ a ∈ x, -1 < a := fun a ha => by have := h a ha; omega
theorem compare_rank (a b : ByteArray) : compareM a b = cmpU (rankS a) (rankS b) := by
  unfold compareM rankS
  cases ha : getU a with
  | none =>
    cases hb : getU b with
    | none =>
      simp only
      rw [cmpU_cc, if_neg (show ¬ (1 : Int) < 1 by decide), if_neg (show ¬ (1 : Int) > 1 by decide), cmpS_eq]
    | some y =>
      simp only
      rw [cmpU_cc, if_neg (show ¬ (1 : Int) < 0 by decide), if_pos (show (1 : Int) > 0 by decide)]
  | some x =>
    cases hb : getU b with
    | none =>
      simp only
      rw [cmpU_cc, if_pos (show (0 : Int) < 1 by decide)]
    | some y =>
      simp only
      rw [cmpU_cc, if_neg (show ¬ (0 : Int) < 0 by decide), if_neg (show ¬ (0 : Int) > 0 by decide), cmpU_term (-1) x y _ _ (getU_props ha).1.map_up.neg (getU_props hb).1.map_up.neg]
theorem split_mid {x y p q : List Int} {t : Int} (h : x ++ t :: p = y ++ t :: q) (hl : x.length = y.length) : x = y ∧ p = q := by
  have := List.append_inj h hl
  exact ⟨this.1, by have := this.2; simpa using this⟩
theorem rank_inj {a b : ByteArray} (h : rankS a = rankS b) : a = b := by
  unfold rankS at h
  cases ha : getU a with
  | none =>
    cases hb : getU b with
    | none => rw [ha, hb] at h; simp only [List.cons.injEq, true_and] at h; exact bts_inj h
    | some y => rw [ha, hb] at h; simp at h
  | some x =>
    cases hb : getU b with
    | none => rw [ha, hb] at h; simp at h
    | some y =>
      rw [ha, hb] at h
      simp only [List.cons.injEq, true_and] at h
      have hl := congrArg List.length h
      simp only [List.length_append, List.length_map, List.length_cons] at hl
      have := (split_mid h (by rw [List.length_map, List.length_map]; omega)).2
      rw [this] at ha
      exact getU_inj ha hb
theorem cmpM_cases (a b : ByteArray) : compareM a b = -1 ∨ compareM a b = 0 ∨ compareM a b = 1 := by rw [compare_rank]; exact cmpU_cases _ _
theorem cmpM_swap (a b : ByteArray) : compareM b a = 0 - compareM a b := by rw [compare_rank, compare_rank]; exact cmpU_swap _ _
theorem cmpM_zero (a b : ByteArray) : compareM a b = 0 ↔ a = b := by
  rw [compare_rank, cmpU_zero]
  exact ⟨rank_inj, fun h => by rw [h]⟩
theorem cmpM_all (a b c : ByteArray) : (compareM a b ≤ 0 → compareM b c ≤ 0 → compareM a c ≤ 0) ∧ (compareM a b < 0 → compareM b c ≤ 0 → compareM a c < 0) ∧ (compareM a b ≤ 0 → compareM b c < 0 → compareM a c < 0) := by
  simp only [compare_rank]; exact cmpU_all _ _ _
theorem sameM_refl (a : ByteArray) : sameM a a = true := by unfold sameM; simp
theorem sameM_iff (a b : ByteArray) : sameM a b = true ↔ a = b ∨ ∃ x y, getU a = some x ∧ getU b = some y ∧ x.map upM = y.map upM := by
  unfold sameM
  rw [Bool.or_eq_true, same_bts, decide_eq_true_eq]
  cases ha : getU a with
  | none => simp
  | some x =>
    cases hb : getU b with
    | none => simp
    | some y => simp
/-- Between strings that are alike there is none that is not. -/
theorem same_between {a b c : ByteArray} (h : sameM a c = true) (h1 : compareM a b ≤ 0) (h2 : compareM b c ≤ 0) : sameM a b = true := by
  rcases (sameM_iff a c).1 h with rfl | ⟨x, z, ha, hc, hxz⟩
  · have := cmpM_swap a b
    have : a = b := (cmpM_zero a b).1 (by omega)
    rw [this]; exact sameM_refl _
  · rw [sameM_iff]
    cases hb : getU b with
    | none =>
      unfold compareM at h2
      rw [hb, hc] at h2
      simp at h2
    | some y =>
      refine Or.inr ⟨x, y, ha, rfl, ?_⟩
      unfold compareM at h1 h2
      rw [ha, hb] at h1
      rw [hb, hc] at h2
      simp only at h1 h2
      have hs := cmpU_swap (x.map upM) (y.map upM)
      rw [hxz] at *
      refine cmpU_eq ?_
      split at h1
      · assumption
      · split at h2
        · rename_i h3; omega
        · omega

/-! Keys. -/
theorem cmpU_keyB : ∀ (x y : List Int), U16 x → U16 y → cmpU (keyB x) (keyB y) = cmpU x y
  | [], [], _, _ => rfl
  | [], b :: y, _, _ => rfl
  | a :: x, [], _, _ => rfl
  | a :: x, b :: y, hx, hy => by
    have ha := hx a (List.mem_cons_self ..)
    have hb := hy b (List.mem_cons_self ..)
    have ih := cmpU_keyB x y (fun c hc => hx c (List.mem_cons_of_mem _ hc)) (fun c hc => hy c (List.mem_cons_of_mem _ hc))
    have e1 : keyB (a :: x) = a / 256 :: a % 256 :: keyB x := by simp [keyB]
    have e2 : keyB (b :: y) = b / 256 :: b % 256 :: keyB y := by simp [keyB]
    rw [e1, e2]
    simp only [cmpU]
    by_cases q1 : a < b
    · rw [if_pos q1]
      by_cases q2 : a / 256 < b / 256
      · rw [if_pos q2]
      · rw [if_neg q2, if_neg (by omega), if_pos (by omega)]
    · rw [if_neg q1]
      by_cases q3 : a > b
      · rw [if_pos q3]
        by_cases q2 : a / 256 > b / 256
        · rw [if_neg (by omega), if_pos q2]
        · rw [if_neg (by omega), if_neg q2, if_neg (by omega), if_pos (by omega)]
      · rw [if_neg q3, if_neg (by omega), if_neg (by omega), if_neg (by omega), if_neg (by omega), ih]
theorem upL_low (u : Int) (h : 32 ≤ u) : ∀ l, (∀ r ∈ l, r ∈ rowsL) → 32 ≤ upL u l
  | [], _ => h
  | r :: rs, hr => by
    simp only [upL]
    split
    · rename_i hh
      have hm := hr r (List.mem_cons_self ..)
      simp only [rowsL, List.mem_cons, List.not_mem_nil, or_false] at hm
      unfold hitR at hh
      rcases hm with rfl | rfl | rfl | rfl | rfl | rfl | rfl | rfl | rfl | rfl | rfl | rfl | rfl <;> simp only at hh ⊢ <;> omega
    · exact upL_low u h rs fun x hx => hr x (List.mem_cons_of_mem _ hx)
theorem upM_low (u : Int) (h : 32 ≤ u) : 32 ≤ upM u := upL_low u h rowsL fun r hr => hr
theorem name_low {r : List Int} (h : r.any unitBad = false) : ∀ u ∈ r.map upM, 0 < u := by
  intro u hu
  obtain ⟨v, hv, rfl⟩ := List.mem_map.1 hu
  rw [List.any_eq_false] at h
  have h1 := h v hv
  have : 32 ≤ v := by
    simp only [unitBad, Bool.or_eq_true, decide_eq_true_eq, not_or] at h1
    omega
  have := upM_low v this
  omega
theorem keyB_bytes {x : List Int} (h : U16 x) : ∀ b ∈ keyB x, 0 ≤ b ∧ b ≤ 255 := by
  intro b hb
  simp only [keyB, List.mem_flatMap] at hb
  obtain ⟨u, hu, hb⟩ := hb
  have := h u hu
  simp at hb
  omega
theorem key_u16 {r : List Int} (h : U16 r) : U16 (r.map upM ++ [0] ++ r) := by
  intro u hu
  rcases List.mem_append.1 hu with q | q
  · rcases List.mem_append.1 q with q | q
    · exact h.map_up u q
    · have : u = 0 := by simpa using q
      omega
  · exact h u q
/-- Keys of names are in the order of bytes just as the names are. -/
theorem key_order {a b : ByteArray} (ha : checkM a = 0) (hb : checkM b = 0) {x y : List Int} (h1 : getU a = some x) (h2 : getU b = some y) :
    Op.bytesLess (mkB (keyM x)).toList (mkB (keyM y)).toList = decide (compareM a b = -1) ∧ ((mkB (keyM x)).toList == (mkB (keyM y)).toList) = decide (compareM a b = 0) := by
  obtain ⟨x', hx', -, -, -, hx⟩ := check_units ha
  rw [h1] at hx'; cases hx'
  obtain ⟨y', hy', -, -, -, hy⟩ := check_units hb
  rw [h2] at hy'; cases hy'
  have ux := key_u16 (getU_props h1).1
  have uy := key_u16 (getU_props h2).1
  have bx : bts (mkB (keyM x)) = keyM x := bts_mkB _ (keyB_bytes ux)
  have by_ : bts (mkB (keyM y)) = keyM y := bts_mkB _ (keyB_bytes uy)
  have hcmp : cmpU (keyM x) (keyM y) = compareM a b := by
    unfold keyM compareM
    rw [cmpU_keyB _ _ ux uy, h1, h2, List.append_assoc, List.append_assoc]
    exact cmpU_term 0 x y _ _ (name_low hx) (name_low hy)
  rw [less_bts, same_bts, bx, by_, hcmp]
  refine ⟨rfl, ?_⟩
  rw [decide_eq_decide, ← hcmp, cmpU_zero]
  exact ⟨fun h => by rw [← bx, h, by_], fun h => by rw [h]⟩
end Go.Proofs.YtmbdiimenmnfjaaDoor
