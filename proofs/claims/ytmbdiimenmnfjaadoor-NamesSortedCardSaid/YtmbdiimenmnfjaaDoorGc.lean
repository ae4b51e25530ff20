/- Walks: Check, Valid. -/
import Derived.Test.YtmbdiimenmnfjaaDoorGb
import Derived.Test.YtmbdiimenmnfjaaDoorShelf
import Derived.Test.YtmbdiimenmnfjaaDoorPNamesNamesx22
import Derived.Test.YtmbdiimenmnfjaaDoorPNamesNamesx24
import Derived.Test.YtmbdiimenmnfjaaDoorPNamesNamesx19
import Derived.Test.YtmbdiimenmnfjaaDoorPNamesNamesx17
import Derived.Lib.AppendZerosOnto
import Derived.Test.YtmbdiimenmnfjaaDoorGa
import Derived.Maps.OwnSet
import Derived.Maps.Views
import Derived.Laws.RangeString
import Derived.Laws.RangeAny
import Derived.Lib.ConvBytes
import Derived.Lib.IndexLaws
namespace Go.Proofs.YtmbdiimenmnfjaaDoor
open Go.RowKit Go.Deep
set_option linter.unusedVariables false
set_option linter.unusedSimpArgs false

/-- Is a string no name, whatever its units? -/
def nameBad (s : ByteArray) : Bool := (s.toList == [46]) || (s.toList == [46, 46]) || Lib.hasSuffix s.data.toList [32] || Lib.hasSuffix s.data.toList [46]
/-- May a unit not stand in a name? -/
def unitBad (u : Int) : Bool := decide (u < 32) || (decide (u < 128) && decide (0 ≤ Lib.indexByte [34, 42, 47, 58, 60, 62, 63, 92, 124] (UInt8.ofNat u.toNat)))
/-- What 'Check' says. -/
def checkM (s : ByteArray) : Int := match getU s with
  | none => 4
  | some l => if l.length < 1 ∨ 32 < l.length ∨ nameBad s = true then 19 else if l.any unitBad = true then 19 else 0

theorem any_at {l : List Int} {i : Nat} (hi : i < l.length) (h : unitBad (l.getD i 0) = true) : l.any unitBad = true := by
  rw [List.any_eq_true]
  rw [List.getD_eq_getElem?_getD, List.getElem?_eq_getElem hi] at h
  exact ⟨_, List.getElem_mem hi, h⟩
theorem any_none {l : List Int} (h : ∀ j, j < l.length → unitBad (l.getD j 0) = false) : l.any unitBad = false := by
  rw [List.any_eq_false]
  intro x hx
  obtain ⟨i, hi, rfl⟩ := List.getElem_of_mem hx
  have := h i hi
  rw [List.getD_eq_getElem?_getD, List.getElem?_eq_getElem hi] at this
  simpa using this

set_option maxRecDepth 100000 in
set_option maxHeartbeats 4000000 in
theorem check_any (s : ByteArray) (hs : s.size ≤ 100000) (w : World) :
    Calls Tryd.prog 20 #[.string s] w fun e w' => e = .returned (.int .i64 (checkM s)) ∧ Below w.heap.size w w' := by
  cases hg : getU s with
  | none =>
    obtain ⟨r, h'⟩ := getU_none hg
    have H := Lib.hid h'
    have e1 : checkM s = 4 := by unfold checkM; rw [hg]
    rw [e1]
    clear hg h'
    go_enter Tryd.func20, Tryd.ntmps20
    go_wp2_with (go_at_call 45; refine (read_any s hs _ _ _ H.out).mono ?_; rintro e w1 ⟨v, rfl, hO, hB⟩; (have HB := Lib.hid hB); clear hO hB)
    go_ret
    exact ⟨rfl, HB.out⟩
  | some r =>
    have H := Lib.hid (getU_some hg)
    have hp := getU_props hg
    have HX := Lib.hid hp.1
    have hl : r.length ≤ 4096 := hp.2.2
    by_cases hbad : r.length < 1 ∨ 32 < r.length ∨ nameBad s = true
    · have e1 : checkM s = 19 := by unfold checkM; rw [hg]; simp only; rw [if_pos hbad]
      have HBAD := Lib.hid hbad
      rw [e1]
      clear hg hp hbad e1
      go_enter Tryd.func20, Tryd.ntmps20
      go_wp2_with (first
        | (go_at_call 45; refine (read_any s hs _ _ _ H.out).mono ?_; rintro e w1 ⟨v, rfl, hO, hB⟩; obtain ⟨A, c, rfl, hc, hRd, -⟩ := own_nums hO (by omega); (have HB := Lib.hid hB); clear hO hB hRd)
        | (go_at_call 48; refine (Tryd.strings_HasSuffix s _ _ (by omega)).mono ?_; rintro e w2 ⟨rfl, rfl⟩))
      all_goals first
        | (go_ret; exact ⟨rfl, HB.out⟩)
        | (exfalso
           rename_i hx1 hx2 hx3 hx4 hx5 hx6
           rcases HBAD.out with h | h | h
           · omega
           · omega
           · simp [nameBad] at h; simp_all)
    · have e1 : checkM s = if r.any unitBad = true then 19 else 0 := by unfold checkM; rw [hg]; simp only; rw [if_neg hbad]
      have hb1 : ¬ r.length < 1 := fun h => hbad (Or.inl h)
      have hb2 : ¬ 32 < r.length := fun h => hbad (Or.inr (Or.inl h))
      have hb3 : nameBad s = false := by cases hq : nameBad s with
        | false => rfl
        | true => exact absurd (Or.inr (Or.inr hq)) hbad
      unfold nameBad at hb3
      simp only [Bool.or_eq_false_iff] at hb3
      obtain ⟨⟨⟨k1, k2⟩, k3⟩, k4⟩ := hb3
      have hb1' : ¬ (r.length : Int) < 1 := by omega
      have hb2' : ¬ 32 < (r.length : Int) := by omega
      obtain ⟨C, hC⟩ : ∃ C, (if r.any unitBad = true then (19 : Int) else 0) = C := ⟨_, rfl⟩
      rw [e1, hC]
      have HC := Lib.hid hC
      clear hg hp hbad e1 hC hb1 hb2
      go_enter Tryd.func20, Tryd.ntmps20
      go_wp2_with (first
        | (go_at_call 45; refine (read_any s hs _ _ _ H.out).mono ?_; rintro e w1 ⟨v, rfl, hO, hB⟩; obtain ⟨A, c, rfl, hc, hRd, -⟩ := own_nums hO (by omega); (have HB := Lib.hid hB); (have HR := Lib.hid hRd); clear hO hB hRd)
        | (go_at_call 48; refine (Tryd.strings_HasSuffix s _ _ (by omega)).mono ?_; rintro e w2 ⟨rfl, rfl⟩))
      go_loopw [40] (fun v W => ∃ i : Nat, v = .int .i64 i ∧ i ≤ r.length ∧ Hid (∀ j, j < i → unitBad (r.getD j 0) = false) ∧ Hid (Rd W .u16 A r.length r) ∧ Hid (Below w.heap.size w W)) (fun i _ => r.length - (intOf i).toNat)
      case atStart => exact ⟨0, rfl, by omega, Lib.hid (fun j hj => by omega), HR, HB⟩
      case round =>
        clear HR HB
        obtain ⟨i, rfl, hil, HJ, HR, HB⟩ := hrel
        by_cases hlt : i < r.length
        · have hlti : (i : Int) < r.length := by omega
          obtain ⟨ad, hA, hcl⟩ := HR.out.at_ i hlt
          subst hA
          obtain ⟨x, hx⟩ : ∃ x, r.getD i 0 = x := ⟨_, rfl⟩
          rw [hx] at hcl
          have hxb := HX.out.get i
          rw [hx] at hxb
          have HXX := Lib.hid hx
          have h19 : Hid (unitBad x = true → C = 19) := Lib.hid (fun h => by rw [← HC.out, if_pos (any_at hlt (by rw [HXX.out]; exact h))])
          have hnx : Hid (unitBad x = false → (∃ i' : Nat, Value.int .i64 ((i : Int) + 1) = .int .i64 (i' : Int) ∧ i' ≤ r.length ∧ Hid (∀ j, j < i' → unitBad (r.getD j 0) = false) ∧ Hid (Rd wr .u16 (some ad) r.length r) ∧ Hid (Below w.heap.size w wr)) ∧
              r.length - (intOf (Value.int IntKind.i64 (↑i + 1))).toNat < r.length - (intOf (Value.int IntKind.i64 ↑i)).toNat) := Lib.hid (fun h => by
            refine ⟨⟨i + 1, by simp, by omega, Lib.hid (fun j hj => ?_), HR, HB⟩, by simp only [intOf]; omega⟩
            rcases Nat.lt_or_ge j i with h1 | h1
            · exact HJ.out j h1
            · have : j = i := by omega
              subst this
              rw [HXX.out]; exact h)
          clear hx
          go_wp2_with (go_at_call 49; refine (Tryd.strings_IndexByte _ _ _).mono ?_; rintro e w2 ⟨rfl, rfl⟩)
          all_goals first
            | exact hnx.out (by simp only [unitBad, Bool.or_eq_false_iff, Bool.and_eq_false_iff, decide_eq_false_iff_not]; omega)
            | (have hq := h19.out (by simp only [unitBad, Bool.or_eq_true, Bool.and_eq_true, decide_eq_true_eq]; omega)
               rw [hq]
               go_ret
               exact ⟨rfl, HB.out⟩)
        · have hie : i = r.length := by omega
          subst hie
          have hlti : ¬ ((r.length : Int) < r.length) := by omega
          go_wp2
          go_ret
          refine ⟨?_, HB.out⟩
          rw [← HC.out, if_neg (by rw [any_none HJ.out]; decide)]
          rfl

set_option maxRecDepth 100000 in
theorem valid_any (s : ByteArray) (hs : s.size ≤ 100000) (w : World) :
    Calls Tryd.prog 19 #[.string s] w fun e w' => e = .returned (.bool (checkM s == 0)) ∧ Below w.heap.size w w' := by
  obtain ⟨C, hC⟩ : ∃ C, checkM s = C := ⟨_, rfl⟩
  rw [hC]
  have HC := Lib.hid hC
  clear hC
  go_enter Tryd.func19, Tryd.ntmps19
  go_wp2_with (go_at_call 20; refine (check_any s hs _).mono ?_; rintro e w1 ⟨rfl, hB⟩; rw [HC.out]; (have HB := Lib.hid hB); clear hB)
  go_ret
  exact ⟨rfl, HB.out⟩
end Go.Proofs.YtmbdiimenmnfjaaDoor
/- slices.Compare, slices.Equal, cmp.Or: what was printed of them, in plain words. -/
namespace Go.Proofs.YtmbdiimenmnfjaaDoor
open Go.RowKit Go.Deep
open Go.Proofs.YtmbdiimenmnfjaaDoor.PNamesNames
open Go.Proofs.YtmbdiimenmnfjaaDoorW.PrintWords (rd Drawn0)
set_option linter.unusedVariables false
set_option linter.unusedSimpArgs false

/-- The order of two lists. -/
def cmpU : List Int → List Int → Int
  | [], [] => 0
  | [], _ :: _ => -1
  | _ :: _, [] => 1
  | a :: x, b :: y => if a < b then -1 else if a > b then 1 else cmpU x y
theorem cmp_f (a b : Int) : cmp_Compare_uint16.f a b = some (if a < b then -1 else if a > b then 1 else 0) := by
  unfold cmp_Compare_uint16.f cmp_isNaN_uint16.f
  simp
  split
  · rfl
  · split <;> rfl
theorem drop_cons {xs : List Int} {i : Nat} (h : i < xs.length) : xs.drop i = xs.getD i 0 :: xs.drop (i + 1) := by
  rw [List.drop_eq_getElem_cons h, List.getD_eq_getElem?_getD, List.getElem?_eq_getElem h]; rfl
theorem compare_l (x y : List Int) (hx : x.length ≤ 1000000) : ∀ (k i : Nat), i ≤ x.length → i ≤ y.length → x.length < i + k → slices_Compare_uint16_uint16.l0 k x y x (x.length : Int) (i : Int) = some (cmpU (x.drop i) (y.drop i))
  | 0, i, h1, h2, h3 => by omega
  | k + 1, i, h1, h2, h3 => by
    unfold slices_Compare_uint16_uint16.l0
    by_cases hi : i < x.length
    · have e1 : (i : Int) < x.length := by omega
      have e2 : (0 : Int) ≤ i := by omega
      rw [if_pos e1, if_pos e2, if_pos e1]
      by_cases hj : i < y.length
      · have e3 : ¬ (i : Int) ≥ y.length := by omega
        have e4 : (i : Int) < y.length := by omega
        rw [if_neg e3, if_pos e4, cmp_f, Option.bind_some]
        have ex : rd x (i : Int) = x.getD i 0 := rfl
        have ey : rd y (i : Int) = y.getD i 0 := rfl
        rw [ex, ey, drop_cons hi, drop_cons hj]
        simp only [cmpU]
        by_cases q1 : x.getD i 0 < y.getD i 0
        · rw [if_pos q1, if_pos q1, if_neg (by decide)]
        · rw [if_neg q1, if_neg q1]
          by_cases q2 : x.getD i 0 > y.getD i 0
          · rw [if_pos q2, if_pos q2, if_neg (by decide)]
          · rw [if_neg q2, if_neg q2, if_pos rfl]
            have ew : wrap64 ((i : Int) + 1) = ((i + 1 : Nat) : Int) := by unfold wrap64; omega
            rw [ew]
            exact compare_l x y hx k (i + 1) (by omega) (by omega) (by omega)
      · have e3 : (i : Int) ≥ y.length := by omega
        have d2 : y.drop i = [] := List.drop_eq_nil_of_le (by omega)
        rw [if_pos e3, drop_cons hi, d2]
        rfl
    · have e1 : ¬ (i : Int) < x.length := by omega
      have d1 : x.drop i = [] := List.drop_eq_nil_of_le (by omega)
      rw [if_neg e1, d1]
      by_cases hj : x.length < y.length
      · rw [if_pos (by omega), drop_cons (xs := y) (by omega)]; rfl
      · have d2 : y.drop i = [] := List.drop_eq_nil_of_le (by omega)
        rw [if_neg (by omega), d2]; rfl
theorem compare_f (x y : List Int) (hx : x.length ≤ 1000000) : slices_Compare_uint16_uint16.f (x.length + 1) x y = some (cmpU x y) := by
  unfold slices_Compare_uint16_uint16.f
  have := compare_l x y hx (x.length + 1) 0 (by omega) (by omega) (by omega)
  exact this
theorem equal_l (x y : List Int) (hx : x.length ≤ 1000000) (hxy : x.length = y.length) : ∀ (k i : Nat), i ≤ x.length → x.length < i + k → slices_Equal_uint16_uint16.l0 k x y (x.length : Int) (i : Int) = some (decide (x.drop i = y.drop i))
  | 0, i, h1, h3 => by omega
  | k + 1, i, h1, h3 => by
    unfold slices_Equal_uint16_uint16.l0
    by_cases hi : i < x.length
    · have e1 : (i : Int) < x.length := by omega
      have e2 : (0 : Int) ≤ i := by omega
      have e4 : (i : Int) < y.length := by omega
      rw [if_pos e1, if_pos e2, if_pos e1, if_pos e4]
      have ex : rd x (i : Int) = x.getD i 0 := rfl
      have ey : rd y (i : Int) = y.getD i 0 := rfl
      rw [ex, ey, drop_cons hi, drop_cons (xs := y) (by omega)]
      by_cases q : x.getD i 0 = y.getD i 0
      · rw [if_pos q]
        have ew : wrap64 ((i : Int) + 1) = ((i + 1 : Nat) : Int) := by unfold wrap64; omega
        rw [ew, equal_l x y hx hxy k (i + 1) (by omega) (by omega), q]
        congr 1
        rw [decide_eq_decide]
        exact ⟨fun e => by rw [e], fun e => (List.cons.inj e).2⟩
      · rw [if_neg q]
        have : ¬ (x.getD i 0 :: x.drop (i + 1) = y.getD i 0 :: y.drop (i + 1)) := fun e => q (List.cons.inj e).1
        rw [decide_eq_false this]
    · have e1 : ¬ (i : Int) < x.length := by omega
      have d1 : x.drop i = [] := List.drop_eq_nil_of_le (by omega)
      have d2 : y.drop i = [] := List.drop_eq_nil_of_le (by omega)
      rw [if_neg e1, d1, d2]
      simp
theorem equal_f (x y : List Int) (hx : x.length ≤ 1000000) : slices_Equal_uint16_uint16.f (x.length + 1) x y = some (decide (x = y)) := by
  unfold slices_Equal_uint16_uint16.f
  by_cases hl : x.length = y.length
  · rw [if_pos (by omega)]
    have := equal_l x y hx hl (x.length + 1) 0 (by omega) (by omega)
    exact this
  · rw [if_neg (by omega)]
    have : ¬ x = y := fun e => hl (by rw [e])
    simp [this]
theorem or2_f (a b : Int) : cmp_Or_int.f 3 [a, b] = some (if a = 0 then b else a) := by
  unfold cmp_Or_int.f
  simp [cmp_Or_int.l0, rd, wrap64]
  by_cases ha : a = 0
  · rw [if_pos ha, if_pos ha]
    by_cases hb : b = 0
    · rw [if_pos hb, hb]
    · rw [if_neg hb]
  · rw [if_neg ha, if_neg ha]

theorem rdC {w : World} {k : IntKind} {A : Option Addr} {n : Nat} {xs : List Int} (h : Rd w k A n xs) : Go.Proofs.YtmbdiimenmnfjaaDoorW.PrintWords.Kd.C (Go.Proofs.YtmbdiimenmnfjaaDoorW.PrintWords.Kd.int k) w A n xs := by
  refine ⟨h.len, h.max, fun hn => ?_⟩
  obtain ⟨ad, hA, -⟩ := h.at_ 0 hn
  refine ⟨ad, hA, fun j p hp => ?_⟩
  obtain ⟨hj, hpj⟩ := List.getElem?_eq_some_iff.1 hp
  refine ⟨[.int k p], rfl, rfl, fun i u hu => ?_⟩
  cases i with
  | succ i => simp at hu
  | zero =>
    have : u = .int k p := by simpa using hu.symm
    subst this
    obtain ⟨ad', e, hc⟩ := h.at_ j (by have := h.len; omega)
    rw [hA] at e
    cases e
    rw [List.getD_eq_getElem?_getD, hp] at hc
    simpa [Go.Proofs.YtmbdiimenmnfjaaDoorW.PrintWords.Kd.int, Go.Proofs.YtmbdiimenmnfjaaDoorW.PrintWords.Kd.scalar] using hc
theorem drawn0 {w w' : World} (h : Drawn0 w w') : Drawn w w' := ⟨h.out⟩

theorem slcmp_any (A0 A1 : Option Addr) (c0 c1 : Nat) (x y : List Int) (w : World) (h0 : Rd w .u16 A0 x.length x) (h1 : Rd w .u16 A1 y.length y) (k0 : x.length ≤ c0) (k1 : y.length ≤ c1) (hl : x.length ≤ 1000000) :
    Calls Tryd.prog 52 #[.slice A0 x.length c0, .slice A1 y.length c1] w fun e w' => e = .returned (.int .i64 (cmpU x y)) ∧ Drawn w w' :=
  (slices_Compare_uint16_uint16.calls _ A0 c0 x A1 c1 y _ w (rdC h0) k0 (rdC h1) k1 (compare_f x y hl)).mono fun e w' h => ⟨h.1, drawn0 h.2⟩
theorem sleq_any (A0 A1 : Option Addr) (c0 c1 : Nat) (x y : List Int) (w : World) (h0 : Rd w .u16 A0 x.length x) (h1 : Rd w .u16 A1 y.length y) (k0 : x.length ≤ c0) (k1 : y.length ≤ c1) (hl : x.length ≤ 1000000) :
    Calls Tryd.prog 54 #[.slice A0 x.length c0, .slice A1 y.length c1] w fun e w' => e = .returned (.bool (decide (x = y))) ∧ Drawn w w' :=
  (slices_Equal_uint16_uint16.calls _ A0 c0 x A1 c1 y _ w (rdC h0) k0 (rdC h1) k1 (equal_f x y hl)).mono fun e w' h => ⟨h.1, drawn0 h.2⟩
theorem or2_any (A0 : Option Addr) (c0 : Nat) (a b : Int) (w : World) (h0 : Rd w .i64 A0 2 [a, b]) (k0 : 2 ≤ c0) :
    Calls Tryd.prog 51 #[.slice A0 2 c0] w fun e w' => e = .returned (.int .i64 (if a = 0 then b else a)) ∧ Drawn w w' :=
  (cmp_Or_int.calls _ A0 c0 [a, b] _ w (rdC h0) k0 (or2_f a b)).mono fun e w' h => ⟨h.1, drawn0 h.2⟩
end Go.Proofs.YtmbdiimenmnfjaaDoor
/- Walks: Compare, Same. -/
namespace Go.Proofs.YtmbdiimenmnfjaaDoor
open Go.RowKit Go.Deep
open Go.Proofs.YtmbdiimenmnfjaaDoor.PNamesNames
set_option linter.unusedVariables false
set_option linter.unusedSimpArgs false

theorem Rd.drawn {w w' : World} {k : IntKind} {A : Option Addr} {n : Nat} {xs : List Int} (h : Rd w k A n xs) (hd : Drawn w w') : Rd w' k A n xs := by
  obtain ⟨m, rfl⟩ := hd.out
  exact h.drewN m

/-- The order of two strings, by bytes. -/
def cmpS (a b : ByteArray) : Int := if Op.bytesLess a.toList b.toList = true then -1 else if (!(a.toList == b.toList)) = true then 1 else 0
set_option maxRecDepth 100000 in
theorem cmpS_any (a b : ByteArray) (w : World) : Calls Tryd.prog 50 #[.string a, .string b] w fun e w' => e = .returned (.int .i64 (cmpS a b)) ∧ Drawn w w' := by
  have hn : ∀ (x : ByteArray) (w : World), Calls Tryd.prog 73 #[.string x] w fun e w' => e = .returned (.bool false) ∧ Drawn w w' := fun x w =>
    (cmp_isNaN_string.calls x false w (by unfold cmp_isNaN_string.f; simp)).mono fun e w' h => ⟨h.1, drawn0 h.2⟩
  have HN := Lib.hid hn
  clear hn
  obtain ⟨C, hC⟩ : ∃ C, cmpS a b = C := ⟨_, rfl⟩
  rw [hC]
  have HC := Lib.hid hC
  clear hC
  go_enter Tryd.func50, Tryd.ntmps50
  go_wp2_with (go_at_call 73; refine (HN.out _ _).mono ?_; rintro e w1 ⟨rfl, ⟨nd, rfl⟩⟩)
  all_goals
    go_ret
    refine ⟨?_, ⟨_, rfl⟩⟩
    rw [← HC.out]
    unfold cmpS
    simp_all

/-- What 'Compare' says. -/
def compareM (a b : ByteArray) : Int := match getU a, getU b with
  | none, none => cmpS a b
  | none, some _ => 1
  | some _, none => -1
  | some x, some y => if cmpU (x.map upM) (y.map upM) = 0 then cmpU x y else cmpU (x.map upM) (y.map upM)
/-- What 'Same' says. -/
def sameM (a b : ByteArray) : Bool := (a.toList == b.toList) || match getU a, getU b with
  | some x, some y => decide (x.map upM = y.map upM)
  | _, _ => false

theorem getU_read (s : ByteArray) : ∃ r ok, readM (bts s) = (r, ok) ∧ (ok = true → getU s = some r) ∧ (ok = false → getU s = none) := by
  cases h : getU s with
  | none => obtain ⟨r, h'⟩ := getU_none h; exact ⟨r, false, h', fun e => (nomatch e), fun _ => rfl⟩
  | some r => exact ⟨r, true, getU_some h, fun _ => rfl, fun e => (nomatch e)⟩

theorem map_len (x : List Int) : (x.map upM).length = x.length := List.length_map _
theorem slcmp_up (A0 A1 : Option Addr) (c0 c1 : Nat) (x y : List Int) (w : World) (h0 : Rd w .u16 A0 x.length (x.map upM)) (h1 : Rd w .u16 A1 y.length (y.map upM)) (k0 : x.length ≤ c0) (k1 : y.length ≤ c1) (hl : x.length ≤ 1000000) :
    Calls Tryd.prog 52 #[.slice A0 x.length c0, .slice A1 y.length c1] w fun e w' => e = .returned (.int .i64 (cmpU (x.map upM) (y.map upM))) ∧ Drawn w w' := by
  have := slcmp_any A0 A1 c0 c1 (x.map upM) (y.map upM) w (by rw [map_len]; exact h0) (by rw [map_len]; exact h1) (by rw [map_len]; exact k0) (by rw [map_len]; exact k1) (by rw [map_len]; exact hl)
  rwa [map_len, map_len] at this
theorem sleq_up (A0 A1 : Option Addr) (c0 c1 : Nat) (x y : List Int) (w : World) (h0 : Rd w .u16 A0 x.length (x.map upM)) (h1 : Rd w .u16 A1 y.length (y.map upM)) (k0 : x.length ≤ c0) (k1 : y.length ≤ c1) (hl : x.length ≤ 1000000) :
    Calls Tryd.prog 54 #[.slice A0 x.length c0, .slice A1 y.length c1] w fun e w' => e = .returned (.bool (decide (x.map upM = y.map upM))) ∧ Drawn w w' := by
  have := sleq_any A0 A1 c0 c1 (x.map upM) (y.map upM) w (by rw [map_len]; exact h0) (by rw [map_len]; exact h1) (by rw [map_len]; exact k0) (by rw [map_len]; exact k1) (by rw [map_len]; exact hl)
  rwa [map_len, map_len] at this

theorem read_rd (s : ByteArray) (hs : s.size ≤ 40000) (w : World) (r : List Int) (ok : Bool) (h : readM (bts s) = (r, ok)) :
    Calls Tryd.prog 45 #[.string s] w fun e w' => ∃ A c, e = .returned (.tuple #[.slice A r.length c, .bool ok]) ∧ r.length ≤ c ∧ Rd w' .u16 A r.length r ∧ Below w.heap.size w w' :=
  (read_any s (by omega) w r ok h).mono fun e w' ⟨v, he, hO, hB⟩ => by
    obtain ⟨A, c, rfl, hc, hRd, -⟩ := own_nums hO (by have := (readM_props h).2.1; omega)
    exact ⟨A, c, he, hc, hRd, hB⟩
theorem raised_rd (A : Option Addr) (c : Nat) (xs : List Int) (hn : xs.length ≤ 100000) (hx : U16 xs) (w : World) (hR : Rd w .u16 A xs.length xs) :
    Calls Tryd.prog 47 #[.slice A xs.length c] w fun e w' => ∃ A' c', e = .returned (.slice A' xs.length c') ∧ xs.length ≤ c' ∧ Rd w' .u16 A' xs.length (xs.map upM) ∧ Below w.heap.size w w' :=
  (raised_any A c xs hn hx w hR).mono fun e w' ⟨v, he, hO, hB⟩ => by
    obtain ⟨A, c, rfl, hc, hRd, -⟩ := own_nums hO (by omega)
    exact ⟨A, c, he, hc, hRd, hB⟩

set_option maxRecDepth 100000 in
set_option maxHeartbeats 4000000 in
theorem same_any (a b : ByteArray) (ha : a.size ≤ 40000) (hb : b.size ≤ 40000) (w : World) : Calls Tryd.prog 23 #[.string a, .string b] w fun e w' => e = .returned (.bool (sameM a b)) ∧ Below w.heap.size w w' := by
  obtain ⟨x, ok, hx, hx1, hx2⟩ := getU_read a
  obtain ⟨y, ok', hy, hy1, hy2⟩ := getU_read b
  have HXR := Lib.hid hx
  have HYR := Lib.hid hy
  have hpx := readM_props hx
  have hpy := readM_props hy
  have HX : Hid (U16 x) := Lib.hid hpx.1
  have HY : Hid (U16 y) := Lib.hid hpy.1
  have hlx : x.length ≤ 40000 := by omega
  have hly : y.length ≤ 40000 := by omega
  obtain ⟨C, hC⟩ : ∃ C, sameM a b = C := ⟨_, rfl⟩
  rw [hC]
  have HC := Lib.hid hC
  have HO := Lib.hid (And.intro (And.intro hx1 hx2) (And.intro hy1 hy2))
  clear hx hy hx1 hx2 hy1 hy2 hpx hpy hC
  go_enter Tryd.func23, Tryd.ntmps23
  go_wp2_with (first
    | ((have hgd := HR1); clear hgd; go_at_call 45; refine (read_rd b hb _ _ _ HYR.out).mono ?_; rintro e w2 ⟨A2, c2, rfl, hc2, hR, hB⟩; (have HR2 := Lib.hid hR); (have HR1 := Lib.hid (HR1.out.below hB)); (have HB2 := Lib.hid (below_then HB1.out HB1.out.size hB)); clear hR hB)
    | (go_at_call 45; refine (read_rd a ha _ _ _ HXR.out).mono ?_; rintro e w1 ⟨A1, c1, rfl, hc1, hR, hB⟩; (have HR1 := Lib.hid hR); (have HB1 := Lib.hid hB); clear hR hB)
    | ((have hgd := HS1); clear hgd; go_at_call 47; refine (raised_rd A2 c2 y (by omega) HY.out _ HR2.out).mono ?_; rintro e w4 ⟨A4, c4, rfl, hc4, hR, hB⟩; (have HS2 := Lib.hid hR); (have HS1 := Lib.hid (HS1.out.below hB)); (have HB4 := Lib.hid (below_then HB3.out HB3.out.size hB)); clear hR hB)
    | (go_at_call 47; refine (raised_rd A1 c1 x (by omega) HX.out _ HR1.out).mono ?_; rintro e w3 ⟨A3, c3, rfl, hc3, hR, hB⟩; (have HS1 := Lib.hid hR); (have HR2 := Lib.hid (HR2.out.below hB)); (have HB3 := Lib.hid (below_then HB2.out HB2.out.size hB)); clear hR hB)
    | (go_at_call 54; refine (sleq_up A3 A4 c3 c4 x y _ HS1.out HS2.out hc3 hc4 (by omega)).mono ?_; rintro e w5 ⟨rfl, hD⟩; (have HB5 := Lib.hid (below_drawn HB4.out hD)); clear hD))
  · rename_i h
    go_ret
    refine ⟨?_, Below.refl _ _⟩
    rw [← HC.out]
    unfold sameM
    rw [h]
    rfl
  · have h1 : ok = true := by assumption
    have h2 : ok' = true := by assumption
    have hne : (a.toList == b.toList) = false := by assumption
    have hq : sameM a b = decide (x.map upM = y.map upM) := by
      unfold sameM
      rw [HO.out.1.1 h1, HO.out.2.1 h2, hne]
      rfl
    go_ret
    refine ⟨?_, HB5.out⟩
    rw [← HC.out, hq]
    rfl
  · have h1 : ok = true := by assumption
    have h2 : ¬ ok' = true := by assumption
    have hne : (a.toList == b.toList) = false := by assumption
    have hq : sameM a b = false := by
      unfold sameM
      rw [HO.out.1.1 h1, HO.out.2.2 (by simpa using h2), hne]
      rfl
    go_ret
    refine ⟨?_, HB2.out⟩
    rw [← HC.out, hq]
    rfl
  · have h1 : ¬ ok = true := by assumption
    have hne : (a.toList == b.toList) = false := by assumption
    have hq : sameM a b = false := by
      unfold sameM
      rw [HO.out.1.2 (by simpa using h1), hne]
      rfl
    go_ret
    refine ⟨?_, HB2.out⟩
    rw [← HC.out, hq]
    rfl

set_option maxRecDepth 100000 in
set_option maxHeartbeats 4000000 in
theorem compare_any (a b : ByteArray) (ha : a.size ≤ 40000) (hb : b.size ≤ 40000) (w : World) : Calls Tryd.prog 21 #[.string a, .string b] w fun e w' => e = .returned (.int .i64 (compareM a b)) ∧ Below w.heap.size w w' := by
  obtain ⟨x, ok, hx, hx1, hx2⟩ := getU_read a
  obtain ⟨y, ok', hy, hy1, hy2⟩ := getU_read b
  have HXR := Lib.hid hx
  have HYR := Lib.hid hy
  have hpx := readM_props hx
  have hpy := readM_props hy
  have HX : Hid (U16 x) := Lib.hid hpx.1
  have HY : Hid (U16 y) := Lib.hid hpy.1
  have hlx : x.length ≤ 40000 := by omega
  have hly : y.length ≤ 40000 := by omega
  obtain ⟨C, hC⟩ : ∃ C, compareM a b = C := ⟨_, rfl⟩
  rw [hC]
  have HC := Lib.hid hC
  have HO := Lib.hid (And.intro (And.intro hx1 hx2) (And.intro hy1 hy2))
  obtain ⟨r1, hr1⟩ : ∃ r1, cmpU (x.map upM) (y.map upM) = r1 := ⟨_, rfl⟩
  obtain ⟨r2, hr2⟩ : ∃ r2, cmpU x y = r2 := ⟨_, rfl⟩
  obtain ⟨r3, hr3⟩ : ∃ r3, cmpS a b = r3 := ⟨_, rfl⟩
  have HR1' := Lib.hid hr1
  have HR2' := Lib.hid hr2
  have HR3' := Lib.hid hr3
  clear hx hy hx1 hx2 hy1 hy2 hpx hpy hC hr1 hr2 hr3
  go_enter Tryd.func21, Tryd.ntmps21
  go_wp2_with (first
    | ((have hgd := HR1); clear hgd; go_at_call 45; refine (read_rd b hb _ _ _ HYR.out).mono ?_; rintro e w2 ⟨A2, c2, rfl, hc2, hR, hB⟩; (have HR2 := Lib.hid hR); (have HR1 := Lib.hid (HR1.out.below hB)); (have HB2 := Lib.hid (below_then HB1.out HB1.out.size hB)); clear hR hB)
    | (go_at_call 45; refine (read_rd a ha _ _ _ HXR.out).mono ?_; rintro e w1 ⟨A1, c1, rfl, hc1, hR, hB⟩; (have HR1 := Lib.hid hR); (have HB1 := Lib.hid hB); clear hR hB)
    | ((have hgd := HS1); clear hgd; go_at_call 47; refine (raised_rd A2 c2 y (by omega) HY.out _ HR2.out).mono ?_; rintro e w4 ⟨A4, c4, rfl, hc4, hR, hB⟩; (have HS2 := Lib.hid hR); (have HS1 := Lib.hid (HS1.out.below hB)); (have HR1 := Lib.hid (HR1.out.below hB)); (have HR2 := Lib.hid (HR2.out.below hB)); (have HB4 := Lib.hid (below_then HB3.out HB3.out.size hB)); clear hR hB)
    | (go_at_call 47; refine (raised_rd A1 c1 x (by omega) HX.out _ HR1.out).mono ?_; rintro e w3 ⟨A3, c3, rfl, hc3, hR, hB⟩; (have HS1 := Lib.hid hR); (have HR1 := Lib.hid (HR1.out.below hB)); (have HR2 := Lib.hid (HR2.out.below hB)); (have HB3 := Lib.hid (below_then HB2.out HB2.out.size hB)); clear hR hB)
    | ((have hgd := HB5); clear hgd; go_at_call 52; refine (slcmp_any A1 A2 c1 c2 x y _ HR1.out HR2.out hc1 hc2 (by omega)).mono ?_; rintro e w6 ⟨rfl, hD⟩; rw [HR2'.out]; (have HB6 := Lib.hid (below_drawn HB5.out hD)); clear hD)
    | (go_at_call 52; refine (slcmp_up A3 A4 c3 c4 x y _ HS1.out HS2.out hc3 hc4 (by omega)).mono ?_; rintro e w5 ⟨rfl, hD⟩; rw [HR1'.out]; (have HR1 := Lib.hid (HR1.out.drawn hD)); (have HR2 := Lib.hid (HR2.out.drawn hD)); (have HB5 := Lib.hid (below_drawn HB4.out hD)); clear hD)
    | (go_at_call 51; refine (or2_any _ 2 r1 r2 _ ⟨rfl, by decide, fun j hj => ⟨_, rfl, cells_new _ _ rfl [.int .i64 r1, .int .i64 r2] _ j _ (by rcases (show j = 0 ∨ j = 1 by omega) with rfl | rfl <;> rfl)⟩⟩ (by decide)).mono ?_; rintro e w7 ⟨rfl, hD⟩; (have HB7 := Lib.hid (below_drawn (below_al HB6.out _) hD)); clear hD)
    | (go_at_call 50; refine (cmpS_any a b _).mono ?_; rintro e w3 ⟨rfl, hD⟩; rw [HR3'.out]; (have HB3 := Lib.hid (below_drawn HB2.out hD)); clear hD))
  · have hq : compareM a b = -1 := by
      unfold compareM
      rw [HO.out.1.1 (by assumption), HO.out.2.2 (by simpa using ‹(!ok') = true›)]
    go_ret
    refine ⟨?_, HB2.out⟩
    rw [← HC.out, hq]
    rfl
  · have hq : compareM a b = if r1 = 0 then r2 else r1 := by
      unfold compareM
      rw [HO.out.1.1 (by assumption), HO.out.2.1 (by simpa using ‹(!ok') = false›)]
      simp only [HR1'.out, HR2'.out]
    go_ret
    refine ⟨?_, HB7.out⟩
    rw [← HC.out, hq]
    simp_all
  · have hq : compareM a b = if r1 = 0 then r2 else r1 := by
      unfold compareM
      rw [HO.out.1.1 (by assumption), HO.out.2.1 (by simpa using ‹(!ok') = false›)]
      simp only [HR1'.out, HR2'.out]
    go_ret
    refine ⟨?_, HB7.out⟩
    rw [← HC.out, hq]
    simp_all
  · have hq : compareM a b = r3 := by
      unfold compareM
      rw [HO.out.1.2 (by simpa using ‹¬ ok = true›), HO.out.2.2 (by simpa using ‹(!ok') = true›)]
      exact HR3'.out
    go_ret
    refine ⟨?_, HB3.out⟩
    rw [← HC.out, hq]
    rfl
  · have hq : compareM a b = 1 := by
      unfold compareM
      rw [HO.out.1.2 (by simpa using ‹¬ ok = true›), HO.out.2.1 (by simpa using ‹(!ok') = false›)]
    go_ret
    refine ⟨?_, HB2.out⟩
    rw [← HC.out, hq]
    rfl
end Go.Proofs.YtmbdiimenmnfjaaDoor
/- Walks: slices.Grow, slices.Concat. -/
namespace Go.Proofs.YtmbdiimenmnfjaaDoor
open Go.RowKit Go.Deep
set_option linter.unusedVariables false
set_option linter.unusedSimpArgs false

set_option maxRecDepth 100000 in
set_option maxHeartbeats 4000000 in
theorem grow_nil (n : Nat) (h1 : 1 ≤ n) (h2 : n ≤ 1000000) (w : World) :
    Calls Tryd.prog 70 #[.slice none 0 0, .int .i64 n] w fun e w' => ∃ v, e = .returned v ∧ w'.ownsRow w.heap.size 46 1 v 0 [] ∧ Below w.heap.size w w' := by
  obtain ⟨i0, hi, hz0, hz1, hz2⟩ := info_parts info46
  have hrz : ∀ ty, (Builtin.append_ #[49, 3] ty #[.slice none 0 0, .int .i64 (n : Int)]).run Tryd.prog w =
      .ok (.slice (some ⟨w.heap.size, 0, none⟩) n (grownCap w n 0 46)) (w.drew.alloc (.cells (Builtin.zeroCells (Value.int .u16 0).cells n ++ Builtin.zeroCells (Value.int .u16 0).cells (grownCap w n 0 46 - n)) 46)) := fun ty => by
    have h := Lib.run_append_grow_zeros (P := Tryd.prog) w 49 3 ty 46 i0 (.int .u16 0) .i64 .i64 Tryd.underlying49 Tryd.underlying3 hi hz0 none 0 0 [] (by rw [hz1]; exact run_firstCells_none w.drew 1 0 0 0) n (by omega) (by rw [hz1]; decide) (by omega) (by omega) (by rw [hz2]; omega)
      (growslice_fits (by omega) (by rw [hz2]; omega))
    simp only [Nat.zero_add] at h
    rw [h]
    simp
  have hGn : n ≤ grownCap w n 0 46 := grownCap_ge w _ _ _
  have hG63 : grownCap w n 0 46 ≤ maxLen := grownCap_le_maxLen w n 0 46 (by unfold maxLen; omega)
  obtain ⟨G, hG⟩ : ∃ G, grownCap w n 0 46 = G := ⟨_, rfl⟩
  rw [hG] at hrz hGn hG63
  have hsz : (Builtin.zeroCells (Value.int .u16 0).cells n ++ Builtin.zeroCells (Value.int .u16 0).cells (G - n)).size = G := by simp [Builtin.zeroCells, Value.cells]; omega
  obtain ⟨cs, hcs⟩ : ∃ cs, Builtin.zeroCells (Value.int .u16 0).cells n ++ Builtin.zeroCells (Value.int .u16 0).cells (G - n) = cs := ⟨_, rfl⟩
  rw [hcs] at hrz hsz
  have HSZ := Lib.hid hsz
  clear hG hcs hsz
  unfold maxLen at hG63
  go_enter Tryd.func70, Tryd.ntmps70
  go_wp2_with (at_builtin; refine Lib.wpList_append_run _ rfl _ _ _ _ rfl _ _ rfl rfl _ _ (hrz _) ?_)
  go_ret
  have hown : (w.drew.alloc (.cells cs 46)).ownsRow w.heap.size 46 1 (.slice (some ⟨w.heap.size, 0, none⟩) 0 G) 0 [] :=
    ⟨rfl, .inr ⟨w.heap.size, G, cs, rfl, Nat.le_refl _, heap_alloc_new w.drew _, by omega, by unfold maxLen; omega, by rw [HSZ.out]; omega, by simp⟩⟩
  exact ⟨_, rfl, hown, (below_drew1 (Below.refl _ _)).alloc (Nat.le_refl _) _⟩

theorem rd_news {w : World} {k : IntKind} {ad : Addr} {n : Nat} {xs : List Int} (h : Rd w k (some ad) n xs) : ∀ j u, (numK k xs)[j]? = some u → w.cell? (ad.add j) = some u := by
  intro j u hu
  simp only [numK, List.getElem?_map] at hu
  obtain ⟨x, hx, rfl⟩ := Option.map_eq_some_iff.1 hu
  obtain ⟨hj, hxj⟩ := List.getElem?_eq_some_iff.1 hx
  obtain ⟨ad', e, hc⟩ := h.at_ j (by have := h.len; omega)
  cases e
  rw [hc, List.getD_eq_getElem?_getD, hx]
  rfl
theorem one_numK (k : IntKind) (xs : List Int) : ∀ u ∈ numK k xs, u.oneCell' = true := by
  intro u hu
  simp only [numK, List.mem_map] at hu
  obtain ⟨x, -, rfl⟩ := hu
  rfl
/-- The lengths, one behind the other. -/
def sumL (a b c : Nat) (j : Nat) : Nat := if j = 0 then 0 else if j = 1 then a else if j = 2 then a + b else a + b + c
/-- The lists, one behind the other. -/
def catL (x y z : List Int) (j : Nat) : List Int := if j = 0 then [] else if j = 1 then x else if j = 2 then x ++ y else x ++ y ++ z
set_option maxRecDepth 100000 in
set_option maxHeartbeats 4000000 in
theorem concat_any (g c : Nat) (a1 a2 a3 : Addr) (c1 c2 c3 : Nat) (x y z : List Int) (w : World) (hc : 3 ≤ c) (k1 : w.cell? ⟨g, 0, none⟩ = some (.slice (some a1) x.length c1)) (k2 : w.cell? ⟨g, 1, none⟩ = some (.slice (some a2) y.length c2)) (k3 : w.cell? ⟨g, 2, none⟩ = some (.slice (some a3) z.length c3))
    (r1 : Rd w .u16 (some a1) x.length x) (r2 : Rd w .u16 (some a2) y.length y) (r3 : Rd w .u16 (some a3) z.length z) (l1 : x.length ≤ 100000) (l2 : y.length ≤ 100000) (l3 : z.length ≤ 100000) (lp : 1 ≤ x.length) :
    Calls Tryd.prog 46 #[.slice (some ⟨g, 0, none⟩) 3 c] w fun e w' => ∃ v, e = .returned v ∧ w'.ownsRow w.heap.size 46 1 v (x.length + y.length + z.length) (numK .u16 (x ++ y ++ z)) ∧ Below w.heap.size w w' := by
  obtain ⟨i0, hi, hz0, hz1, hz2⟩ := info_parts info46
  have R1 := Lib.hid r1
  have R2 := Lib.hid r2
  have R3 := Lib.hid r3
  have K1 := Lib.hid k1
  have K2 := Lib.hid k2
  have K3 := Lib.hid k3
  clear r1 r2 r3
  go_enter Tryd.func46, Tryd.ntmps46
  go_wp2
  go_loopw [3, 11] (fun s i W => W = w ∧ ∃ j : Nat, j ≤ 3 ∧ i = .int .i64 j ∧ s = .int .i64 (sumL x.length y.length z.length j)) (fun _ i _ => 3 - (intOf i).toNat)
  case atStart => exact ⟨rfl, 0, by omega, rfl, rfl⟩
  case round =>
    obtain ⟨hW, j, hj, rfl, rfl⟩ := hrel
    subst wr
    rcases (show j = 0 ∨ j = 1 ∨ j = 2 ∨ j = 3 by omega) with rfl | rfl | rfl | rfl
    · have e0 : sumL x.length y.length z.length 0 = 0 := rfl
      rw [e0]
      go_wp2
      exact ⟨⟨by trivial, 1, by omega, rfl, by simp [sumL]⟩, by simp only [intOf]; omega⟩
    · have e0 : sumL x.length y.length z.length 1 = x.length := rfl
      rw [e0]
      go_wp2
      exact ⟨⟨by trivial, 2, by omega, rfl, by simp [sumL]⟩, by simp only [intOf]; omega⟩
    · have e0 : sumL x.length y.length z.length 2 = x.length + y.length := rfl
      rw [e0]
      go_wp2
      exact ⟨⟨by trivial, 3, by omega, rfl, by simp [sumL]⟩, by simp only [intOf]; omega⟩
    · have e0 : sumL x.length y.length z.length 3 = x.length + y.length + z.length := rfl
      rw [e0]
      go_wp2_with (go_at_call 70; refine (grow_nil (x.length + y.length + z.length) (by omega) (by omega) _).mono ?_; rintro e w1 ⟨v, rfl, hO, hB⟩; (have HO := Lib.hid hO); (have HB := Lib.hid hB); clear hO hB)
      clear k1 k2 k3 e0
      go_loopw [6, 27] (fun v i W => ∃ j : Nat, j ≤ 3 ∧ i = .int .i64 j ∧ Hid (W.ownsRow w.heap.size 46 1 v (sumL x.length y.length z.length j) (numK .u16 (catL x y z j))) ∧ Hid (Below w.heap.size w W)) (fun _ i _ => 3 - (intOf i).toNat)
      case atStart => exact ⟨0, by omega, rfl, HO, HB⟩
      case round =>
        clear HO HB
        obtain ⟨j, hj, rfl, HO, HB⟩ := hrel
        rcases (show j = 0 ∨ j = 1 ∨ j = 2 ∨ j = 3 by omega) with rfl | rfl | rfl | rfl
        · have HO' : Hid (wr.ownsRow w.heap.size 46 1 u6 0 (numK .u16 ([]))) := HO
          obtain ⟨Av, cv, rfl, hcv⟩ := own_is_slice HO'.out
          have k0 := cell_keep HB.out K1.out
          have HN := Lib.hid (rd_news (R1.out.below HB.out))
          have hbs := HB.out.size
          clear HO
          go_wp2_with (at_builtin; refine wpList_append_own _ rfl _ _ 49 rfl w.heap.size 46 i0 (.int .u16 0) 1 2 Tryd.underlying49 hi hz0 hz1 hz2 rfl (by decide) _ 0 (numK .u16 ([])) rfl HO'.out a1 x.length c1 (numK .u16 x) rfl (by rw [numK_len]; omega) HN.out (one_numK _ _) (by simp only [maxLen]; omega) (by omega) hbs ?_; intro v' w3 hown3 hgrow3 _; (have HO3 := Lib.hid hown3); (have HB3 := Lib.hid (HB.out.grown hgrow3 hbs (fun kk hk => (HO'.out.lt kk hk).1))); clear hown3 hgrow3)
          have HO4 : w3.ownsRow w.heap.size 46 1 v' (x.length) (numK .u16 x) := by
            have := HO3.out
            rw [← numK_append] at this
            simpa using this
          exact ⟨⟨1, by omega, rfl, Lib.hid HO4, HB3⟩, by simp only [intOf]; omega⟩
        · have HO' : Hid (wr.ownsRow w.heap.size 46 1 u6 x.length (numK .u16 (x))) := HO
          obtain ⟨Av, cv, rfl, hcv⟩ := own_is_slice HO'.out
          have k0 := cell_keep HB.out K2.out
          have HN := Lib.hid (rd_news (R2.out.below HB.out))
          have hbs := HB.out.size
          clear HO
          go_wp2_with (at_builtin; refine wpList_append_own _ rfl _ _ 49 rfl w.heap.size 46 i0 (.int .u16 0) 1 2 Tryd.underlying49 hi hz0 hz1 hz2 rfl (by decide) _ x.length (numK .u16 (x)) rfl HO'.out a2 y.length c2 (numK .u16 y) rfl (by rw [numK_len]; omega) HN.out (one_numK _ _) (by simp only [maxLen]; omega) (by omega) hbs ?_; intro v' w3 hown3 hgrow3 _; (have HO3 := Lib.hid hown3); (have HB3 := Lib.hid (HB.out.grown hgrow3 hbs (fun kk hk => (HO'.out.lt kk hk).1))); clear hown3 hgrow3)
          have HO4 : w3.ownsRow w.heap.size 46 1 v' (x.length + y.length) (numK .u16 (x ++ y)) := by
            have := HO3.out
            rw [← numK_append] at this
            simpa using this
          exact ⟨⟨2, by omega, rfl, Lib.hid HO4, HB3⟩, by simp only [intOf]; omega⟩
        · have HO' : Hid (wr.ownsRow w.heap.size 46 1 u6 (x.length + y.length) (numK .u16 (x ++ y))) := HO
          obtain ⟨Av, cv, rfl, hcv⟩ := own_is_slice HO'.out
          have k0 := cell_keep HB.out K3.out
          have HN := Lib.hid (rd_news (R3.out.below HB.out))
          have hbs := HB.out.size
          clear HO
          go_wp2_with (at_builtin; refine wpList_append_own _ rfl _ _ 49 rfl w.heap.size 46 i0 (.int .u16 0) 1 2 Tryd.underlying49 hi hz0 hz1 hz2 rfl (by decide) _ (x.length + y.length) (numK .u16 (x ++ y)) rfl HO'.out a3 z.length c3 (numK .u16 z) rfl (by rw [numK_len]; omega) HN.out (one_numK _ _) (by simp only [maxLen]; omega) (by omega) hbs ?_; intro v' w3 hown3 hgrow3 _; (have HO3 := Lib.hid hown3); (have HB3 := Lib.hid (HB.out.grown hgrow3 hbs (fun kk hk => (HO'.out.lt kk hk).1))); clear hown3 hgrow3)
          have HO4 : w3.ownsRow w.heap.size 46 1 v' (x.length + y.length + z.length) (numK .u16 (x ++ y ++ z)) := by
            have := HO3.out
            rw [← numK_append] at this
            simpa using this
          exact ⟨⟨3, by omega, rfl, Lib.hid HO4, HB3⟩, by simp only [intOf]; omega⟩
        · have HO' : Hid (wr.ownsRow w.heap.size 46 1 u6 (x.length + y.length + z.length) (numK .u16 (x ++ y ++ z))) := HO
          go_wp2
          go_ret
          exact ⟨_, rfl, HO'.out, HB.out⟩
end Go.Proofs.YtmbdiimenmnfjaaDoor
/- Walks: Key. -/
namespace Go.Proofs.YtmbdiimenmnfjaaDoor
open Go.RowKit Go.Deep
set_option linter.unusedVariables false
set_option linter.unusedSimpArgs false

/-- Two bytes for each unit. -/
def keyB (xs : List Int) : List Int := xs.flatMap fun u => [u / 256, u % 256]
theorem keyB_snoc (xs : List Int) (u : Int) : keyB (xs ++ [u]) = keyB xs ++ [u / 256, u % 256] := by simp [keyB]
theorem keyB_len (xs : List Int) : (keyB xs).length = 2 * xs.length := by
  induction xs with
  | nil => rfl
  | cons x xs ih => simp [keyB] at ih ⊢; omega
/-- What 'Key' says of units. -/
def keyM (r : List Int) : List Int := keyB (r.map upM ++ [0] ++ r)

theorem own_apart {w : World} {b1 b2 : Nat} {e1 e2 : TypeId} {s1 s2 n1 n2 : Nat} {v1 v2 : Value} {x1 x2 : List Value} (h1 : w.ownsRow b1 e1 s1 v1 n1 x1) (h2 : w.ownsRow b2 e2 s2 v2 n2 x2) (hne : e1 ≠ e2) : ∀ k, v1.ownBlock = some k → v2.ownBlock ≠ some k := by
  intro k hk hk2
  obtain ⟨-, ⟨rfl, -⟩ | ⟨g, cap, cur, rfl, -, hh, -⟩⟩ := h1
  · simp [Value.ownBlock] at hk
  obtain ⟨-, ⟨rfl, -⟩ | ⟨g2, cap2, cur2, rfl, -, hh2, -⟩⟩ := h2
  · simp [Value.ownBlock] at hk2
  have q1 : g = k := by simpa [Value.ownBlock] using hk
  have q2 : g2 = k := by simpa [Value.ownBlock] using hk2
  subst q1 q2
  rw [hh] at hh2
  cases hh2
  exact hne rfl

theorem concat_key (w : World) (a1 a3 : Addr) (c1 c3 g : Nat) (r : List Int) (hg : g = w.heap.size + 1) (x : List Int) (hxl : x.length = r.length) (r1 : Rd w .u16 (some a1) r.length x) (r3 : Rd w .u16 (some a3) r.length r) (l1 : r.length ≤ 100000) (lp : 1 ≤ r.length) :
    Calls Tryd.prog 46 #[.slice (some ⟨g, 0, none⟩) 3 3] ((w.alloc (.cells #[.int .u16 0] 46)).alloc (.cells #[.slice (some a1) r.length c1, .slice (some ⟨w.heap.size, 0, none⟩) 1 1, .slice (some a3) r.length c3] 49)) fun e w' =>
      ∃ v, e = .returned v ∧ w'.ownsRow w.heap.size 46 1 v (2 * r.length + 1) (numK .u16 (x ++ [0] ++ r)) ∧ Below w.heap.size w w' := by
  have hb : Below w.heap.size w ((w.alloc (.cells #[.int .u16 0] 46)).alloc (.cells #[.slice (some a1) r.length c1, .slice (some ⟨w.heap.size, 0, none⟩) 1 1, .slice (some a3) r.length c3] 49)) := below_al (below_al (Below.refl _ _) _) _
  obtain ⟨W, hW⟩ : ∃ W, (w.alloc (.cells #[.int .u16 0] 46)).alloc (.cells #[.slice (some a1) r.length c1, .slice (some ⟨w.heap.size, 0, none⟩) 1 1, .slice (some a3) r.length c3] 49) = W := ⟨_, rfl⟩
  have hc : ∀ j u, [Value.slice (some a1) r.length c1, .slice (some ⟨w.heap.size, 0, none⟩) 1 1, .slice (some a3) r.length c3][j]? = some u → W.cell? ⟨g, j, none⟩ = some u := fun j u hu => by
    have := cells_new (w.alloc (.cells #[.int .u16 0] 46)) g (by simp [hg]) _ 49 j u hu
    rw [Addr.add_lit, Nat.zero_add] at this
    rw [← hW]
    exact this
  have hz : W.cell? ⟨w.heap.size, 0, none⟩ = some (.int .u16 0) := by
    have h1 : (w.alloc (.cells #[.int .u16 0] 46)).cell? ⟨w.heap.size, 0, none⟩ = some (.int .u16 0) := by
      rw [cell_of_row _ _ _ _ _ _ (heap_alloc_new w (.cells #[.int .u16 0] 46))]; rfl
    rw [← hW]
    exact cell_keep (below_al (Below.refl _ _) _) h1
  rw [hW] at hb ⊢
  have ry : Rd W .u16 (some ⟨w.heap.size, 0, none⟩) [(0 : Int)].length [0] := ⟨rfl, by decide, fun j hj => ⟨_, rfl, by
    have : j = 0 := by simpa using hj
    subst this
    exact hz⟩⟩
  have := concat_any g 3 a1 ⟨w.heap.size, 0, none⟩ a3 c1 1 c3 x [0] r W (by decide) (hc 0 _ (by rw [hxl]; rfl)) (hc 1 _ rfl) (hc 2 _ rfl) (by rw [hxl]; exact r1.below hb) ry (r3.below hb) (by omega) (by decide) l1 (by omega)
  refine this.mono ?_
  rintro e w' ⟨v, rfl, hO, hB⟩
  have hs := hb.size
  refine ⟨v, rfl, own_weak (base := W.heap.size) ?_ hs, below_then hb hs hB⟩
  have hl : x.length + [(0 : Int)].length + r.length = 2 * r.length + 1 := by rw [hxl]; simp; omega
  rw [hl] at hO
  exact hO

set_option maxRecDepth 100000 in
set_option maxHeartbeats 4000000 in
theorem key_no (s : ByteArray) (hs : s.size ≤ 40000) (w : World) (hc : checkM s ≠ 0) :
    Calls Tryd.prog 17 #[.string s] w fun e w' => e = .returned (.tuple #[.slice none 0 0, .int .i64 (checkM s)]) ∧ Below w.heap.size w w' := by
  obtain ⟨C, hC⟩ : ∃ C, checkM s = C := ⟨_, rfl⟩
  rw [hC] at hc ⊢
  have HC := Lib.hid hC
  clear hC
  go_enter Tryd.func17, Tryd.ntmps17
  go_wp2_with (go_at_call 20; refine (check_any s (by omega) _).mono ?_; rintro e w1 ⟨rfl, hB⟩; rw [HC.out]; (have HB := Lib.hid hB); clear hB)
  go_ret2
  exact ⟨rfl, HB.out⟩

theorem check_units {s : ByteArray} (h : checkM s = 0) : ∃ r, getU s = some r ∧ 1 ≤ r.length ∧ r.length ≤ 32 ∧ nameBad s = false ∧ r.any unitBad = false := by
  unfold checkM at h
  cases hg : getU s with
  | none => rw [hg] at h; simp at h
  | some r =>
    rw [hg] at h
    simp only at h
    split at h
    · simp at h
    · rename_i hn
      split at h
      · simp at h
      · rename_i hm
        exact ⟨r, rfl, by omega, by omega, by simp_all, by simpa using hm⟩

set_option maxRecDepth 100000 in
set_option maxHeartbeats 4000000 in
theorem key_ok (s : ByteArray) (hs : s.size ≤ 40000) (w : World) (hc : checkM s = 0) (r : List Int) (hg : getU s = some r) :
    Calls Tryd.prog 17 #[.string s] w fun e w' => ∃ v, e = .returned (.tuple #[v, .int .i64 0]) ∧ w'.ownsRow w.heap.size 5 1 v (keyM r).length (numK .u8 (keyM r)) ∧ Below w.heap.size w w' := by
  obtain ⟨i5, h5i, h5z, h51, h5b⟩ := info_parts info5
  obtain ⟨r', hg', hr1, hr2, -, -⟩ := check_units hc
  rw [hg] at hg'
  cases hg'
  have HC := Lib.hid hc
  have H := Lib.hid (getU_some hg)
  have hp := getU_props hg
  have HX := Lib.hid hp.1
  clear hp hg hc
  go_enter Tryd.func17, Tryd.ntmps17
  go_wp2_with (first
    | (go_at_call 20; refine (check_any s (by omega) _).mono ?_; rintro e w1 ⟨rfl, hB⟩; rw [HC.out]; (have HB1 := Lib.hid hB); clear hB)
    | (go_at_call 45; refine (read_rd s (by omega) _ _ _ H.out).mono ?_; rintro e w2 ⟨A, c, rfl, hcc, hR, hB⟩; obtain ⟨ad, hA, -⟩ := hR.at_ 0 (by omega); subst hA; (have HR := Lib.hid hR); (have HB2 := Lib.hid (below_then HB1.out HB1.out.size hB)); clear hB hR)
    | (go_at_call 47; refine (raised_rd (some ad) c r (by omega) HX.out _ HR.out).mono ?_; rintro e w3 ⟨A3, c3, rfl, hc3, hR, hB⟩; obtain ⟨ad3, hA, -⟩ := hR.at_ 0 (by omega); subst hA; (have HR3 := Lib.hid hR); (have HR := Lib.hid (HR.out.below hB)); (have HB3 := Lib.hid (below_then HB2.out HB2.out.size hB)); clear hB hR)
    | (go_at_call 46; refine (concat_key _ ad3 ad c3 c _ r rfl (r.map upM) (by simp) HR3.out HR.out (by omega) (by omega)).mono ?_; rintro e w4 ⟨v, rfl, hO, hB⟩; obtain ⟨Av, cv, rfl, hcv⟩ := own_is_slice hO; (have HO4 := Lib.hid (own_weak hO HB3.out.size)); (have HB4 := Lib.hid (below_then HB3.out HB3.out.size hB)); clear hB hO))
  obtain ⟨xs, hxs⟩ : ∃ xs, r.map upM ++ [0] ++ r = xs := ⟨_, rfl⟩
  obtain ⟨L, hL⟩ : ∃ L, 2 * r.length + 1 = L := ⟨_, rfl⟩
  have hxl : xs.length = L := by rw [← hxs, ← hL]; simp; omega
  have hxu : U16 xs := by
    rw [← hxs]
    intro u hu
    rcases List.mem_append.1 hu with h | h
    · rcases List.mem_append.1 h with h | h
      · exact HX.out.map_up u h
      · have : u = 0 := by simpa using h
        omega
    · exact HX.out u h
  have HO : Hid (w4.ownsRow w.heap.size 46 1 (.slice Av L cv) L (numK .u16 xs)) := Lib.hid (by rw [← hL, ← hxs]; exact HO4.out)
  have hk : keyM r = keyB xs := by rw [← hxs]; rfl
  have HXU := Lib.hid hxu
  have HXL := Lib.hid hxl
  have HK := Lib.hid hk
  have hLi : 2 * (r.length : Int) + 1 = (L : Int) := by omega
  rw [hL] at hcv
  simp only [hL, hLi]
  have hL2 : L ≤ 65 := by omega
  have HLr := Lib.hid hL
  clear hL hLi
  clear HO4 HR HR3 hxs hxl hxu hk HB1 HB2 HB3
  go_loopw [7, 27] (fun v i W => ∃ j : Nat, j ≤ L ∧ i = .int .i64 j ∧ Hid (W.ownsRow w.heap.size 46 1 (.slice Av L cv) L (numK .u16 xs)) ∧ Hid (W.ownsRow w.heap.size 5 1 v (2 * j) (numK .u8 (keyB (xs.take j)))) ∧ Hid (Below w.heap.size w W)) (fun _ i _ => L - (intOf i).toNat)
  case atStart => exact ⟨0, by omega, rfl, HO, Lib.hid (World.ownsRow_nil _ _ _ _), HB4⟩
  case round =>
    clear HO HB4
    obtain ⟨j, hj, rfl, HO, HQ, HB⟩ := hrel
    obtain ⟨Aq, cq, rfl, hcq⟩ := own_is_slice HQ.out
    by_cases hlt : j < L
    · have hlti : (j : Int) < L := by omega
      obtain ⟨A', c', e, hc', hRd, -⟩ := own_nums HO.out (by omega)
      cases e
      obtain ⟨ad5, hA, hcl⟩ := hRd.at_ j hlt
      subst hA
      obtain ⟨x, hx⟩ : ∃ x, xs.getD j 0 = x := ⟨_, rfl⟩
      have hxb := HXU.out.get j
      rw [hx] at hcl hxb
      have htk : xs.take (j + 1) = xs.take j ++ [x] := by rw [List.take_add_one, ← hx, List.getD_eq_getElem?_getD, List.getElem?_eq_getElem (by rw [HXL.out]; exact hlt)]; rfl
      have HTK := Lib.hid htk
      have hbs := HB.out.size
      clear hRd hx htk
      go_wp2_with (at_builtin; refine wpList_append_own _ rfl _ _ 26 rfl w.heap.size 5 i5 _ 1 1 Tryd.underlying26 h5i h5z h51 h5b rfl (by decide) _ (2 * j) (numK .u8 (keyB (xs.take j))) rfl (World.ownsRow.alloc HQ.out _) ⟨_, 0, none⟩ 2 2 [.int .u8 (x / 256), .int .u8 (x % 256)] rfl rfl (cells_new _ _ rfl _ _) (by simp [Value.oneCell']) (by simp only [maxLen]; omega) (by omega) (by simp; omega) ?_; intro v' w6 hown6 hgrow6 _; (have HQ6 := Lib.hid hown6); (have HB6 := Lib.hid ((below_al HB.out _).grown hgrow6 (by simp; omega) (fun kk hk => (HQ.out.lt kk hk).1))); (have HO6 := Lib.hid ((World.ownsRow.alloc HO.out _).kept hgrow6 (by cases hq : (Value.slice (some ad5) L cv).ownBlock with | none => exact .inl rfl | some k => exact .inr (fun e => own_apart HO.out HQ.out (by decide) k hq e.symm)))); clear hown6 hgrow6)
      refine ⟨⟨j + 1, by omega, by simp, HO6, Lib.hid ?_, HB6⟩, by simp only [intOf]; omega⟩
      rw [HTK.out, keyB_snoc, numK_append]
      exact HQ6.out
    · have hie : j = L := by omega
      subst hie
      have hlti : ¬ ((j : Int) < j) := by omega
      go_wp2
      go_ret2
      refine ⟨_, rfl, ?_, HB.out⟩
      have := HQ.out
      rw [List.take_of_length_le (by rw [HXL.out]; omega)] at this
      rw [HK.out, keyB_len, HXL.out]
      exact this
end Go.Proofs.YtmbdiimenmnfjaaDoor
/- Maps with elements of the kind bool: which keys are in. -/
namespace Go.Proofs.YtmbdiimenmnfjaaDoor
open Go.RowKit
set_option maxRecDepth 100000
set_option linter.unusedVariables false
set_option linter.unusedSimpArgs false

/-- The block b holds a map that says 'true' at the keys xs alone. -/
def BM {α : Type} [DecidableEq α] (k : TypeId) (mk : α → Lit) (b N : Nat) (xs : List α) (W : World) : Prop :=
  ∃ (n : Nat) (D : DataW Unit), n ≤ N ∧ W.ownsMap Tryd.prog k (plainElem Tryd.prog 4) b n D ∧ ∀ u, D.atKey (mk u) (.lit (.bool false)) = .lit (.bool (decide (u ∈ xs)))

section
variable {α : Type} [DecidableEq α] {k t : TypeId} {mk : α → Lit} {b N : Nat} {xs : List α} {W : World}

theorem BM.made (W : World) (k : TypeId) (mk : α → Lit) : BM k mk W.heap.size 0 ([] : List α) (W.alloc (.map #[] 0)) :=
  ⟨0, .map [], Nat.le_refl _, World.ownsMap_made W Tryd.prog k _, fun u => by simp [DataW.atKey]⟩
theorem BM.lt (h : BM k mk b N xs W) : b < W.heap.size := let ⟨_, _, _, h, _⟩ := h; h.lt
theorem BM.kept {W' : World} {row : Option Nat} (h : BM k mk b N xs W) (hg : W.grownBy W' row) (hne : some b ≠ row) : BM k mk b N xs W' := by
  obtain ⟨n, D, h1, h2, h3⟩ := h
  exact ⟨n, D, h1, h2.kept hg hne, h3⟩
theorem BM.below {W' : World} (h : BM k mk b N xs W) (hb : Below W.heap.size W W') : BM k mk b N xs W' :=
  h.kept (row := none) ⟨hb.os, hb.tape, hb.output, hb.size, fun i hi _ => hb.block i hi⟩ (by simp)
theorem BM.drewN (h : BM k mk b N xs W) (n : Nat) : BM k mk b N xs (W.drewN n) := h.kept (row := none) ⟨rfl, rfl, rfl, Nat.le_refl _, fun _ _ _ => rfl⟩ (by simp)
theorem BM.look (h : BM k mk b N xs W) (K : Maps.Keyed Tryd.prog k) (ht : Tryd.prog.underlying t = some (.map k 4)) {key : Value} {u : α} (hk : keyOf Tryd.prog k key = some (mk u)) :
    (Instr.lookup t (.map (some b)) key false).run Tryd.prog W = .ok (.bool (decide (u ∈ xs))) W := by
  obtain ⟨n, D, h1, h2, h3⟩ := h
  obtain ⟨v, ps, hrun, hv⟩ := h2.lookup K ht (z := .bool false) (Tryd.zeroValue4 W) (plainElem_bool Tryd.underlying4 false) hk
  rw [h3 u] at hv
  rw [hrun]
  unfold plainElem at hv
  rw [Tryd.underlying4] at hv
  cases v <;> simp at hv
  rw [hv.1]
theorem BM.upd (h : BM k mk b N xs W) (K : Maps.Keyed Tryd.prog k) (ht : Tryd.prog.underlying t = some (.map k 4)) {key : Value} {u : α} (hk : keyOf Tryd.prog k key = some (mk u)) (hN : N < 1000000)
    (hinj : ∀ a b, mk a = mk b → a = b) (hlit : WideAt.IsKeyLit (mk u)) :
    ∃ W', (Instr.mapUpdate t (.map (some b)) key (.bool true)).run Tryd.prog W = .ok () W' ∧ BM k mk b (N + 1) (xs ++ [u]) W' ∧ W.grownBy W' (some b) := by
  obtain ⟨n, D, h1, h2, h3⟩ := h
  obtain ⟨W', hrun, hown, hg⟩ := h2.update K ht (by unfold maxLen; omega) hk (plainElem_bool Tryd.underlying4 true)
  refine ⟨W', hrun, ⟨n + 1, _, by omega, hown, fun a => ?_⟩, hg⟩
  by_cases ha : a = u
  · subst ha
    rw [Maps.atKey_put_same h2.isMap hlit]
    simp
  · rw [Maps.atKey_put_other (fun e => ha (hinj _ _ e)), h3 a]
    simp [ha]
theorem wpList_upd {ops : Array Oper} {rest : List Oper} {o : Oper} {a : Act} {Q : Exit → Act → World → Prop} (hg : o.guard = none) (m x v : Operand) (hop : o.op = Op.mapUpdate t m x v)
    (h : BM k mk b N xs W) (K : Maps.Keyed Tryd.prog k) (ht : Tryd.prog.underlying t = some (.map k 4)) (hm : a.eval m = .map (some b)) {key : Value} (hx : a.eval x = key) (hv : a.eval v = .bool true) {u : α}
    (hk : keyOf Tryd.prog k key = some (mk u)) (hN : N < 1000000) (hinj : ∀ a b, mk a = mk b → a = b) (hlit : WideAt.IsKeyLit (mk u))
    (hK : ∀ W', BM k mk b (N + 1) (xs ++ [u]) W' → W.grownBy W' (some b) → wpList Tryd.prog ops Q rest (a.put o.dst undef) W') : wpList Tryd.prog ops Q (o :: rest) a W := by
  refine wpList_plain hg fun K' hK' => ?_
  obtain ⟨w', hrun, r1, r2⟩ := h.upd K ht hk hN hinj hlit
  unfold Oper.wp
  simp [execOp, hop, hm, hx, hv, hrun, Result.andThen]
  exact hK' _ _ (hK w' r1 r2)
end

/-- The next round of a range over a string, at a byte below 128, wherever the record lies. -/
theorem run_next_asc (W : World) (s : ByteArray) (r pos : Nat) (ty : TypeId) (hr : W.heap[r]? = some (.stringIter s pos)) (h : pos < s.size) (ha : (s[pos]'h).toNat < 128) :
    (Instr.next (.pointer (some ⟨r, 0, none⟩)) true ty).run Tryd.prog W = .ok (.tuple #[.bool true, .int .i64 pos, .int .i32 (s[pos]'h).toNat]) (W.putObj r (.stringIter s (pos + 1))) := by
  simp only [Instr.next, getObj, setObj, Sem.run_bind, Sem.run, hr, Result.andThen, h, if_true, decode_ascii s pos h ha]
  simp [goInt, Sem.run, hr, World.putObj]
theorem run_next_off (W : World) (s : ByteArray) (r pos : Nat) (ty : TypeId) (hr : W.heap[r]? = some (.stringIter s pos)) (h : ¬ pos < s.size) :
    (Instr.next (.pointer (some ⟨r, 0, none⟩)) true ty).run Tryd.prog W = .ok (.tuple #[.bool false]) W := by
  simp [Instr.next, getObj, Sem.run, hr, h]
end Go.Proofs.YtmbdiimenmnfjaaDoor
/- Maps with strings for keys and elements of the kind bool. -/
namespace Go.Proofs.YtmbdiimenmnfjaaDoor
open Go.RowKit
set_option maxRecDepth 100000
set_option linter.unusedVariables false
set_option linter.unusedSimpArgs false

/-- A string as a key. -/
def litS (s : ByteArray) : Lit := .string s.data.toList
theorem str_keyed : Maps.Keyed Tryd.prog 9 := Maps.string_keyed Tryd.underlying9
theorem str_key (s : ByteArray) (h : s.size ≤ 1000000) : keyOf Tryd.prog 9 (.string s) = some (litS s) := by
  simp [keyOf, Tryd.underlying9, mapKey, litS]
  try (unfold maxLen; omega)
theorem litS_inj : ∀ a b : ByteArray, litS a = litS b → a = b := fun a b h => by
  unfold litS at h
  have h1 := Lit.string.inj h
  cases a; cases b
  congr
  exact Array.toList_inj.1 h1
end Go.Proofs.YtmbdiimenmnfjaaDoor
/- Walks: characters. -/
namespace Go.Proofs.YtmbdiimenmnfjaaDoor
open Go.RowKit Go.Deep
set_option linter.unusedVariables false
set_option linter.unusedSimpArgs false

def charS : ByteArray := ⟨#[65, 66, 67, 68, 69, 70, 71, 72, 73, 74, 75, 76, 77, 78, 79, 80, 81, 82, 83, 84, 85, 86, 87, 88, 89, 90, 48, 49, 50, 51, 52, 53, 54, 55, 56, 57, 33, 35, 36, 37, 38, 39, 40, 41, 45, 64, 94, 95, 123, 125, 126]⟩
/-- The characters of short names. -/
def charL : List Int := [65, 66, 67, 68, 69, 70, 71, 72, 73, 74, 75, 76, 77, 78, 79, 80, 81, 82, 83, 84, 85, 86, 87, 88, 89, 90, 48, 49, 50, 51, 52, 53, 54, 55, 56, 57, 33, 35, 36, 37, 38, 39, 40, 41, 45, 64, 94, 95, 123, 125, 126]
theorem charS_at (pos : Nat) (h : pos < charS.size) : ((charS[pos]'h).toNat : Int) = charL.getD pos 0 ∧ (charS[pos]'h).toNat < 128 := by
  have h1 : bts charS = charL := by decide
  have h2 := bts_get charS pos h
  rw [h1] at h2
  refine ⟨h2.symm, ?_⟩
  have h3 : ∀ x ∈ charL, x < 128 := by decide
  have hl : pos < charL.length := h
  have := h3 _ (List.getElem_mem hl)
  rw [List.getD_eq_getElem?_getD, List.getElem?_eq_getElem hl] at h2
  have h4 : charL[pos] = ((charS[pos]'h).toNat : Int) := h2
  omega
theorem u16_keyed : Maps.Keyed Tryd.prog 46 := Maps.int_keyed Tryd.underlying46
theorem u16_key {u : Int} (h0 : 0 ≤ u) (h1 : u ≤ 65535) : keyOf Tryd.prog 46 (.int .u16 u) = some (.int .u16 u) :=
  Maps.keyOf_int_mk Tryd.underlying46 (by simp [Lit.wf, IntKind.min, IntKind.max, IntKind.signed, IntKind.bits]; omega)
theorem u16_inj : ∀ a b : Int, Lit.int .u16 a = Lit.int .u16 b → a = b := fun a b h => by cases h; rfl

set_option maxRecDepth 100000 in
set_option maxHeartbeats 4000000 in
theorem characters_any (w : World) : Calls Tryd.prog 56 #[] w fun e w' => ∃ b, e = .returned (.map (some b)) ∧ BM 46 (Lit.int .u16) b 100 charL w' ∧ w.heap.size ≤ b ∧ Below w.heap.size w w' := by
  obtain ⟨S, hS⟩ : ∃ S, charS = S := ⟨_, rfl⟩
  have hsz : S.size = 51 := by rw [← hS]; rfl
  have hat : ∀ pos (h : pos < S.size), ((S[pos]'h).toNat : Int) = charL.getD pos 0 ∧ (S[pos]'h).toNat < 128 := by subst hS; exact charS_at
  have HAT := Lib.hid hat
  have hmk : ∀ w : World, (Instr.makeMap 78 none).run Tryd.prog w = .ok (.map (some w.heap.size)) (w.alloc (.map #[] 0)) := fun w => rfl
  go_enter Tryd.func56, Tryd.ntmps56
  go_wp2
  have hcs : (⟨#[65, 66, 67, 68, 69, 70, 71, 72, 73, 74, 75, 76, 77, 78, 79, 80, 81, 82, 83, 84, 85, 86, 87, 88, 89, 90, 48, 49, 50, 51, 52, 53, 54, 55, 56, 57, 33, 35, 36, 37, 38, 39, 40, 41, 45, 64, 94, 95, 123, 125, 126]⟩ : ByteArray) = S := hS
  rw [hcs]
  clear hcs hS hat
  obtain ⟨B, hB⟩ : ∃ B, w.heap.size = B := ⟨_, rfl⟩
  obtain ⟨W0, hW0⟩ : ∃ W0, (w.alloc (.map #[] 0)).iter S 0 = W0 := ⟨_, rfl⟩
  have hsz0 : (w.alloc (.map #[] 0)).heap.size = B + 1 := by simp [hB]
  have hi0 : W0.heap[B + 1]? = some (.stringIter S 0) := by rw [← hW0, ← hsz0]; exact World.iter_heap _ _ _
  have hm0 : BM 46 (Lit.int .u16) B 0 ([] : List Int) W0 := by
    have := BM.made w 46 (Lit.int .u16)
    rw [hB] at this
    rw [← hW0]
    exact this.below (one_alloc _ _)
  have hb0 : Below B w W0 := by rw [← hW0, ← hB]; exact below_al (below_al (Below.refl _ _) _) _
  rw [hW0, hB]
  have HI0 : Hid (W0.heap[B + 1]? = some (.stringIter S 0)) := Lib.hid hi0
  have HM0 : Hid (BM 46 (Lit.int .u16) B 0 (charL.take 0) W0) := Lib.hid hm0
  have HB0 := Lib.hid hb0
  have HBB := Lib.hid hB
  clear hW0 hB hsz0 hi0 hm0 hb0
  go_loopw [3] (fun v3 W => ∃ pos : Nat, pos ≤ 51 ∧ Hid (W.heap[B + 1]? = some (.stringIter S pos)) ∧ Hid (BM 46 (Lit.int .u16) B pos (charL.take pos) W) ∧ Hid (Below B w W)) (fun _ W => 51 - W.iterPos (B + 1))
  case atStart => exact ⟨0, by omega, HI0, HM0, HB0⟩
  case round =>
    clear HI0 HM0 HB0
    obtain ⟨pos, hpos, HI, HM, HB⟩ := hrel
    by_cases hlt : pos < 51
    · have hp : pos < S.size := by omega
      obtain ⟨ha, hx7⟩ := HAT.out pos hp
      obtain ⟨x, hx⟩ : ∃ x, charL.getD pos 0 = x := ⟨_, rfl⟩
      rw [hx] at ha
      have hnx : ∀ ty, (Instr.next (.pointer (some ⟨B + 1, 0, none⟩)) true ty).run Tryd.prog wr = .ok (.tuple #[.bool true, .int .i64 pos, .int .i32 x]) (wr.putObj (B + 1) (.stringIter S (pos + 1))) := fun ty => by
        rw [run_next_asc wr S (B + 1) pos ty HI.out hp hx7, ha]
      have hxb : 0 ≤ x ∧ x < 128 := by omega
      have htk : charL.take (pos + 1) = charL.take pos ++ [x] := by rw [List.take_add_one, ← hx, List.getD_eq_getElem?_getD, List.getElem?_eq_getElem (show pos < charL.length from hlt)]; rfl
      have HTK := Lib.hid htk
      have hip : wr.iterPos (B + 1) = pos := by unfold World.iterPos; rw [HI.out]
      have HIP := Lib.hid hip
      have hBl := HM.out.lt
      have hB1 : B + 1 < wr.heap.size := (Array.getElem?_eq_some_iff.1 HI.out).1
      have HM' : Hid (BM 46 (Lit.int .u16) B pos (charL.take pos) (wr.putObj (B + 1) (.stringIter S (pos + 1)))) := Lib.hid (HM.out.kept (grownBy_putObj' _ _ _) (by simp))
      have HI' : Hid ((wr.putObj (B + 1) (.stringIter S (pos + 1))).heap[B + 1]? = some (.stringIter S (pos + 1))) := Lib.hid (World.putObj_heap_same hB1)
      have HB' : Hid (Below B w (wr.putObj (B + 1) (.stringIter S (pos + 1)))) := Lib.hid (putObj_below HB.out (by omega) (by omega))
      clear ha hx7 hx htk hip
      go_wp2_with (at_mapUpdate; refine wpList_upd rfl _ _ _ rfl HM'.out u16_keyed Tryd.underlying78 rfl rfl rfl (u16_key (u := x) (by omega) (by omega)) (by omega) u16_inj trivial ?_; intro W' hbm hg; (have HM2 := Lib.hid hbm); (have HG2 := Lib.hid hg); clear hbm hg)
      have HI2 : Hid (W'.heap[B + 1]? = some (.stringIter S (pos + 1))) := Lib.hid ((HG2.out.block (B + 1) (Array.getElem?_eq_some_iff.1 HI'.out).1 (by simp)).trans HI'.out)
      have HB2 : Hid (Below B w W') := Lib.hid (HB'.out.grown HG2.out (by have := (Array.getElem?_eq_some_iff.1 HI'.out).1; omega) (fun k e => by cases e; exact Nat.le_refl _))
      go_roundw
      case rel => exact ⟨_, _, _, _, _, _, _, ⟨pos + 1, by omega, HI2, by rw [HTK.out]; exact HM2, HB2⟩, rfl⟩
      case measure =>
        have h1 : W'.iterPos (B + 1) = pos + 1 := by unfold World.iterPos; rw [HI2.out]
        rw [h1, HIP.out]
        omega
    · have hpe : pos = 51 := by omega
      subst hpe
      have hnx : ∀ ty, (Instr.next (.pointer (some ⟨B + 1, 0, none⟩)) true ty).run Tryd.prog wr = .ok (.tuple #[.bool false]) wr := fun ty => run_next_off wr S (B + 1) 51 ty HI.out (by omega)
      have HMe : Hid (BM 46 (Lit.int .u16) B 51 charL wr) := HM
      go_wp2
      go_ret
      rw [HBB.out]
      obtain ⟨n, D, h1, h2, h3⟩ := HMe.out
      exact ⟨B, rfl, ⟨n, D, by omega, h2, h3⟩, Nat.le_refl _, HB.out⟩
end Go.Proofs.YtmbdiimenmnfjaaDoor
/- Walks: strings.Cut at a dot, IsShort. -/
namespace Go.Proofs.YtmbdiimenmnfjaaDoor
open Go.RowKit Go.Deep
set_option linter.unusedVariables false
set_option linter.unusedSimpArgs false

/-- Where the first dot is. -/
def dotAt (s : ByteArray) : Int := Lib.indexByte s.data.toList 46
/-- What is ahead of the first dot, what is behind it, whether there is one. -/
def cutM (s : ByteArray) : ByteArray × ByteArray × Bool := if 0 ≤ dotAt s then (s.extract 0 (dotAt s).toNat, s.extract ((dotAt s).toNat + 1) s.size, true) else (s, ByteArray.empty, false)
theorem dotAt_lt (s : ByteArray) : -1 ≤ dotAt s ∧ (0 ≤ dotAt s → (dotAt s).toNat < s.size) := by
  have h := Lib.indexByte_ge s.data.toList 46
  refine ⟨h, fun h0 => ?_⟩
  obtain ⟨o, ho⟩ : ∃ o : Nat, dotAt s = o := ⟨(dotAt s).toNat, by omega⟩
  have h1 := (Lib.indexByte_some (l := s.data.toList) (c := 46) (o := o) ho).1
  obtain ⟨h2, -⟩ := List.getElem?_eq_some_iff.1 h1
  have h3 : s.data.toList.length = s.size := by rw [Array.length_toList]; rfl
  rw [ho]
  simp only [Int.toNat_natCast]
  omega

set_option maxRecDepth 100000 in
set_option maxHeartbeats 4000000 in
theorem slcut_dot (s : ByteArray) (hs : s.size ≤ 1000000) (w : World) : Calls Tryd.prog 75 #[.string s, .string ⟨#[46]⟩] w fun e w' => e = .returned (.tuple #[.string (cutM s).1, .string (cutM s).2.1, .bool (cutM s).2.2]) ∧ Drawn w w' := by
  have hd := dotAt_lt s
  obtain ⟨d, hdd⟩ : ∃ d, dotAt s = d := ⟨_, rfl⟩
  have HD := Lib.hid hdd
  rw [hdd] at hd
  by_cases h0 : 0 ≤ d
  · have e1 : cutM s = (s.extract 0 d.toNat, s.extract (d.toNat + 1) s.size, true) := by unfold cutM; rw [hdd, if_pos h0]
    obtain ⟨k, rfl⟩ : ∃ k : Nat, d = k := ⟨d.toNat, by omega⟩
    have hk : k < s.size := by simpa using hd.2 h0
    simp only [Int.toNat_natCast] at e1
    rw [e1]
    have hks : (k : Int) ≤ s.size := by omega
    have hks1 : (k : Int) + 1 ≤ s.size := by omega
    have hw : IntKind.i64.wrap ((k : Int) + 1) = (k : Int) + 1 := IntWalk.i64_in _ (by omega)
    have hk1 : (0 : Int) ≤ (k : Int) + 1 := by omega
    have hkn : ((k : Int) + 1).toNat = k + 1 := by omega
    clear hd hdd e1
    go_enter Tryd.func75, Tryd.ntmps75
    go_wp2_with (go_at_call 90; refine (Tryd.stringslite_Index_one s 46 _).mono ?_; rintro e w1 ⟨rfl, rfl⟩; rw [show Lib.indexByte s.data.toList 46 = (k : Int) from HD.out])
    go_region
    go_wp2
    exact bodyPost_ret (v := .tuple #[.string (s.extract 0 k), .string (s.extract (k + 1) s.size), .bool true]) (by simp [results, Tryd.results75, go_sem]) rfl ⟨rfl, ⟨1, rfl⟩⟩
  · have e1 : cutM s = (s, ByteArray.empty, false) := by unfold cutM; rw [hdd, if_neg h0]
    rw [e1]
    clear hd hdd e1
    go_enter Tryd.func75, Tryd.ntmps75
    go_wp2_with (go_at_call 90; refine (Tryd.stringslite_Index_one s 46 _).mono ?_; rintro e w1 ⟨rfl, rfl⟩; rw [show Lib.indexByte s.data.toList 46 = d from HD.out])
    exact bodyPost_ret (v := .tuple #[.string s, .string ByteArray.empty, .bool false]) (by simp [results, Tryd.results75, go_sem]; rfl) rfl ⟨rfl, Drawn.refl _⟩

set_option maxRecDepth 100000 in
theorem cut_dot (s : ByteArray) (hs : s.size ≤ 1000000) (w : World) : Calls Tryd.prog 55 #[.string s, .string ⟨#[46]⟩] w fun e w' => e = .returned (.tuple #[.string (cutM s).1, .string (cutM s).2.1, .bool (cutM s).2.2]) ∧ Drawn w w' := by
  obtain ⟨x, hx⟩ : ∃ x, (cutM s).1 = x := ⟨_, rfl⟩
  obtain ⟨y, hy⟩ : ∃ y, (cutM s).2.1 = y := ⟨_, rfl⟩
  obtain ⟨z, hz⟩ : ∃ z, (cutM s).2.2 = z := ⟨_, rfl⟩
  have h := slcut_dot s hs
  rw [hx, hy, hz] at h ⊢
  have H := Lib.hid h
  clear h hx hy hz
  go_enter Tryd.func55, Tryd.ntmps55
  go_wp2_with (go_at_call 75; refine (H.out _).mono ?_; rintro e w1 ⟨rfl, hD⟩; (have HD := Lib.hid hD); clear hD)
  exact bodyPost_ret (v := .tuple #[.string x, .string y, .bool z]) (by simp [results, Tryd.results55, go_sem]) rfl ⟨rfl, HD.out⟩

/-- Are all bytes characters of short names? -/
def allChars (t : ByteArray) : Bool := (bts t).all fun c => decide (c ∈ charL)
/-- What 'IsShort' says. -/
def isShortM (s : ByteArray) : Bool :=
  if (cutM s).1.size < 1 ∨ 8 < (cutM s).1.size ∨ 3 < (cutM s).2.1.size ∨ ((cutM s).2.2 = true ∧ (cutM s).2.1.toList = []) then false else allChars ((cutM s).1 ++ (cutM s).2.1)

/-- The bytes of a string that was made to a slice are read. -/
theorem rd_bytesWorld (w : World) (t : ByteArray) (ht : t.size ≤ 1000000) : Rd (Lib.bytesWorld w 5 t) .u8 (some ⟨w.heap.size, 0, none⟩) t.size (bts t) := by
  refine ⟨bts_len t, by omega, fun j hj => ⟨_, rfl, ?_⟩⟩
  rw [Addr.add_lit, Nat.zero_add, Lib.bytesWorld_cell w 5 t j hj]
  congr 1
  congr 1
  rw [bts_get t j hj]
  have : t.data.toList.getD j 0 = t[j]'hj := by
    rw [List.getD_eq_getElem?_getD, List.getElem?_eq_getElem (by rw [Array.length_toList]; exact hj)]
    rfl
  rw [this]
theorem below_bytesWorld (w : World) (t : ByteArray) : Below w.heap.size w (Lib.bytesWorld w 5 t) := by
  refine ⟨rfl, rfl, rfl, by rw [Lib.bytesWorld_size]; omega, fun i hi => Lib.bytesWorld_at_old w 5 t i hi⟩

set_option maxRecDepth 100000 in
set_option maxHeartbeats 4000000 in
theorem isShort_any (s : ByteArray) (hs : s.size ≤ 1000000) (w : World) : Calls Tryd.prog 25 #[.string s] w fun e w' => e = .returned (.bool (isShortM s)) ∧ Below w.heap.size w w' := by
  obtain ⟨x, hx⟩ : ∃ x, (cutM s).1 = x := ⟨_, rfl⟩
  obtain ⟨y, hy⟩ : ∃ y, (cutM s).2.1 = y := ⟨_, rfl⟩
  obtain ⟨z, hz⟩ : ∃ z, (cutM s).2.2 = z := ⟨_, rfl⟩
  have hcut := cut_dot s hs
  rw [hx, hy, hz] at hcut
  have HC := Lib.hid hcut
  clear hcut
  by_cases hbad : x.size < 1 ∨ 8 < x.size ∨ 3 < y.size ∨ (z = true ∧ y.toList = [])
  · have e1 : isShortM s = false := by unfold isShortM; rw [hx, hy, hz, if_pos hbad]
    rw [e1]
    clear e1 hx hy hz
    by_cases q1 : x.size < 1
    · have q1' : (x.size : Int) < 1 := by omega
      go_enter Tryd.func25, Tryd.ntmps25
      go_wp2_with (go_at_call 55; refine (HC.out _).mono ?_; rintro e w1 ⟨rfl, hD⟩; (have HB := Lib.hid (drawn_below hD)); clear hD)
      go_ret
      exact ⟨rfl, HB.out⟩
    have q1' : ¬ (x.size : Int) < 1 := by omega
    by_cases q2 : 8 < x.size
    · have q2' : 8 < (x.size : Int) := by omega
      go_enter Tryd.func25, Tryd.ntmps25
      go_wp2_with (go_at_call 55; refine (HC.out _).mono ?_; rintro e w1 ⟨rfl, hD⟩; (have HB := Lib.hid (drawn_below hD)); clear hD)
      go_ret
      exact ⟨rfl, HB.out⟩
    have q2' : ¬ 8 < (x.size : Int) := by omega
    by_cases q3 : 3 < y.size
    · have q3' : 3 < (y.size : Int) := by omega
      go_enter Tryd.func25, Tryd.ntmps25
      go_wp2_with (go_at_call 55; refine (HC.out _).mono ?_; rintro e w1 ⟨rfl, hD⟩; (have HB := Lib.hid (drawn_below hD)); clear hD)
      go_ret
      exact ⟨rfl, HB.out⟩
    have q3' : ¬ 3 < (y.size : Int) := by omega
    have q4 : z = true ∧ y.toList = [] := by
      rcases hbad with h | h | h | h
      · exact absurd h q1
      · exact absurd h q2
      · exact absurd h q3
      · exact h
    obtain ⟨rfl, hy0⟩ := q4
    clear hbad
    · skip
      go_enter Tryd.func25, Tryd.ntmps25
      go_wp2_with (go_at_call 55; refine (HC.out _).mono ?_; rintro e w1 ⟨rfl, hD⟩; (have HB := Lib.hid (drawn_below hD)); clear hD)
      go_ret
      exact ⟨rfl, HB.out⟩
  · have e1 : isShortM s = allChars (x ++ y) := by unfold isShortM; rw [hx, hy, hz, if_neg hbad]
    rw [e1]
    have q1 : ¬ x.size < 1 := fun h => hbad (Or.inl h)
    have q2 : ¬ 8 < x.size := fun h => hbad (Or.inr (Or.inl h))
    have q3 : ¬ 3 < y.size := fun h => hbad (Or.inr (Or.inr (Or.inl h)))
    have q4 : ¬ (z = true ∧ y.toList = []) := fun h => hbad (Or.inr (Or.inr (Or.inr h)))
    have q1' : ¬ (x.size : Int) < 1 := by omega
    have q2' : ¬ 8 < (x.size : Int) := by omega
    have q3' : ¬ 3 < (y.size : Int) := by omega
    have q4' : (z && (y.toList == [])) = false := by
      cases z with
      | false => rfl
      | true => simp only [Bool.true_and, beq_eq_false_iff_ne]; exact fun h => q4 ⟨rfl, h⟩
    obtain ⟨t, ht⟩ : ∃ t, x ++ y = t := ⟨_, rfl⟩
    have htl : t.size ≤ 11 := by rw [← ht, ByteArray.size_append]; omega
    have hadd : ∀ W : World, (Op.stringOp .add x y).run Tryd.prog W = .ok (.string t) W := fun W => by rw [run_string_add_sum W x y (by omega), ht]
    have hconv : ∀ W : World, (convert 9 26 (.string t)).run Tryd.prog W = .ok (.slice (some ⟨W.heap.size, 0, none⟩) t.size (grownCap W t.size 0 5)) (Lib.bytesWorld W 5 t) := fun W => Lib.run_convert_string_bytes W 9 26 5 t Tryd.underlying9 Tryd.underlying26 Tryd.underlying5
    obtain ⟨C, hC⟩ : ∃ C, allChars t = C := ⟨_, rfl⟩
    have HCC := Lib.hid hC
    rw [ht, hC]
    have hy0 : z = true → y.toList.isEmpty = false := fun h => by
      cases hq : y.toList with
      | nil => exact absurd ⟨h, hq⟩ q4
      | cons a l => rfl
    clear e1 hx hy hz hbad ht q1 q2 q3 q4 q4' hC
    obtain ⟨zt, hzt⟩ : ∃ zt, (z = false ∨ (z = true ∧ y.toList.isEmpty = zt)) ∧ zt = false := by
      cases z with
      | false => exact ⟨false, Or.inl rfl, rfl⟩
      | true => exact ⟨false, Or.inr ⟨rfl, hy0 rfl⟩, rfl⟩
    obtain ⟨hz2, rfl⟩ := hzt
    clear hy0
    rcases hz2 with rfl | ⟨rfl, hy1⟩
    all_goals
      go_enter Tryd.func25, Tryd.ntmps25
      go_wp2_with (first
        | (go_at_call 55; refine (HC.out _).mono ?_; rintro e w1 ⟨rfl, hD⟩; (have HB := Lib.hid (drawn_below hD)); clear hD)
        | (go_at_call 56; refine (characters_any _).mono ?_; rintro e w2 ⟨b, rfl, hbm, hbb, hB⟩; (have HM := Lib.hid hbm); (have HB2 := Lib.hid (below_then HB.out HB.out.size hB)); clear hbm hB))
      have hR := rd_bytesWorld w2 t (by omega)
      have hM := HM.out.below (below_bytesWorld w2 t)
      have hB := below_then HB2.out HB2.out.size (below_bytesWorld w2 t)
      obtain ⟨W0, hW0⟩ : ∃ W0, Lib.bytesWorld w2 5 t = W0 := ⟨_, rfl⟩
      obtain ⟨g, hg⟩ : ∃ g, w2.heap.size = g := ⟨_, rfl⟩
      obtain ⟨cc, hcc⟩ : ∃ cc, grownCap w2 t.size 0 5 = cc := ⟨_, rfl⟩
      rw [hW0] at hR hM hB
      rw [hg] at hR
      rw [hW0, hcc, hg]
      have HR := Lib.hid hR
      have HM := Lib.hid hM
      have HBB := Lib.hid hB
      clear hR hM hB hW0 hg hcc hadd hconv HB HB2
      go_loopw [41] (fun v W => W = W0 ∧ ∃ i : Nat, v = .int .i64 i ∧ i ≤ t.size ∧ Hid (∀ j, j < i → (bts t).getD j 0 ∈ charL)) (fun v _ => t.size - (intOf v).toNat)
      case atStart => exact ⟨rfl, 0, rfl, by omega, Lib.hid (fun j hj => by omega)⟩
      case round =>
        obtain ⟨hW, i, rfl, hil, HJ⟩ := hrel
        subst wr
        by_cases hlt : i < t.size
        · have hlti : (i : Int) < t.size := by omega
          obtain ⟨ad, hA, hcl⟩ := HR.out.at_ i hlt
          cases hA
          rw [Addr.add_lit, Nat.zero_add] at hcl
          obtain ⟨x0, hx0⟩ : ∃ x0, (bts t).getD i 0 = x0 := ⟨_, rfl⟩
          have hxb := bts_bd t i
          rw [hx0] at hcl hxb
          have HX0 := Lib.hid hx0
          have hlk := HM.out.look (t := 78) u16_keyed Tryd.underlying78 (u16_key (u := x0) (by omega) (by omega))
          clear hx0
          by_cases hin : x0 ∈ charL
          · have hd : decide (x0 ∈ charL) = true := by simp [hin]
            rw [hd] at hlk
            go_wp2
            refine ⟨⟨by trivial, i + 1, by simp, by omega, Lib.hid (fun j hj => ?_)⟩, by simp only [intOf]; omega⟩
            rcases Nat.lt_or_ge j i with h1 | h1
            · exact HJ.out j h1
            · have : j = i := by omega
              subst this
              rw [HX0.out]; exact hin
          · have hd : decide (x0 ∈ charL) = false := by simp [hin]
            rw [hd] at hlk
            go_wp2
            go_ret
            refine ⟨?_, HBB.out⟩
            have : allChars t = false := by
              unfold allChars
              rw [List.all_eq_false]
              refine ⟨x0, ?_, by simp [hin]⟩
              rw [← HX0.out, List.getD_eq_getElem?_getD, List.getElem?_eq_getElem (by rw [bts_len]; exact hlt)]
              exact List.getElem_mem _
            rw [← HCC.out, this]
            rfl
        · have hie : i = t.size := by omega
          subst hie
          have hlti : ¬ ((t.size : Int) < t.size) := by omega
          go_wp2
          go_ret
          refine ⟨?_, HBB.out⟩
          have : allChars t = true := by
            unfold allChars
            rw [List.all_eq_true]
            intro a ha
            obtain ⟨j, hj, rfl⟩ := List.getElem_of_mem ha
            have := HJ.out j (by rw [bts_len] at hj; exact hj)
            rw [List.getD_eq_getElem?_getD, List.getElem?_eq_getElem hj] at this
            simpa using this
          rw [← HCC.out, this]
          rfl
end Go.Proofs.YtmbdiimenmnfjaaDoor
/- Walks: shortened, first. -/
namespace Go.Proofs.YtmbdiimenmnfjaaDoor
open Go.RowKit Go.Deep
set_option linter.unusedVariables false
set_option linter.unusedSimpArgs false

/-- The character of a unit for short names: none for a space or a dot. -/
def shortB (u : Int) : List Int := if u = 32 ∨ u = 46 then [] else if upM u ∈ charL then [upM u] else [95]
def shortenedM (l : List Int) : List Int := l.flatMap shortB
theorem shortB_len (u : Int) : (shortB u).length ≤ 1 := by unfold shortB; split; simp; split <;> simp
theorem shortenedM_snoc (l : List Int) (u : Int) : shortenedM (l ++ [u]) = shortenedM l ++ shortB u := by simp [shortenedM]
theorem shortenedM_len (l : List Int) : (shortenedM l).length ≤ l.length := by
  induction l with
  | nil => exact Nat.le_refl _
  | cons x l ih =>
    have h1 : shortenedM (x :: l) = shortB x ++ shortenedM l := by simp [shortenedM]
    have := shortB_len x
    rw [h1, List.length_append, List.length_cons]
    omega
theorem charL_bd (u : Int) (h : u ∈ charL) : 33 ≤ u ∧ u ≤ 126 := by
  have h3 : ∀ x ∈ charL, 33 ≤ x ∧ x ≤ 126 := by decide
  exact h3 u h

theorem bm_apart {α : Type} [DecidableEq α] {k : TypeId} {mk : α → Lit} {b N : Nat} {ks : List α} {W : World} {base : Nat} {e : TypeId} {size n : Nat} {v : Value} {xs : List Value} (h : BM k mk b N ks W) (ho : W.ownsRow base e size v n xs) : some b ≠ v.ownBlock := by
  intro hb
  obtain ⟨_, _, _, ⟨es, clock, hh, -⟩, -⟩ := h
  obtain ⟨-, ⟨rfl, -⟩ | ⟨g, cap, cur, rfl, -, hg, -⟩⟩ := ho
  · simp [Value.ownBlock] at hb
  · have : b = g := by simpa [Value.ownBlock] using hb
    subst this
    rw [hh] at hg
    cases hg

set_option maxRecDepth 100000 in
set_option maxHeartbeats 4000000 in
theorem shortened_any (A : Option Addr) (c : Nat) (xs : List Int) (hn : xs.length ≤ 40000) (hx : U16 xs) (w : World) (hR : Rd w .u16 A xs.length xs) :
    Calls Tryd.prog 78 #[.slice A xs.length c] w fun e w' => e = .returned (.string (mkB (shortenedM xs))) ∧ Below w.heap.size w w' := by
  obtain ⟨i5, h5i, h5z, h51, h5b⟩ := info_parts info5
  have HR := Lib.hid hR
  have HX := Lib.hid hx
  clear hR hx
  go_enter Tryd.func78, Tryd.ntmps78
  go_wp2_with (go_at_call 56; refine (characters_any _).mono ?_; rintro e w1 ⟨b, rfl, hbm, hbb, hB⟩; (have HM := Lib.hid hbm); (have HB := Lib.hid hB); clear hbm hB)
  go_loopw [4, 11] (fun v i W => ∃ j : Nat, j ≤ xs.length ∧ i = .int .i64 j ∧ Hid (W.ownsRow w.heap.size 5 1 v (shortenedM (xs.take j)).length (numK .u8 (shortenedM (xs.take j)))) ∧ Hid (BM 46 (Lit.int .u16) b 100 charL W) ∧ Hid (Below w.heap.size w W)) (fun _ i _ => xs.length - (intOf i).toNat)
  case atStart => exact ⟨0, by omega, rfl, Lib.hid (World.ownsRow_nil _ _ _ _), HM, HB⟩
  case round =>
    clear HM HB
    obtain ⟨j, hj, rfl, HO, HM, HB⟩ := hrel
    obtain ⟨Aq, cq, rfl, hcq⟩ := own_is_slice HO.out
    have hlen := shortenedM_len (xs.take j)
    rw [List.length_take] at hlen
    obtain ⟨ys, hys⟩ : ∃ ys, shortenedM (xs.take j) = ys := ⟨_, rfl⟩
    rw [hys] at HO hcq hlen ⊢
    have HYS := Lib.hid hys
    clear hys
    by_cases hlt : j < xs.length
    · have hlti : (j : Int) < xs.length := by omega
      obtain ⟨ad, hA, hcl⟩ := (HR.out.below HB.out).at_ j hlt
      subst hA
      obtain ⟨x, hx⟩ : ∃ x, xs.getD j 0 = x := ⟨_, rfl⟩
      have hxb := HX.out.get j
      rw [hx] at hcl hxb
      have hub := upM_bd x hxb.1 hxb.2
      obtain ⟨U, hU⟩ : ∃ U, upM x = U := ⟨_, rfl⟩
      rw [hU] at hub
      have HU := Lib.hid hU
      have htk : xs.take (j + 1) = xs.take j ++ [x] := by rw [List.take_add_one, ← hx, List.getD_eq_getElem?_getD, List.getElem?_eq_getElem hlt]; rfl
      have HTK := Lib.hid htk
      clear hx htk hU
      go_wp2_with (first
        | (go_at_call 31; refine (up_any _ x hxb.1 hxb.2).mono ?_; rintro e w2 ⟨rfl, hB2⟩; rw [HU.out]; (have HO2 := Lib.hid (own_keep HO.out hB2)); (have HM2 := Lib.hid (HM.out.below hB2)); (have hlk := HM2.out.look (t := 78) u16_keyed Tryd.underlying78 (u16_key (u := U) (by omega) (by omega))); (have HB2 := Lib.hid (below_then HB.out HB.out.size hB2)); clear hB2)
        | (at_builtin; refine wpList_append_own _ rfl _ _ 26 rfl w.heap.size 5 i5 _ 1 1 Tryd.underlying26 h5i h5z h51 h5b rfl (by decide) _ ys.length (numK .u8 ys) rfl (World.ownsRow.alloc HO2.out _) ⟨_, 0, none⟩ 1 1 [_] rfl rfl (cell_new1 _ _ rfl _ _) (by simp [Value.oneCell']) (by simp only [maxLen]; omega) (by omega) (by have := HB2.out.size; simp; omega) ?_; intro v' w6 hown6 hgrow6 _; (have HQ6 := Lib.hid hown6); (have HB6 := Lib.hid ((below_al HB2.out _).grown hgrow6 (by have := HB2.out.size; simp; omega) (fun kk hk => (HO2.out.lt kk hk).1))); (have HM6 := Lib.hid ((HM2.out.below (one_alloc _ _)).kept hgrow6 (bm_apart HM2.out HO2.out))); clear hown6 hgrow6))
      have HFIN : True := trivial
      all_goals first
        | (refine ⟨⟨j + 1, by omega, by simp, Lib.hid ?_, HM2, HB2⟩, by simp only [intOf]; omega⟩
           have hsb : shortB x = [] := by
             unfold shortB
             rw [if_pos (by simp_all)]
           rw [HTK.out, shortenedM_snoc, HYS.out, hsb, List.append_nil]
           exact HO2.out)
        | (refine ⟨⟨j + 1, by omega, by simp, Lib.hid ?_, HM6, HB6⟩, by simp only [intOf]; omega⟩
           have hin : U ∈ charL := by assumption
           have hsb : shortB x = [U] := by
             unfold shortB
             rw [if_neg (by simp_all), HU.out, if_pos hin]
           rw [HTK.out, shortenedM_snoc, HYS.out, hsb, List.length_append, numK_append]
           have hcb := charL_bd U hin
           have h1 := HQ6.out
           rw [show U % 256 = U by omega] at h1
           exact h1)
        | (refine ⟨⟨j + 1, by omega, by simp, Lib.hid ?_, HM6, HB6⟩, by simp only [intOf]; omega⟩
           have hin : ¬ U ∈ charL := by assumption
           have hsb : shortB x = [95] := by
             unfold shortB
             rw [if_neg (by simp_all), HU.out, if_neg hin]
           rw [HTK.out, shortenedM_snoc, HYS.out, hsb, List.length_append, numK_append]
           exact HQ6.out)
        | trace_state
    · have hie : j = xs.length := by omega
      subst hie
      have hlti : ¬ ((xs.length : Int) < xs.length) := by omega
      obtain ⟨A', c', e, hc', hRd, -⟩ := own_nums HO.out (by omega)
      cases e
      have hcv := conv_rd wr Aq cq ys ys.length hRd
      have hye : shortenedM xs = ys := by rw [← HYS.out, List.take_length]
      have HYE := Lib.hid hye
      clear hRd hye
      go_wp2
      go_ret
      rw [HYE.out]
      exact ⟨rfl, HB.out⟩
end Go.Proofs.YtmbdiimenmnfjaaDoor
