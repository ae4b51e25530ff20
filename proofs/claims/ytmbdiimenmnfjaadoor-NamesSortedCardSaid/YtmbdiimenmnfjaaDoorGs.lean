/- The upper case: plain facts. -/
import Derived.Test.YtmbdiimenmnfjaaDoorGa
import Derived.Test.YtmbdiimenmnfjaaDoorGd
import Derived.Test.YtmbdiimenmnfjaaDoorGb
import Derived.Test.YtmbdiimenmnfjaaDoorGc
import Derived.Test.YtmbdiimenmnfjaaDoorPNamesNamesx48
import Derived.Test.YtmbdiimenmnfjaaDoorPNamesNamesx41
import Derived.Test.YtmbdiimenmnfjaaDoorTie
import Derived.Test.YtmbdiimenmnfjaaDoorCards
import Derived.Test.YtmbdiimenmnfjaaDoorGf
import Derived.Deep.DeepHandedRow
import Derived.Deep.DeepWitnessRowRef
import Derived.ProofKit
import Derived.SizedLaws
import Derived.Lib.LaidTab
import Derived.Lib.LaidIn
import Derived.Carry
import Derived.Stop.LaidErr
import Derived.SliceStrings
import Derived.Laws.AppendOwnNone
import Derived.Laws.OwnMore
import Derived.BigRegion
import Derived.Deep.DeepCutAuto
import Derived.Test.YtmbdiimenmnfjaaDoorShelf
import Derived.Test.YtmbdiimenmnfjaaDoorPNamesNamesx1
namespace Go.Proofs.YtmbdiimenmnfjaaDoor
open Go.RowKit
set_option linter.unusedVariables false
set_option maxRecDepth 100000

end Go.Proofs.YtmbdiimenmnfjaaDoor
/- What several laws share. -/
namespace Go.Proofs.YtmbdiimenmnfjaaDoor
open Go.RowKit Go.Deep
set_option linter.unusedVariables false

end Go.Proofs.YtmbdiimenmnfjaaDoor
/- Bytes of parts and of sums. -/
namespace Go.Proofs.YtmbdiimenmnfjaaDoor
open Go.RowKit Go.Deep
set_option linter.unusedVariables false

end Go.Proofs.YtmbdiimenmnfjaaDoor
/- The document's Units: what was printed of it is the model. -/
namespace Go.Proofs.YtmbdiimenmnfjaaDoor
open Go.RowKit Go.Deep
open Go.Proofs.YtmbdiimenmnfjaaDoor.PNamesNames
open Go.Proofs.YtmbdiimenmnfjaaDoorW.PrintWords (rd bt Drawn0 Kd)
set_option linter.unusedVariables false
set_option linter.unusedSimpArgs false

theorem w64 (x : Int) (h0 : -4611686018427387904 ≤ x) (h1 : x ≤ 4611686018427387904) : wrap64 x = x := by unfold wrap64; omega
theorem bt_bts (s : ByteArray) (i : Nat) (h : i < s.size) : bt s (i : Int) = (bts s).getD i 0 := by
  rw [bts_get s i h]
  unfold bt
  rw [dif_pos (by simpa using h)]
  rfl
/-- A byte that goes on, as a number; -1 if it is none. -/
def contV (s : List Int) (i : Nat) : Int := match contM s i with
  | some x => x
  | none => -1
theorem contV_bd (s : List Int) (i : Nat) : -1 ≤ contV s i ∧ contV s i ≤ 63 := by
  unfold contV
  cases h : contM s i with
  | none => simp
  | some x => have := contM_bd h; simp only; omega
theorem more_f (s : ByteArray) (i : Nat) (hi : i ≤ 1000000000) : archivoltref05_more.f s (i : Int) = some (contV (bts s) i) := by
  unfold archivoltref05_more.f contV contM
  by_cases h : i < s.size
  · have hb := bts_bd s i
    rw [if_neg (by omega), if_pos (by omega), if_pos (by omega), bt_bts s i h, bts_len]
    by_cases h1 : (bts s).getD i 0 < 128
    · rw [if_pos h1, if_neg (by omega)]
    · rw [if_neg h1]
      by_cases h2 : (bts s).getD i 0 ≥ 192
      · rw [if_pos h2, if_neg (by omega)]
      · rw [if_neg h2, if_pos (by omega), w64 ((bts s).getD i 0) (by omega) (by omega), w64 _ (by omega) (by omega)]
  · rw [if_pos (by omega), if_neg (by rw [bts_len]; omega)]
/-- The code point as numbers. -/
def pointR (b x y z : Int) : Int × Int :=
  if 194 ≤ b ∧ b < 224 ∧ 0 ≤ x then ((b - 192) * 64 + x, 2)
  else if 224 ≤ b ∧ b < 240 ∧ 0 ≤ x ∧ 0 ≤ y ∧ 2048 ≤ (b - 224) * 4096 + x * 64 + y then ((b - 224) * 4096 + x * 64 + y, 3)
  else if 240 ≤ b ∧ b < 248 ∧ 0 ≤ x ∧ 0 ≤ y ∧ 0 ≤ z ∧ 65536 ≤ (b - 240) * 262144 + x * 4096 + y * 64 + z ∧ (b - 240) * 262144 + x * 4096 + y * 64 + z ≤ 1114111 then ((b - 240) * 262144 + x * 4096 + y * 64 + z, 4)
  else (0, 0)
theorem j2_f (k : Nat) (b x y z : Int) (q : Bool) (hb : 0 ≤ b ∧ b ≤ 255) (hx : -1 ≤ x ∧ x ≤ 63) (hy : -1 ≤ y ∧ y ≤ 63) (hz : -1 ≤ z ∧ z ≤ 63) :
    archivoltref05_first.j2 (k + 1) b x y z q = some (if q = true ∧ 65536 ≤ (b - 240) * 262144 + x * 4096 + y * 64 + z ∧ (b - 240) * 262144 + x * 4096 + y * 64 + z ≤ 1114111 then ((b - 240) * 262144 + x * 4096 + y * 64 + z, 4) else (0, 0)) := by
  have e : wrap64 ((wrap64 ((wrap64 ((wrap64 ((wrap64 (b - 240)) * 262144)) + (wrap64 (x * 4096)))) + (wrap64 (y * 64)))) + z) = (b - 240) * 262144 + x * 4096 + y * 64 + z := by
    rw [w64 (b - 240) (by omega) (by omega), w64 ((b - 240) * 262144) (by omega) (by omega), w64 (x * 4096) (by omega) (by omega), w64 ((b - 240) * 262144 + x * 4096) (by omega) (by omega), w64 (y * 64) (by omega) (by omega), w64 ((b - 240) * 262144 + x * 4096 + y * 64) (by omega) (by omega), w64 _ (by omega) (by omega)]
  rw [archivoltref05_first.j2]
  rw [e]
  cases q with
  | false => simp
  | true =>
    by_cases h1 : (b - 240) * 262144 + x * 4096 + y * 64 + z ≥ 65536
    · by_cases h2 : (b - 240) * 262144 + x * 4096 + y * 64 + z ≤ 1114111
      · rw [if_pos rfl, if_pos h1, if_pos h2, if_pos ⟨rfl, h1, h2⟩]
      · rw [if_pos rfl, if_pos h1, if_neg h2, if_neg (fun h => h2 h.2.2)]
    · rw [if_pos rfl, if_neg h1, if_neg (fun h => h1 h.2.1)]
theorem j1_f (k : Nat) (b x y z : Int) (q : Bool) (hb : 0 ≤ b ∧ b ≤ 255) (hx : -1 ≤ x ∧ x ≤ 63) (hy : -1 ≤ y ∧ y ≤ 63) (hz : -1 ≤ z ∧ z ≤ 63) :
    archivoltref05_first.j1 (k + 2) b x y z q = some (if q = true then (if 2048 ≤ (b - 224) * 4096 + x * 64 + y then ((b - 224) * 4096 + x * 64 + y, 3) else (0, 0)) else if 240 ≤ b ∧ b < 248 ∧ 0 ≤ x ∧ 0 ≤ y ∧ 0 ≤ z ∧ 65536 ≤ (b - 240) * 262144 + x * 4096 + y * 64 + z ∧ (b - 240) * 262144 + x * 4096 + y * 64 + z ≤ 1114111 then ((b - 240) * 262144 + x * 4096 + y * 64 + z, 4) else (0, 0)) := by
  have e : wrap64 ((wrap64 ((wrap64 ((wrap64 (b - 224)) * 4096)) + (wrap64 (x * 64)))) + y) = (b - 224) * 4096 + x * 64 + y := by
    rw [w64 (b - 224) (by omega) (by omega), w64 ((b - 224) * 4096) (by omega) (by omega), w64 (x * 64) (by omega) (by omega), w64 ((b - 224) * 4096 + x * 64) (by omega) (by omega), w64 _ (by omega) (by omega)]
  rw [archivoltref05_first.j1]
  rw [e]
  cases q with
  | true =>
    rw [if_pos rfl, if_pos rfl]
    by_cases h : (b - 224) * 4096 + x * 64 + y ≥ 2048
    · rw [if_pos h, if_pos h]
    · rw [if_neg h, if_neg h]
  | false =>
    have hf : ¬ (false = true) := by decide
    rw [if_neg hf, if_neg hf]
    have hj := fun q => j2_f k b x y z q hb hx hy hz
    simp only [hj]
    by_cases h1 : b ≥ 240
    · by_cases h2 : b < 248
      · by_cases h3 : x ≥ 0
        · by_cases h4 : y ≥ 0
          · rw [if_pos h1, if_pos h2, if_pos h3, if_pos h4]
            by_cases h5 : z ≥ 0
            · rw [decide_eq_true h5]
              congr 1
              by_cases h6 : 65536 ≤ (b - 240) * 262144 + x * 4096 + y * 64 + z ∧ (b - 240) * 262144 + x * 4096 + y * 64 + z ≤ 1114111
              · rw [if_pos ⟨rfl, h6⟩, if_pos ⟨h1, h2, h3, h4, h5, h6⟩]
              · rw [if_neg (fun h => h6 h.2), if_neg (fun h => h6 h.2.2.2.2.2)]
            · rw [decide_eq_false h5, if_neg (fun h => hf h.1), if_neg (fun h => h5 h.2.2.2.2.1)]
          · rw [if_pos h1, if_pos h2, if_pos h3, if_neg h4, if_neg (fun h => hf h.1), if_neg (fun h => h4 h.2.2.2.1)]
        · rw [if_pos h1, if_pos h2, if_neg h3, if_neg (fun h => hf h.1), if_neg (fun h => h3 h.2.2.1)]
      · rw [if_pos h1, if_neg h2, if_neg (fun h => hf h.1), if_neg (fun h => h2 h.2.1)]
    · rw [if_neg h1, if_neg (fun h => hf h.1), if_neg (fun h => h1 h.1)]
theorem j0_f (k : Nat) (b x y z : Int) (q : Bool) (hb : 0 ≤ b ∧ b ≤ 255) (hx : -1 ≤ x ∧ x ≤ 63) (hy : -1 ≤ y ∧ y ≤ 63) (hz : -1 ≤ z ∧ z ≤ 63) (hq : q = decide (194 ≤ b ∧ b < 224 ∧ 0 ≤ x)) :
    archivoltref05_first.j0 (k + 3) b x y z q = some (pointR b x y z) := by
  rw [archivoltref05_first.j0]
  have hf : ¬ (false = true) := by decide
  have hj := fun q => j1_f k b x y z q hb hx hy hz
  cases q with
  | true =>
    have h := of_decide_eq_true hq.symm
    rw [if_pos rfl, w64 (b - 192) (by omega) (by omega), w64 ((b - 192) * 64) (by omega) (by omega), w64 _ (by omega) (by omega)]
    unfold pointR
    rw [if_pos h]
  | false =>
    have h := of_decide_eq_false hq.symm
    rw [if_neg hf]
    simp only [hj]
    unfold pointR
    rw [if_neg h]
    by_cases h1 : b ≥ 224
    · by_cases h2 : b < 240
      · have h240 : ¬ (240 ≤ b ∧ b < 248 ∧ 0 ≤ x ∧ 0 ≤ y ∧ 0 ≤ z ∧ 65536 ≤ (b - 240) * 262144 + x * 4096 + y * 64 + z ∧ (b - 240) * 262144 + x * 4096 + y * 64 + z ≤ 1114111) := fun h => by omega
        by_cases h3 : x ≥ 0
        · rw [if_pos h1, if_pos h2, if_pos h3]
          by_cases h4 : y ≥ 0
          · rw [decide_eq_true h4, if_pos rfl]
            congr 1
            by_cases h5 : 2048 ≤ (b - 224) * 4096 + x * 64 + y
            · rw [if_pos h5, if_pos ⟨h1, h2, h3, h4, h5⟩]
            · rw [if_neg h5, if_neg (fun h => h5 h.2.2.2.2), if_neg h240]
          · rw [decide_eq_false h4, if_neg hf, if_neg h240, if_neg (fun h => h4 h.2.2.2.1)]
        · rw [if_pos h1, if_pos h2, if_neg h3, if_neg hf, if_neg h240, if_neg (fun h => h3 h.2.2.1)]
      · rw [if_pos h1, if_neg h2, if_neg hf, if_neg (fun h : 224 ≤ b ∧ b < 240 ∧ 0 ≤ x ∧ 0 ≤ y ∧ 2048 ≤ (b - 224) * 4096 + x * 64 + y => h2 h.2.1)]
    · rw [if_neg h1, if_neg hf, if_neg (fun h : 224 ≤ b ∧ b < 240 ∧ 0 ≤ x ∧ 0 ≤ y ∧ 2048 ≤ (b - 224) * 4096 + x * 64 + y => h1 h.1)]
theorem contM_drop (s : List Int) (i j : Nat) (hi : i ≤ s.length) : contM (s.drop i) j = contM s (i + j) := by
  unfold contM
  have e : (s.drop i).getD j 0 = s.getD (i + j) 0 := by simp [List.getD_eq_getElem?_getD]
  rw [e, List.length_drop]
  by_cases h : j < s.length - i
  · have h' : i + j < s.length := by omega
    simp only [h, h', true_and]
  · have h' : ¬ i + j < s.length := by omega
    simp only [h, h', false_and, if_false]
theorem contV_nonneg {s : List Int} {i : Nat} (h : 0 ≤ contV s i) : contM s i = some (contV s i) := by
  unfold contV at h ⊢
  cases hx : contM s i with
  | none => rw [hx] at h; simp at h
  | some x => rfl
theorem contV_neg {s : List Int} {i : Nat} (h : ¬ 0 ≤ contV s i) : contM s i = none := by
  unfold contV at h
  cases hx : contM s i with
  | none => rfl
  | some x => rw [hx] at h; have := contM_bd hx; simp only at h; omega
/-- What is said of a code point. -/
def pairP : Option (Int × Nat) → Int × Int
  | some (c, n) => (c, n)
  | none => (0, 0)
theorem goM_1 (s : List Int) (c : Int) : goM s 1 1 c = if 0 ≤ contV s 1 then some (c * 64 + contV s 1) else none := by
  unfold goM
  by_cases h : 0 ≤ contV s 1
  · rw [contV_nonneg h, if_pos h]; rfl
  · rw [contV_neg h, if_neg h]
theorem goM_2 (s : List Int) (c : Int) : goM s 2 1 c = if 0 ≤ contV s 1 ∧ 0 ≤ contV s 2 then some ((c * 64 + contV s 1) * 64 + contV s 2) else none := by
  unfold goM
  by_cases h : 0 ≤ contV s 1
  · rw [contV_nonneg h]
    simp only
    unfold goM
    by_cases h2 : 0 ≤ contV s 2
    · rw [contV_nonneg h2, if_pos ⟨h, h2⟩]; rfl
    · rw [contV_neg h2, if_neg (fun q => h2 q.2)]
  · rw [contV_neg h, if_neg (fun q => h q.1)]
theorem goM_3 (s : List Int) (c : Int) : goM s 3 1 c = if 0 ≤ contV s 1 ∧ 0 ≤ contV s 2 ∧ 0 ≤ contV s 3 then some (((c * 64 + contV s 1) * 64 + contV s 2) * 64 + contV s 3) else none := by
  unfold goM
  by_cases h : 0 ≤ contV s 1
  · rw [contV_nonneg h]
    simp only
    unfold goM
    by_cases h2 : 0 ≤ contV s 2
    · rw [contV_nonneg h2]
      simp only
      unfold goM
      by_cases h3 : 0 ≤ contV s 3
      · rw [contV_nonneg h3, if_pos ⟨h, h2, h3⟩]; rfl
      · rw [contV_neg h3, if_neg (fun q => h3 q.2.2)]
    · rw [contV_neg h2, if_neg (fun q => h2 q.2.1)]
  · rw [contV_neg h, if_neg (fun q => h q.1)]
theorem point_R (s : List Int) (h0 : 128 ≤ s.getD 0 0) : pairP (pointM s) = pointR (s.getD 0 0) (contV s 1) (contV s 2) (contV s 3) := by
  obtain ⟨b, hb⟩ : ∃ b, s.getD 0 0 = b := ⟨_, rfl⟩
  obtain ⟨x, hx⟩ : ∃ x, contV s 1 = x := ⟨_, rfl⟩
  obtain ⟨y, hy⟩ : ∃ y, contV s 2 = y := ⟨_, rfl⟩
  obtain ⟨z, hz⟩ : ∃ z, contV s 3 = z := ⟨_, rfl⟩
  have bx := contV_bd s 1
  have by_ := contV_bd s 2
  have bz := contV_bd s 3
  unfold pointM pointC
  simp only [Nat.reduceSub]
  rw [goM_1, goM_2, goM_3]
  rw [hb] at h0 ⊢
  rw [hx] at bx ⊢
  rw [hy] at by_ ⊢
  rw [hz] at bz ⊢
  clear hb hx hy hz
  rw [if_neg (by omega)]
  unfold pointR
  by_cases q1 : 192 ≤ b ∧ b < 224
  · rw [if_pos q1]
    by_cases q2 : 0 ≤ x
    · rw [if_pos q2]
      simp only [pickP]
      by_cases q3 : 194 ≤ b
      · rw [if_neg (by omega), if_pos ⟨q3, q1.2, q2⟩]; rfl
      · rw [if_pos (by omega), if_neg (fun h => q3 h.1), if_neg (fun h => by omega), if_neg (fun h => by omega)]; rfl
    · rw [if_neg q2, if_neg (fun h => q2 h.2.2), if_neg (fun h => by omega), if_neg (fun h => by omega)]; rfl
  · rw [if_neg q1, if_neg (show ¬ (194 ≤ b ∧ b < 224 ∧ 0 ≤ x) from fun h => q1 ⟨by omega, h.2.1⟩)]
    by_cases q2 : 224 ≤ b ∧ b < 240
    · rw [if_pos q2]
      by_cases q3 : 0 ≤ x ∧ 0 ≤ y
      · rw [if_pos q3]
        simp only [pickP]
        have e : ((b - 224) * 64 + x) * 64 + y = (b - 224) * 4096 + x * 64 + y := by omega
        rw [e]
        by_cases q4 : 2048 ≤ (b - 224) * 4096 + x * 64 + y
        · rw [if_neg (by omega), if_pos ⟨q2.1, q2.2, q3.1, q3.2, q4⟩]; rfl
        · rw [if_pos (by omega), if_neg (fun h => q4 h.2.2.2.2), if_neg (fun h => by omega)]; rfl
      · rw [if_neg q3, if_neg (fun h => q3 ⟨h.2.2.1, h.2.2.2.1⟩), if_neg (fun h => by omega)]; rfl
    · rw [if_neg q2, if_neg (show ¬ (224 ≤ b ∧ b < 240 ∧ 0 ≤ x ∧ 0 ≤ y ∧ 2048 ≤ (b - 224) * 4096 + x * 64 + y) from fun h => q2 ⟨h.1, h.2.1⟩)]
      by_cases q3 : 240 ≤ b ∧ b < 248
      · rw [if_pos q3]
        by_cases q4 : 0 ≤ x ∧ 0 ≤ y ∧ 0 ≤ z
        · rw [if_pos q4]
          simp only [pickP]
          have e : (((b - 240) * 64 + x) * 64 + y) * 64 + z = (b - 240) * 262144 + x * 4096 + y * 64 + z := by omega
          rw [e]
          by_cases q5 : 65536 ≤ (b - 240) * 262144 + x * 4096 + y * 64 + z ∧ (b - 240) * 262144 + x * 4096 + y * 64 + z ≤ 1114111
          · rw [if_neg (by omega), if_pos ⟨q3.1, q3.2, q4.1, q4.2.1, q4.2.2, q5⟩]; rfl
          · rw [if_pos (by omega), if_neg (fun h => q5 h.2.2.2.2.2)]; rfl
        · rw [if_neg q4, if_neg (fun h => q4 ⟨h.2.2.1, h.2.2.2.1, h.2.2.2.2.1⟩)]; rfl
      · rw [if_neg q3, if_neg (fun h => q3 ⟨h.1, h.2.1⟩)]; rfl
theorem first_f (s : ByteArray) (i k : Nat) (hs : s.size ≤ 1000000) (hi : i < s.size) : archivoltref05_first.f (k + 3) s (i : Int) = some (pairP (pointM ((bts s).drop i))) := by
  have hb := bts_bd s i
  have hl : i < (bts s).length := by rw [bts_len]; exact hi
  have e0 : ((bts s).drop i).getD 0 0 = (bts s).getD i 0 := by simp [List.getD_eq_getElem?_getD]
  have ec : ∀ j, contV ((bts s).drop i) j = contV (bts s) (i + j) := fun j => by unfold contV; rw [contM_drop _ _ _ (by omega)]
  unfold archivoltref05_first.f
  rw [if_pos (by omega), if_pos (by omega), bt_bts s i hi, w64 _ (by omega) (by omega)]
  by_cases h : (bts s).getD i 0 < 128
  · rw [if_pos h]
    have : pointM ((bts s).drop i) = some ((bts s).getD i 0, 1) := by unfold pointM; rw [e0, if_pos h]
    rw [this]; rfl
  · rw [if_neg h, point_R _ (by rw [e0]; omega), e0, ec, ec, ec]
    have w1 : wrap64 ((i : Int) + 1) = ((i + 1 : Nat) : Int) := by rw [w64 _ (by omega) (by omega)]; rfl
    have w2 : wrap64 ((i : Int) + 2) = ((i + 2 : Nat) : Int) := by rw [w64 _ (by omega) (by omega)]; rfl
    have w3 : wrap64 ((i : Int) + 3) = ((i + 3 : Nat) : Int) := by rw [w64 _ (by omega) (by omega)]; rfl
    rw [w1, w2, w3, more_f s (i + 1) (by omega), more_f s (i + 2) (by omega), more_f s (i + 3) (by omega)]
    simp only [Option.bind_some]
    obtain ⟨b, hbb⟩ : ∃ b, (bts s).getD i 0 = b := ⟨_, rfl⟩
    rw [hbb] at hb h ⊢
    have hj := fun q hq => j0_f k b (contV (bts s) (i + 1)) (contV (bts s) (i + 2)) (contV (bts s) (i + 3)) q hb (contV_bd _ _) (contV_bd _ _) (contV_bd _ _) hq
    by_cases q1 : b ≥ 194
    · by_cases q2 : b < 224
      · rw [if_pos q1, if_pos q2]
        exact hj _ (by rw [decide_eq_decide]; exact ⟨fun h => ⟨q1, q2, h⟩, fun h => h.2.2⟩)
      · rw [if_pos q1, if_neg q2]
        exact hj _ (by rw [decide_eq_false]; exact fun h => q2 h.2.1)
    · rw [if_neg q1]
      exact hj _ (by rw [decide_eq_false]; exact fun h => q1 h.1)
/-- What the units of bytes come to. -/
def finU (acc : List Int) : Option (List Int) → List Int × Int
  | none => ([], 4)
  | some r => if (acc ++ r).length > 4096 then ([], 4) else (acc ++ r, 0)
theorem units_l (s : ByteArray) (hs : s.size ≤ 1000000) : ∀ (f K i : Nat) (acc : List Int) (last : Int), i ≤ s.size → s.size - i < f → 2 * f + 5 ≤ K → acc.length ≤ 2 * i →
    archivoltref05_Units.l0 K s acc last (i : Int) = some (finU acc (unitsF f ((bts s).drop i) last))
  | 0, K, i, acc, last, h1, h2, h3, h4 => by omega
  | f + 1, K, i, acc, last, h1, h2, h3, h4 => by
    obtain ⟨K, rfl⟩ : ∃ k, K = k + 2 := ⟨K - 2, by omega⟩
    rw [archivoltref05_Units.l0]
    unfold unitsF
    have hbl := bts_len s
    by_cases hi : i < s.size
    · have hne : ¬ (bts s).drop i = [] := fun e => by have := congrArg List.length e; rw [List.length_drop] at this; simp at this; omega
      obtain ⟨k3, rfl⟩ : ∃ k, K = k + 2 := ⟨K - 2, by omega⟩
      rw [if_pos (by omega), if_neg hne, show k3 + 2 + 1 = k3 + 3 from rfl, first_f s i k3 hs hi]
      cases hp : pointM ((bts s).drop i) with
      | none =>
        simp only [pairP, Option.bind_some, stepU, if_true, finU]
        rw [archivoltref05_Units.j1]
        rfl
      | some cn =>
        obtain ⟨c, n⟩ := cn
        have hb := pointM_bd hne (getD_nonneg (fun x hx => bts_range s x (mem_drop' hx)) 0) hp
        rw [List.length_drop, hbl] at hb
        simp only [pairP, Option.bind_some, stepU]
        rw [if_neg (by omega)]
        have ehi : archivoltref05_high.f last = some (decide (55296 ≤ last ∧ last < 56320)) := by
          unfold archivoltref05_high.f
          by_cases h : last ≥ 55296
          · rw [if_pos h]; congr 1; rw [decide_eq_decide]; omega
          · rw [if_neg h]; congr 1; symm; rw [decide_eq_false]; omega
        have elo : archivoltref05_low.f c = some (decide (56320 ≤ c ∧ c < 57344)) := by
          unfold archivoltref05_low.f
          by_cases h : c ≥ 56320
          · rw [if_pos h]; congr 1; rw [decide_eq_decide]; omega
          · rw [if_neg h]; congr 1; symm; rw [decide_eq_false]; omega
        have hj : ∀ q : Bool, q = decide (55296 ≤ last ∧ last < 56320 ∧ 56320 ≤ c ∧ c < 57344) → archivoltref05_Units.j1 (k3 + 3) s acc (i : Int) q c (n : Int) =
            some (finU acc (if 55296 ≤ last ∧ last < 56320 ∧ 56320 ≤ c ∧ c < 57344 then none else (unitsF f (((bts s).drop i).drop n) c).map (encU c ++ ·))) := by
          intro q hq
          rw [archivoltref05_Units.j1]
          cases q with
          | true =>
            rw [if_pos rfl, if_pos (of_decide_eq_true hq.symm)]; rfl
          | false =>
            rw [if_neg (by decide), if_neg (of_decide_eq_false hq.symm), List.drop_drop]
            have ew : wrap64 ((i : Int) + n) = ((i + n : Nat) : Int) := by rw [w64 _ (by omega) (by omega)]; rfl
            have hfin : ∀ o : Option (List Int), finU acc (o.map (encU c ++ ·)) = finU (acc ++ encU c) o := fun o => by
              cases o with
              | none => rfl
              | some r => simp only [Option.map_some, finU, List.append_assoc]
            rw [hfin, ew]
            by_cases hc : c < 65536
            · rw [if_pos hc, if_pos (by omega)]
              have e1 : IntKind.u16.wrap c = c := by simp [IntKind.wrap, IntKind.bits, IntKind.signed]; omega
              rw [e1, units_l s hs f (k3 + 2) (i + n) (acc ++ [c]) c (by omega) (by omega) (by omega) (by simp; omega), encU_1 hc]
            · rw [if_neg hc]
              simp only [Option.bind_some, List.length_cons, List.length_nil]
              rw [if_pos (by omega)]
              have t1 : Int.tdiv (wrap64 (c - 65536)) 1024 = (c - 65536) / 1024 := by rw [w64 _ (by omega) (by omega), Int.tdiv_eq_ediv_of_nonneg (by omega)]
              have t2 : Int.tmod (wrap64 (c - 65536)) 1024 = (c - 65536) % 1024 := by rw [w64 _ (by omega) (by omega), Int.tmod_eq_emod_of_nonneg (by omega)]
              rw [t1, t2, w64 ((c - 65536) / 1024) (by omega) (by omega), w64 (55296 + (c - 65536) / 1024) (by omega) (by omega), w64 (56320 + (c - 65536) % 1024) (by omega) (by omega)]
              have e1 : IntKind.u16.wrap (55296 + (c - 65536) / 1024) = 55296 + (c - 65536) / 1024 := by simp [IntKind.wrap, IntKind.bits, IntKind.signed]; omega
              have e2 : IntKind.u16.wrap (56320 + (c - 65536) % 1024) = 56320 + (c - 65536) % 1024 := by simp [IntKind.wrap, IntKind.bits, IntKind.signed]; omega
              rw [e1, e2, ← encU_2 (show 65536 ≤ c by omega), units_l s hs f (k3 + 2) (i + n) (acc ++ encU c) c (by omega) (by omega) (by omega) (by have := encU_len c; rw [List.length_append]; omega)]
        rw [ehi, elo]
        simp only [Option.bind_some]
        by_cases hh : 55296 ≤ last ∧ last < 56320
        · rw [decide_eq_true hh, if_pos rfl]
          exact hj _ (by rw [decide_eq_decide]; exact ⟨fun h => ⟨hh.1, hh.2, h⟩, fun h => h.2.2⟩)
        · rw [decide_eq_false hh, if_neg (by decide)]
          exact hj _ (by symm; rw [decide_eq_false]; exact fun h => hh ⟨h.1, h.2.1⟩)
    · have hnil : (bts s).drop i = [] := List.drop_eq_nil_of_le (by omega)
      rw [if_neg (by omega), hnil, if_pos rfl]
      simp only [finU, List.append_nil]
      by_cases h : acc.length > 4096
      · rw [if_pos (by omega), if_pos h]
      · rw [if_neg (by omega), if_neg h]
/-- What the document's 'Units' says. -/
def refU (s : ByteArray) : List Int × Int := match getU s with
  | some r => (r, 0)
  | none => ([], 4)
theorem units_f (s : ByteArray) (hs : s.size ≤ 1000000) (K : Nat) (hK : 2 * s.size + 20 ≤ K) : archivoltref05_Units.f K s = some (refU s) := by
  unfold archivoltref05_Units.f
  have h := units_l s hs (s.size + 1) K 0 [] 0 (by omega) (by omega) (by omega) (by simp)
  have h' : archivoltref05_Units.l0 K s [] 0 0 = some (finU [] (unitsM (bts s))) := by
    unfold unitsM
    rw [bts_len]
    exact h
  rw [h']
  congr 1
  unfold refU getU readM
  cases hu : unitsM (bts s) with
  | none => rfl
  | some l =>
    simp only [finU, List.nil_append]
    by_cases q : l.length > 4096
    · rw [if_pos q]
      have : decide (l.length ≤ 4096) = false := by simp; omega
      rw [this]
    · rw [if_neg q]
      have : decide (l.length ≤ 4096) = true := by simp; omega
      rw [this]

theorem rd_of_C {w : World} {k : IntKind} {A : Option Addr} {n : Nat} {xs : List Int} (h : (Kd.int k).C w A n xs) (hn : n ≤ 9223372036854775807) (hl : xs.length = n) : Rd w k A n xs := by
  refine ⟨hl, hn, fun j hj => ?_⟩
  obtain ⟨ad, hA, hc⟩ := Kd.at_int h (j : Int) (by omega) (by omega)
  refine ⟨ad, hA, ?_⟩
  simpa [rd] using hc
/-- The document's 'Units', whatever the string. -/
theorem runits_any (s : ByteArray) (hs : s.size ≤ 100000) (w : World) :
    Calls Tryd.prog 34 #[.string s] w fun e w' => (∃ A c, e = .returned (.agg #[.slice A (refU s).1.length c, .int .i64 (refU s).2]) ∧ (refU s).1.length ≤ c ∧ Rd w' .u16 A (refU s).1.length (refU s).1) ∧ Below w.heap.size w w' :=
  (archivoltref05_Units.calls _ s (refU s).1 (refU s).2 w (units_f s (by omega) _ (Nat.le_refl _))).mono fun e w' ⟨v, he, hR, hB⟩ => by
    obtain ⟨A, c, rfl, hc, hC⟩ := Kd.R_reads hR
    refine ⟨⟨A, c, he, hc, rd_of_C hC ?_ rfl⟩, hB⟩
    unfold refU
    cases hg : getU s with
    | none => simp
    | some r => have := (getU_props hg).2.2; simp only; omega
end Go.Proofs.YtmbdiimenmnfjaaDoor
/- Walk: the document's Up, one range of units after the other. -/
namespace Go.Proofs.YtmbdiimenmnfjaaDoor
open Go.RowKit Go.Deep
set_option linter.unusedVariables false
set_option linter.unusedSimpArgs false
set_option maxRecDepth 100000

theorem u16_in (x : Int) (h0 : 0 ≤ x) (h1 : x ≤ 65535) : IntKind.u16.wrap x = x := by simp [IntKind.wrap, IntKind.bits, IntKind.signed]; omega

theorem rup_0 (u : Int) (h0 : 0 ≤ u) (h1 : u ≤ 96) (w : World) : Calls Tryd.prog 36 #[.int .u16 u] w fun e w' => e = .returned (.int .u16 (upM u)) ∧ w' = w := by
  have hm : upM u = u := by
    unfold upM
    simp only [rowsL, upL]
    rw [if_neg (by simp only [hitR]; omega), if_neg (by simp only [hitR]; omega), if_neg (by simp only [hitR]; omega), if_neg (by simp only [hitR]; omega), if_neg (by simp only [hitR]; omega), if_neg (by simp only [hitR]; omega), if_neg (by simp only [hitR]; omega), if_neg (by simp only [hitR]; omega), if_neg (by simp only [hitR]; omega), if_neg (by simp only [hitR]; omega), if_neg (by simp only [hitR]; omega), if_neg (by simp only [hitR]; omega), if_neg (by simp only [hitR]; omega)]
  rw [hm]
  have g97 : ¬ 97 ≤ u := by omega
  have g224 : ¬ 224 ≤ u := by omega
  have g248 : ¬ 248 ≤ u := by omega
  have g945 : ¬ 945 ≤ u := by omega
  have g963 : ¬ 963 ≤ u := by omega
  have g1072 : ¬ 1072 ≤ u := by omega
  have g257 : ¬ 257 ≤ u := by omega
  have g331 : ¬ 331 ≤ u := by omega
  have g1121 : ¬ 1121 ≤ u := by omega
  have g314 : ¬ 314 ≤ u := by omega
  have g1104 : ¬ 1104 ≤ u := by omega
  have l122 : u ≤ 122 := by omega
  have l246 : u ≤ 246 := by omega
  have l254 : u ≤ 254 := by omega
  have l961 : u ≤ 961 := by omega
  have l969 : u ≤ 969 := by omega
  have l1103 : u ≤ 1103 := by omega
  have l311 : u ≤ 311 := by omega
  have l375 : u ≤ 375 := by omega
  have l1153 : u ≤ 1153 := by omega
  have l328 : u ≤ 328 := by omega
  have l1119 : u ≤ 1119 := by omega
  have e255 : ¬ u = 255 := by omega
  have e962 : ¬ u = 962 := by omega
  obtain ⟨q, hq⟩ : ∃ q : Bool, decide (u % 2 = 1) = q := ⟨_, rfl⟩
  clear h0 h1 hm
  go_enter Tryd.func36, Tryd.ntmps36
  go_wp2
  all_goals (go_ret; exact ⟨rfl, rfl⟩)

theorem rup_1 (u : Int) (h0 : 97 ≤ u) (h1 : u ≤ 122) (w : World) : Calls Tryd.prog 36 #[.int .u16 u] w fun e w' => e = .returned (.int .u16 (upM u)) ∧ w' = w := by
  have hm : upM u = u - 32 := by
    unfold upM
    simp only [rowsL, upL]
    rw [if_pos (by simp only [hitR]; omega)]
    rfl
  rw [hm]
  have g97 : 97 ≤ u := by omega
  have g224 : ¬ 224 ≤ u := by omega
  have g248 : ¬ 248 ≤ u := by omega
  have g945 : ¬ 945 ≤ u := by omega
  have g963 : ¬ 963 ≤ u := by omega
  have g1072 : ¬ 1072 ≤ u := by omega
  have g257 : ¬ 257 ≤ u := by omega
  have g331 : ¬ 331 ≤ u := by omega
  have g1121 : ¬ 1121 ≤ u := by omega
  have g314 : ¬ 314 ≤ u := by omega
  have g1104 : ¬ 1104 ≤ u := by omega
  have l122 : u ≤ 122 := by omega
  have l246 : u ≤ 246 := by omega
  have l254 : u ≤ 254 := by omega
  have l961 : u ≤ 961 := by omega
  have l969 : u ≤ 969 := by omega
  have l1103 : u ≤ 1103 := by omega
  have l311 : u ≤ 311 := by omega
  have l375 : u ≤ 375 := by omega
  have l1153 : u ≤ 1153 := by omega
  have l328 : u ≤ 328 := by omega
  have l1119 : u ≤ 1119 := by omega
  have e255 : ¬ u = 255 := by omega
  have e962 : ¬ u = 962 := by omega
  obtain ⟨q, hq⟩ : ∃ q : Bool, decide (u % 2 = 1) = q := ⟨_, rfl⟩
  have hw : IntKind.u16.wrap (u - 32) = u - 32 := u16_in _ (by omega) (by omega)
  clear h0 h1 hm
  go_enter Tryd.func36, Tryd.ntmps36
  go_wp2
  all_goals (go_ret; exact ⟨rfl, rfl⟩)

theorem rup_2 (u : Int) (h0 : 123 ≤ u) (h1 : u ≤ 223) (w : World) : Calls Tryd.prog 36 #[.int .u16 u] w fun e w' => e = .returned (.int .u16 (upM u)) ∧ w' = w := by
  have hm : upM u = u := by
    unfold upM
    simp only [rowsL, upL]
    rw [if_neg (by simp only [hitR]; omega), if_neg (by simp only [hitR]; omega), if_neg (by simp only [hitR]; omega), if_neg (by simp only [hitR]; omega), if_neg (by simp only [hitR]; omega), if_neg (by simp only [hitR]; omega), if_neg (by simp only [hitR]; omega), if_neg (by simp only [hitR]; omega), if_neg (by simp only [hitR]; omega), if_neg (by simp only [hitR]; omega), if_neg (by simp only [hitR]; omega), if_neg (by simp only [hitR]; omega), if_neg (by simp only [hitR]; omega)]
  rw [hm]
  have g97 : 97 ≤ u := by omega
  have g224 : ¬ 224 ≤ u := by omega
  have g248 : ¬ 248 ≤ u := by omega
  have g945 : ¬ 945 ≤ u := by omega
  have g963 : ¬ 963 ≤ u := by omega
  have g1072 : ¬ 1072 ≤ u := by omega
  have g257 : ¬ 257 ≤ u := by omega
  have g331 : ¬ 331 ≤ u := by omega
  have g1121 : ¬ 1121 ≤ u := by omega
  have g314 : ¬ 314 ≤ u := by omega
  have g1104 : ¬ 1104 ≤ u := by omega
  have l122 : ¬ u ≤ 122 := by omega
  have l246 : u ≤ 246 := by omega
  have l254 : u ≤ 254 := by omega
  have l961 : u ≤ 961 := by omega
  have l969 : u ≤ 969 := by omega
  have l1103 : u ≤ 1103 := by omega
  have l311 : u ≤ 311 := by omega
  have l375 : u ≤ 375 := by omega
  have l1153 : u ≤ 1153 := by omega
  have l328 : u ≤ 328 := by omega
  have l1119 : u ≤ 1119 := by omega
  have e255 : ¬ u = 255 := by omega
  have e962 : ¬ u = 962 := by omega
  obtain ⟨q, hq⟩ : ∃ q : Bool, decide (u % 2 = 1) = q := ⟨_, rfl⟩
  clear h0 h1 hm
  go_enter Tryd.func36, Tryd.ntmps36
  go_wp2
  all_goals (go_ret; exact ⟨rfl, rfl⟩)

theorem rup_3 (u : Int) (h0 : 224 ≤ u) (h1 : u ≤ 246) (w : World) : Calls Tryd.prog 36 #[.int .u16 u] w fun e w' => e = .returned (.int .u16 (upM u)) ∧ w' = w := by
  have hm : upM u = u - 32 := by
    unfold upM
    simp only [rowsL, upL]
    rw [if_neg (by simp only [hitR]; omega), if_pos (by simp only [hitR]; omega)]
    rfl
  rw [hm]
  have g97 : 97 ≤ u := by omega
  have g224 : 224 ≤ u := by omega
  have g248 : ¬ 248 ≤ u := by omega
  have g945 : ¬ 945 ≤ u := by omega
  have g963 : ¬ 963 ≤ u := by omega
  have g1072 : ¬ 1072 ≤ u := by omega
  have g257 : ¬ 257 ≤ u := by omega
  have g331 : ¬ 331 ≤ u := by omega
  have g1121 : ¬ 1121 ≤ u := by omega
  have g314 : ¬ 314 ≤ u := by omega
  have g1104 : ¬ 1104 ≤ u := by omega
  have l122 : ¬ u ≤ 122 := by omega
  have l246 : u ≤ 246 := by omega
  have l254 : u ≤ 254 := by omega
  have l961 : u ≤ 961 := by omega
  have l969 : u ≤ 969 := by omega
  have l1103 : u ≤ 1103 := by omega
  have l311 : u ≤ 311 := by omega
  have l375 : u ≤ 375 := by omega
  have l1153 : u ≤ 1153 := by omega
  have l328 : u ≤ 328 := by omega
  have l1119 : u ≤ 1119 := by omega
  have e255 : ¬ u = 255 := by omega
  have e962 : ¬ u = 962 := by omega
  obtain ⟨q, hq⟩ : ∃ q : Bool, decide (u % 2 = 1) = q := ⟨_, rfl⟩
  have hw : IntKind.u16.wrap (u - 32) = u - 32 := u16_in _ (by omega) (by omega)
  clear h0 h1 hm
  go_enter Tryd.func36, Tryd.ntmps36
  go_wp2
  all_goals (go_ret; exact ⟨rfl, rfl⟩)

theorem rup_4 (u : Int) (h0 : 247 ≤ u) (h1 : u ≤ 247) (w : World) : Calls Tryd.prog 36 #[.int .u16 u] w fun e w' => e = .returned (.int .u16 (upM u)) ∧ w' = w := by
  have hm : upM u = u := by
    unfold upM
    simp only [rowsL, upL]
    rw [if_neg (by simp only [hitR]; omega), if_neg (by simp only [hitR]; omega), if_neg (by simp only [hitR]; omega), if_neg (by simp only [hitR]; omega), if_neg (by simp only [hitR]; omega), if_neg (by simp only [hitR]; omega), if_neg (by simp only [hitR]; omega), if_neg (by simp only [hitR]; omega), if_neg (by simp only [hitR]; omega), if_neg (by simp only [hitR]; omega), if_neg (by simp only [hitR]; omega), if_neg (by simp only [hitR]; omega), if_neg (by simp only [hitR]; omega)]
  rw [hm]
  have g97 : 97 ≤ u := by omega
  have g224 : 224 ≤ u := by omega
  have g248 : ¬ 248 ≤ u := by omega
  have g945 : ¬ 945 ≤ u := by omega
  have g963 : ¬ 963 ≤ u := by omega
  have g1072 : ¬ 1072 ≤ u := by omega
  have g257 : ¬ 257 ≤ u := by omega
  have g331 : ¬ 331 ≤ u := by omega
  have g1121 : ¬ 1121 ≤ u := by omega
  have g314 : ¬ 314 ≤ u := by omega
  have g1104 : ¬ 1104 ≤ u := by omega
  have l122 : ¬ u ≤ 122 := by omega
  have l246 : ¬ u ≤ 246 := by omega
  have l254 : u ≤ 254 := by omega
  have l961 : u ≤ 961 := by omega
  have l969 : u ≤ 969 := by omega
  have l1103 : u ≤ 1103 := by omega
  have l311 : u ≤ 311 := by omega
  have l375 : u ≤ 375 := by omega
  have l1153 : u ≤ 1153 := by omega
  have l328 : u ≤ 328 := by omega
  have l1119 : u ≤ 1119 := by omega
  have e255 : ¬ u = 255 := by omega
  have e962 : ¬ u = 962 := by omega
  obtain ⟨q, hq⟩ : ∃ q : Bool, decide (u % 2 = 1) = q := ⟨_, rfl⟩
  clear h0 h1 hm
  go_enter Tryd.func36, Tryd.ntmps36
  go_wp2
  all_goals (go_ret; exact ⟨rfl, rfl⟩)

theorem rup_5 (u : Int) (h0 : 248 ≤ u) (h1 : u ≤ 254) (w : World) : Calls Tryd.prog 36 #[.int .u16 u] w fun e w' => e = .returned (.int .u16 (upM u)) ∧ w' = w := by
  have hm : upM u = u - 32 := by
    unfold upM
    simp only [rowsL, upL]
    rw [if_neg (by simp only [hitR]; omega), if_neg (by simp only [hitR]; omega), if_pos (by simp only [hitR]; omega)]
    rfl
  rw [hm]
  have g97 : 97 ≤ u := by omega
  have g224 : 224 ≤ u := by omega
  have g248 : 248 ≤ u := by omega
  have g945 : ¬ 945 ≤ u := by omega
  have g963 : ¬ 963 ≤ u := by omega
  have g1072 : ¬ 1072 ≤ u := by omega
  have g257 : ¬ 257 ≤ u := by omega
  have g331 : ¬ 331 ≤ u := by omega
  have g1121 : ¬ 1121 ≤ u := by omega
  have g314 : ¬ 314 ≤ u := by omega
  have g1104 : ¬ 1104 ≤ u := by omega
  have l122 : ¬ u ≤ 122 := by omega
  have l246 : ¬ u ≤ 246 := by omega
  have l254 : u ≤ 254 := by omega
  have l961 : u ≤ 961 := by omega
  have l969 : u ≤ 969 := by omega
  have l1103 : u ≤ 1103 := by omega
  have l311 : u ≤ 311 := by omega
  have l375 : u ≤ 375 := by omega
  have l1153 : u ≤ 1153 := by omega
  have l328 : u ≤ 328 := by omega
  have l1119 : u ≤ 1119 := by omega
  have e255 : ¬ u = 255 := by omega
  have e962 : ¬ u = 962 := by omega
  obtain ⟨q, hq⟩ : ∃ q : Bool, decide (u % 2 = 1) = q := ⟨_, rfl⟩
  have hw : IntKind.u16.wrap (u - 32) = u - 32 := u16_in _ (by omega) (by omega)
  clear h0 h1 hm
  go_enter Tryd.func36, Tryd.ntmps36
  go_wp2
  all_goals (go_ret; exact ⟨rfl, rfl⟩)

theorem rup_6 (u : Int) (h0 : 255 ≤ u) (h1 : u ≤ 255) (w : World) : Calls Tryd.prog 36 #[.int .u16 u] w fun e w' => e = .returned (.int .u16 (upM u)) ∧ w' = w := by
  have hm : upM u = 376 := by
    unfold upM
    simp only [rowsL, upL]
    rw [if_neg (by simp only [hitR]; omega), if_neg (by simp only [hitR]; omega), if_neg (by simp only [hitR]; omega), if_pos (by simp only [hitR]; omega)]
    omega
  rw [hm]
  have g97 : 97 ≤ u := by omega
  have g224 : 224 ≤ u := by omega
  have g248 : 248 ≤ u := by omega
  have g945 : ¬ 945 ≤ u := by omega
  have g963 : ¬ 963 ≤ u := by omega
  have g1072 : ¬ 1072 ≤ u := by omega
  have g257 : ¬ 257 ≤ u := by omega
  have g331 : ¬ 331 ≤ u := by omega
  have g1121 : ¬ 1121 ≤ u := by omega
  have g314 : ¬ 314 ≤ u := by omega
  have g1104 : ¬ 1104 ≤ u := by omega
  have l122 : ¬ u ≤ 122 := by omega
  have l246 : ¬ u ≤ 246 := by omega
  have l254 : ¬ u ≤ 254 := by omega
  have l961 : u ≤ 961 := by omega
  have l969 : u ≤ 969 := by omega
  have l1103 : u ≤ 1103 := by omega
  have l311 : u ≤ 311 := by omega
  have l375 : u ≤ 375 := by omega
  have l1153 : u ≤ 1153 := by omega
  have l328 : u ≤ 328 := by omega
  have l1119 : u ≤ 1119 := by omega
  have e255 : u = 255 := by omega
  have e962 : ¬ u = 962 := by omega
  obtain ⟨q, hq⟩ : ∃ q : Bool, decide (u % 2 = 1) = q := ⟨_, rfl⟩
  clear h0 h1 hm
  go_enter Tryd.func36, Tryd.ntmps36
  go_wp2
  all_goals (go_ret; exact ⟨rfl, rfl⟩)

theorem rup_7 (u : Int) (h0 : 256 ≤ u) (h1 : u ≤ 256) (w : World) : Calls Tryd.prog 36 #[.int .u16 u] w fun e w' => e = .returned (.int .u16 (upM u)) ∧ w' = w := by
  have hm : upM u = u := by
    unfold upM
    simp only [rowsL, upL]
    rw [if_neg (by simp only [hitR]; omega), if_neg (by simp only [hitR]; omega), if_neg (by simp only [hitR]; omega), if_neg (by simp only [hitR]; omega), if_neg (by simp only [hitR]; omega), if_neg (by simp only [hitR]; omega), if_neg (by simp only [hitR]; omega), if_neg (by simp only [hitR]; omega), if_neg (by simp only [hitR]; omega), if_neg (by simp only [hitR]; omega), if_neg (by simp only [hitR]; omega), if_neg (by simp only [hitR]; omega), if_neg (by simp only [hitR]; omega)]
  rw [hm]
  have g97 : 97 ≤ u := by omega
  have g224 : 224 ≤ u := by omega
  have g248 : 248 ≤ u := by omega
  have g945 : ¬ 945 ≤ u := by omega
  have g963 : ¬ 963 ≤ u := by omega
  have g1072 : ¬ 1072 ≤ u := by omega
  have g257 : ¬ 257 ≤ u := by omega
  have g331 : ¬ 331 ≤ u := by omega
  have g1121 : ¬ 1121 ≤ u := by omega
  have g314 : ¬ 314 ≤ u := by omega
  have g1104 : ¬ 1104 ≤ u := by omega
  have l122 : ¬ u ≤ 122 := by omega
  have l246 : ¬ u ≤ 246 := by omega
  have l254 : ¬ u ≤ 254 := by omega
  have l961 : u ≤ 961 := by omega
  have l969 : u ≤ 969 := by omega
  have l1103 : u ≤ 1103 := by omega
  have l311 : u ≤ 311 := by omega
  have l375 : u ≤ 375 := by omega
  have l1153 : u ≤ 1153 := by omega
  have l328 : u ≤ 328 := by omega
  have l1119 : u ≤ 1119 := by omega
  have e255 : ¬ u = 255 := by omega
  have e962 : ¬ u = 962 := by omega
  obtain ⟨q, hq⟩ : ∃ q : Bool, decide (u % 2 = 1) = q := ⟨_, rfl⟩
  clear h0 h1 hm
  go_enter Tryd.func36, Tryd.ntmps36
  go_wp2
  all_goals (go_ret; exact ⟨rfl, rfl⟩)

theorem rup_8 (u : Int) (h0 : 257 ≤ u) (h1 : u ≤ 311) (hp : u % 2 = 1) (w : World) : Calls Tryd.prog 36 #[.int .u16 u] w fun e w' => e = .returned (.int .u16 (upM u)) ∧ w' = w := by
  have hm : upM u = u - 1 := by
    unfold upM
    simp only [rowsL, upL]
    rw [if_neg (by simp only [hitR]; omega), if_neg (by simp only [hitR]; omega), if_neg (by simp only [hitR]; omega), if_neg (by simp only [hitR]; omega), if_pos (by simp only [hitR]; omega)]
    rfl
  rw [hm]
  have g97 : 97 ≤ u := by omega
  have g224 : 224 ≤ u := by omega
  have g248 : 248 ≤ u := by omega
  have g945 : ¬ 945 ≤ u := by omega
  have g963 : ¬ 963 ≤ u := by omega
  have g1072 : ¬ 1072 ≤ u := by omega
  have g257 : 257 ≤ u := by omega
  have g331 : ¬ 331 ≤ u := by omega
  have g1121 : ¬ 1121 ≤ u := by omega
  have g314 : ¬ 314 ≤ u := by omega
  have g1104 : ¬ 1104 ≤ u := by omega
  have l122 : ¬ u ≤ 122 := by omega
  have l246 : ¬ u ≤ 246 := by omega
  have l254 : ¬ u ≤ 254 := by omega
  have l961 : u ≤ 961 := by omega
  have l969 : u ≤ 969 := by omega
  have l1103 : u ≤ 1103 := by omega
  have l311 : u ≤ 311 := by omega
  have l375 : u ≤ 375 := by omega
  have l1153 : u ≤ 1153 := by omega
  have l328 : u ≤ 328 := by omega
  have l1119 : u ≤ 1119 := by omega
  have e255 : ¬ u = 255 := by omega
  have e962 : ¬ u = 962 := by omega
  have hpar : u % 2 = 1 := by omega
  have hw : IntKind.u16.wrap (u - 1) = u - 1 := u16_in _ (by omega) (by omega)
  clear h0 h1 hm
  go_enter Tryd.func36, Tryd.ntmps36
  go_wp2
  all_goals (go_ret; exact ⟨rfl, rfl⟩)

theorem rup_9 (u : Int) (h0 : 257 ≤ u) (h1 : u ≤ 311) (hp : u % 2 = 0) (w : World) : Calls Tryd.prog 36 #[.int .u16 u] w fun e w' => e = .returned (.int .u16 (upM u)) ∧ w' = w := by
  have hm : upM u = u := by
    unfold upM
    simp only [rowsL, upL]
    rw [if_neg (by simp only [hitR]; omega), if_neg (by simp only [hitR]; omega), if_neg (by simp only [hitR]; omega), if_neg (by simp only [hitR]; omega), if_neg (by simp only [hitR]; omega), if_neg (by simp only [hitR]; omega), if_neg (by simp only [hitR]; omega), if_neg (by simp only [hitR]; omega), if_neg (by simp only [hitR]; omega), if_neg (by simp only [hitR]; omega), if_neg (by simp only [hitR]; omega), if_neg (by simp only [hitR]; omega), if_neg (by simp only [hitR]; omega)]
  rw [hm]
  have g97 : 97 ≤ u := by omega
  have g224 : 224 ≤ u := by omega
  have g248 : 248 ≤ u := by omega
  have g945 : ¬ 945 ≤ u := by omega
  have g963 : ¬ 963 ≤ u := by omega
  have g1072 : ¬ 1072 ≤ u := by omega
  have g257 : 257 ≤ u := by omega
  have g331 : ¬ 331 ≤ u := by omega
  have g1121 : ¬ 1121 ≤ u := by omega
  have g314 : ¬ 314 ≤ u := by omega
  have g1104 : ¬ 1104 ≤ u := by omega
  have l122 : ¬ u ≤ 122 := by omega
  have l246 : ¬ u ≤ 246 := by omega
  have l254 : ¬ u ≤ 254 := by omega
  have l961 : u ≤ 961 := by omega
  have l969 : u ≤ 969 := by omega
  have l1103 : u ≤ 1103 := by omega
  have l311 : u ≤ 311 := by omega
  have l375 : u ≤ 375 := by omega
  have l1153 : u ≤ 1153 := by omega
  have l328 : u ≤ 328 := by omega
  have l1119 : u ≤ 1119 := by omega
  have e255 : ¬ u = 255 := by omega
  have e962 : ¬ u = 962 := by omega
  have hpar : ¬ u % 2 = 1 := by omega
  clear h0 h1 hm
  go_enter Tryd.func36, Tryd.ntmps36
  go_wp2
  all_goals (go_ret; exact ⟨rfl, rfl⟩)

theorem rup_10 (u : Int) (h0 : 312 ≤ u) (h1 : u ≤ 313) (w : World) : Calls Tryd.prog 36 #[.int .u16 u] w fun e w' => e = .returned (.int .u16 (upM u)) ∧ w' = w := by
  have hm : upM u = u := by
    unfold upM
    simp only [rowsL, upL]
    rw [if_neg (by simp only [hitR]; omega), if_neg (by simp only [hitR]; omega), if_neg (by simp only [hitR]; omega), if_neg (by simp only [hitR]; omega), if_neg (by simp only [hitR]; omega), if_neg (by simp only [hitR]; omega), if_neg (by simp only [hitR]; omega), if_neg (by simp only [hitR]; omega), if_neg (by simp only [hitR]; omega), if_neg (by simp only [hitR]; omega), if_neg (by simp only [hitR]; omega), if_neg (by simp only [hitR]; omega), if_neg (by simp only [hitR]; omega)]
  rw [hm]
  have g97 : 97 ≤ u := by omega
  have g224 : 224 ≤ u := by omega
  have g248 : 248 ≤ u := by omega
  have g945 : ¬ 945 ≤ u := by omega
  have g963 : ¬ 963 ≤ u := by omega
  have g1072 : ¬ 1072 ≤ u := by omega
  have g257 : 257 ≤ u := by omega
  have g331 : ¬ 331 ≤ u := by omega
  have g1121 : ¬ 1121 ≤ u := by omega
  have g314 : ¬ 314 ≤ u := by omega
  have g1104 : ¬ 1104 ≤ u := by omega
  have l122 : ¬ u ≤ 122 := by omega
  have l246 : ¬ u ≤ 246 := by omega
  have l254 : ¬ u ≤ 254 := by omega
  have l961 : u ≤ 961 := by omega
  have l969 : u ≤ 969 := by omega
  have l1103 : u ≤ 1103 := by omega
  have l311 : ¬ u ≤ 311 := by omega
  have l375 : u ≤ 375 := by omega
  have l1153 : u ≤ 1153 := by omega
  have l328 : u ≤ 328 := by omega
  have l1119 : u ≤ 1119 := by omega
  have e255 : ¬ u = 255 := by omega
  have e962 : ¬ u = 962 := by omega
  obtain ⟨q, hq⟩ : ∃ q : Bool, decide (u % 2 = 1) = q := ⟨_, rfl⟩
  clear h0 h1 hm
  go_enter Tryd.func36, Tryd.ntmps36
  go_wp2
  all_goals (go_ret; exact ⟨rfl, rfl⟩)

theorem rup_11 (u : Int) (h0 : 314 ≤ u) (h1 : u ≤ 328) (hp : u % 2 = 1) (w : World) : Calls Tryd.prog 36 #[.int .u16 u] w fun e w' => e = .returned (.int .u16 (upM u)) ∧ w' = w := by
  have hm : upM u = u := by
    unfold upM
    simp only [rowsL, upL]
    rw [if_neg (by simp only [hitR]; omega), if_neg (by simp only [hitR]; omega), if_neg (by simp only [hitR]; omega), if_neg (by simp only [hitR]; omega), if_neg (by simp only [hitR]; omega), if_neg (by simp only [hitR]; omega), if_neg (by simp only [hitR]; omega), if_neg (by simp only [hitR]; omega), if_neg (by simp only [hitR]; omega), if_neg (by simp only [hitR]; omega), if_neg (by simp only [hitR]; omega), if_neg (by simp only [hitR]; omega), if_neg (by simp only [hitR]; omega)]
  rw [hm]
  have g97 : 97 ≤ u := by omega
  have g224 : 224 ≤ u := by omega
  have g248 : 248 ≤ u := by omega
  have g945 : ¬ 945 ≤ u := by omega
  have g963 : ¬ 963 ≤ u := by omega
  have g1072 : ¬ 1072 ≤ u := by omega
  have g257 : 257 ≤ u := by omega
  have g331 : ¬ 331 ≤ u := by omega
  have g1121 : ¬ 1121 ≤ u := by omega
  have g314 : 314 ≤ u := by omega
  have g1104 : ¬ 1104 ≤ u := by omega
  have l122 : ¬ u ≤ 122 := by omega
  have l246 : ¬ u ≤ 246 := by omega
  have l254 : ¬ u ≤ 254 := by omega
  have l961 : u ≤ 961 := by omega
  have l969 : u ≤ 969 := by omega
  have l1103 : u ≤ 1103 := by omega
  have l311 : ¬ u ≤ 311 := by omega
  have l375 : u ≤ 375 := by omega
  have l1153 : u ≤ 1153 := by omega
  have l328 : u ≤ 328 := by omega
  have l1119 : u ≤ 1119 := by omega
  have e255 : ¬ u = 255 := by omega
  have e962 : ¬ u = 962 := by omega
  have hpar : u % 2 = 1 := by omega
  clear h0 h1 hm
  go_enter Tryd.func36, Tryd.ntmps36
  go_wp2
  all_goals (go_ret; exact ⟨rfl, rfl⟩)

theorem rup_12 (u : Int) (h0 : 314 ≤ u) (h1 : u ≤ 328) (hp : u % 2 = 0) (w : World) : Calls Tryd.prog 36 #[.int .u16 u] w fun e w' => e = .returned (.int .u16 (upM u)) ∧ w' = w := by
  have hm : upM u = u - 1 := by
    unfold upM
    simp only [rowsL, upL]
    rw [if_neg (by simp only [hitR]; omega), if_neg (by simp only [hitR]; omega), if_neg (by simp only [hitR]; omega), if_neg (by simp only [hitR]; omega), if_neg (by simp only [hitR]; omega), if_pos (by simp only [hitR]; omega)]
    rfl
  rw [hm]
  have g97 : 97 ≤ u := by omega
  have g224 : 224 ≤ u := by omega
  have g248 : 248 ≤ u := by omega
  have g945 : ¬ 945 ≤ u := by omega
  have g963 : ¬ 963 ≤ u := by omega
  have g1072 : ¬ 1072 ≤ u := by omega
  have g257 : 257 ≤ u := by omega
  have g331 : ¬ 331 ≤ u := by omega
  have g1121 : ¬ 1121 ≤ u := by omega
  have g314 : 314 ≤ u := by omega
  have g1104 : ¬ 1104 ≤ u := by omega
  have l122 : ¬ u ≤ 122 := by omega
  have l246 : ¬ u ≤ 246 := by omega
  have l254 : ¬ u ≤ 254 := by omega
  have l961 : u ≤ 961 := by omega
  have l969 : u ≤ 969 := by omega
  have l1103 : u ≤ 1103 := by omega
  have l311 : ¬ u ≤ 311 := by omega
  have l375 : u ≤ 375 := by omega
  have l1153 : u ≤ 1153 := by omega
  have l328 : u ≤ 328 := by omega
  have l1119 : u ≤ 1119 := by omega
  have e255 : ¬ u = 255 := by omega
  have e962 : ¬ u = 962 := by omega
  have hpar : ¬ u % 2 = 1 := by omega
  have hw : IntKind.u16.wrap (u - 1) = u - 1 := u16_in _ (by omega) (by omega)
  clear h0 h1 hm
  go_enter Tryd.func36, Tryd.ntmps36
  go_wp2
  all_goals (go_ret; exact ⟨rfl, rfl⟩)

theorem rup_13 (u : Int) (h0 : 329 ≤ u) (h1 : u ≤ 330) (w : World) : Calls Tryd.prog 36 #[.int .u16 u] w fun e w' => e = .returned (.int .u16 (upM u)) ∧ w' = w := by
  have hm : upM u = u := by
    unfold upM
    simp only [rowsL, upL]
    rw [if_neg (by simp only [hitR]; omega), if_neg (by simp only [hitR]; omega), if_neg (by simp only [hitR]; omega), if_neg (by simp only [hitR]; omega), if_neg (by simp only [hitR]; omega), if_neg (by simp only [hitR]; omega), if_neg (by simp only [hitR]; omega), if_neg (by simp only [hitR]; omega), if_neg (by simp only [hitR]; omega), if_neg (by simp only [hitR]; omega), if_neg (by simp only [hitR]; omega), if_neg (by simp only [hitR]; omega), if_neg (by simp only [hitR]; omega)]
  rw [hm]
  have g97 : 97 ≤ u := by omega
  have g224 : 224 ≤ u := by omega
  have g248 : 248 ≤ u := by omega
  have g945 : ¬ 945 ≤ u := by omega
  have g963 : ¬ 963 ≤ u := by omega
  have g1072 : ¬ 1072 ≤ u := by omega
  have g257 : 257 ≤ u := by omega
  have g331 : ¬ 331 ≤ u := by omega
  have g1121 : ¬ 1121 ≤ u := by omega
  have g314 : 314 ≤ u := by omega
  have g1104 : ¬ 1104 ≤ u := by omega
  have l122 : ¬ u ≤ 122 := by omega
  have l246 : ¬ u ≤ 246 := by omega
  have l254 : ¬ u ≤ 254 := by omega
  have l961 : u ≤ 961 := by omega
  have l969 : u ≤ 969 := by omega
  have l1103 : u ≤ 1103 := by omega
  have l311 : ¬ u ≤ 311 := by omega
  have l375 : u ≤ 375 := by omega
  have l1153 : u ≤ 1153 := by omega
  have l328 : ¬ u ≤ 328 := by omega
  have l1119 : u ≤ 1119 := by omega
  have e255 : ¬ u = 255 := by omega
  have e962 : ¬ u = 962 := by omega
  obtain ⟨q, hq⟩ : ∃ q : Bool, decide (u % 2 = 1) = q := ⟨_, rfl⟩
  clear h0 h1 hm
  go_enter Tryd.func36, Tryd.ntmps36
  go_wp2
  all_goals (go_ret; exact ⟨rfl, rfl⟩)

theorem rup_14 (u : Int) (h0 : 331 ≤ u) (h1 : u ≤ 375) (hp : u % 2 = 1) (w : World) : Calls Tryd.prog 36 #[.int .u16 u] w fun e w' => e = .returned (.int .u16 (upM u)) ∧ w' = w := by
  have hm : upM u = u - 1 := by
    unfold upM
    simp only [rowsL, upL]
    rw [if_neg (by simp only [hitR]; omega), if_neg (by simp only [hitR]; omega), if_neg (by simp only [hitR]; omega), if_neg (by simp only [hitR]; omega), if_neg (by simp only [hitR]; omega), if_neg (by simp only [hitR]; omega), if_pos (by simp only [hitR]; omega)]
    rfl
  rw [hm]
  have g97 : 97 ≤ u := by omega
  have g224 : 224 ≤ u := by omega
  have g248 : 248 ≤ u := by omega
  have g945 : ¬ 945 ≤ u := by omega
  have g963 : ¬ 963 ≤ u := by omega
  have g1072 : ¬ 1072 ≤ u := by omega
  have g257 : 257 ≤ u := by omega
  have g331 : 331 ≤ u := by omega
  have g1121 : ¬ 1121 ≤ u := by omega
  have g314 : 314 ≤ u := by omega
  have g1104 : ¬ 1104 ≤ u := by omega
  have l122 : ¬ u ≤ 122 := by omega
  have l246 : ¬ u ≤ 246 := by omega
  have l254 : ¬ u ≤ 254 := by omega
  have l961 : u ≤ 961 := by omega
  have l969 : u ≤ 969 := by omega
  have l1103 : u ≤ 1103 := by omega
  have l311 : ¬ u ≤ 311 := by omega
  have l375 : u ≤ 375 := by omega
  have l1153 : u ≤ 1153 := by omega
  have l328 : ¬ u ≤ 328 := by omega
  have l1119 : u ≤ 1119 := by omega
  have e255 : ¬ u = 255 := by omega
  have e962 : ¬ u = 962 := by omega
  have hpar : u % 2 = 1 := by omega
  have hw : IntKind.u16.wrap (u - 1) = u - 1 := u16_in _ (by omega) (by omega)
  clear h0 h1 hm
  go_enter Tryd.func36, Tryd.ntmps36
  go_wp2
  all_goals (go_ret; exact ⟨rfl, rfl⟩)

theorem rup_15 (u : Int) (h0 : 331 ≤ u) (h1 : u ≤ 375) (hp : u % 2 = 0) (w : World) : Calls Tryd.prog 36 #[.int .u16 u] w fun e w' => e = .returned (.int .u16 (upM u)) ∧ w' = w := by
  have hm : upM u = u := by
    unfold upM
    simp only [rowsL, upL]
    rw [if_neg (by simp only [hitR]; omega), if_neg (by simp only [hitR]; omega), if_neg (by simp only [hitR]; omega), if_neg (by simp only [hitR]; omega), if_neg (by simp only [hitR]; omega), if_neg (by simp only [hitR]; omega), if_neg (by simp only [hitR]; omega), if_neg (by simp only [hitR]; omega), if_neg (by simp only [hitR]; omega), if_neg (by simp only [hitR]; omega), if_neg (by simp only [hitR]; omega), if_neg (by simp only [hitR]; omega), if_neg (by simp only [hitR]; omega)]
  rw [hm]
  have g97 : 97 ≤ u := by omega
  have g224 : 224 ≤ u := by omega
  have g248 : 248 ≤ u := by omega
  have g945 : ¬ 945 ≤ u := by omega
  have g963 : ¬ 963 ≤ u := by omega
  have g1072 : ¬ 1072 ≤ u := by omega
  have g257 : 257 ≤ u := by omega
  have g331 : 331 ≤ u := by omega
  have g1121 : ¬ 1121 ≤ u := by omega
  have g314 : 314 ≤ u := by omega
  have g1104 : ¬ 1104 ≤ u := by omega
  have l122 : ¬ u ≤ 122 := by omega
  have l246 : ¬ u ≤ 246 := by omega
  have l254 : ¬ u ≤ 254 := by omega
  have l961 : u ≤ 961 := by omega
  have l969 : u ≤ 969 := by omega
  have l1103 : u ≤ 1103 := by omega
  have l311 : ¬ u ≤ 311 := by omega
  have l375 : u ≤ 375 := by omega
  have l1153 : u ≤ 1153 := by omega
  have l328 : ¬ u ≤ 328 := by omega
  have l1119 : u ≤ 1119 := by omega
  have e255 : ¬ u = 255 := by omega
  have e962 : ¬ u = 962 := by omega
  have hpar : ¬ u % 2 = 1 := by omega
  clear h0 h1 hm
  go_enter Tryd.func36, Tryd.ntmps36
  go_wp2
  all_goals (go_ret; exact ⟨rfl, rfl⟩)

theorem rup_16 (u : Int) (h0 : 376 ≤ u) (h1 : u ≤ 944) (w : World) : Calls Tryd.prog 36 #[.int .u16 u] w fun e w' => e = .returned (.int .u16 (upM u)) ∧ w' = w := by
  have hm : upM u = u := by
    unfold upM
    simp only [rowsL, upL]
    rw [if_neg (by simp only [hitR]; omega), if_neg (by simp only [hitR]; omega), if_neg (by simp only [hitR]; omega), if_neg (by simp only [hitR]; omega), if_neg (by simp only [hitR]; omega), if_neg (by simp only [hitR]; omega), if_neg (by simp only [hitR]; omega), if_neg (by simp only [hitR]; omega), if_neg (by simp only [hitR]; omega), if_neg (by simp only [hitR]; omega), if_neg (by simp only [hitR]; omega), if_neg (by simp only [hitR]; omega), if_neg (by simp only [hitR]; omega)]
  rw [hm]
  have g97 : 97 ≤ u := by omega
  have g224 : 224 ≤ u := by omega
  have g248 : 248 ≤ u := by omega
  have g945 : ¬ 945 ≤ u := by omega
  have g963 : ¬ 963 ≤ u := by omega
  have g1072 : ¬ 1072 ≤ u := by omega
  have g257 : 257 ≤ u := by omega
  have g331 : 331 ≤ u := by omega
  have g1121 : ¬ 1121 ≤ u := by omega
  have g314 : 314 ≤ u := by omega
  have g1104 : ¬ 1104 ≤ u := by omega
  have l122 : ¬ u ≤ 122 := by omega
  have l246 : ¬ u ≤ 246 := by omega
  have l254 : ¬ u ≤ 254 := by omega
  have l961 : u ≤ 961 := by omega
  have l969 : u ≤ 969 := by omega
  have l1103 : u ≤ 1103 := by omega
  have l311 : ¬ u ≤ 311 := by omega
  have l375 : ¬ u ≤ 375 := by omega
  have l1153 : u ≤ 1153 := by omega
  have l328 : ¬ u ≤ 328 := by omega
  have l1119 : u ≤ 1119 := by omega
  have e255 : ¬ u = 255 := by omega
  have e962 : ¬ u = 962 := by omega
  obtain ⟨q, hq⟩ : ∃ q : Bool, decide (u % 2 = 1) = q := ⟨_, rfl⟩
  clear h0 h1 hm
  go_enter Tryd.func36, Tryd.ntmps36
  go_wp2
  all_goals (go_ret; exact ⟨rfl, rfl⟩)

theorem rup_17 (u : Int) (h0 : 945 ≤ u) (h1 : u ≤ 961) (w : World) : Calls Tryd.prog 36 #[.int .u16 u] w fun e w' => e = .returned (.int .u16 (upM u)) ∧ w' = w := by
  have hm : upM u = u - 32 := by
    unfold upM
    simp only [rowsL, upL]
    rw [if_neg (by simp only [hitR]; omega), if_neg (by simp only [hitR]; omega), if_neg (by simp only [hitR]; omega), if_neg (by simp only [hitR]; omega), if_neg (by simp only [hitR]; omega), if_neg (by simp only [hitR]; omega), if_neg (by simp only [hitR]; omega), if_pos (by simp only [hitR]; omega)]
    rfl
  rw [hm]
  have g97 : 97 ≤ u := by omega
  have g224 : 224 ≤ u := by omega
  have g248 : 248 ≤ u := by omega
  have g945 : 945 ≤ u := by omega
  have g963 : ¬ 963 ≤ u := by omega
  have g1072 : ¬ 1072 ≤ u := by omega
  have g257 : 257 ≤ u := by omega
  have g331 : 331 ≤ u := by omega
  have g1121 : ¬ 1121 ≤ u := by omega
  have g314 : 314 ≤ u := by omega
  have g1104 : ¬ 1104 ≤ u := by omega
  have l122 : ¬ u ≤ 122 := by omega
  have l246 : ¬ u ≤ 246 := by omega
  have l254 : ¬ u ≤ 254 := by omega
  have l961 : u ≤ 961 := by omega
  have l969 : u ≤ 969 := by omega
  have l1103 : u ≤ 1103 := by omega
  have l311 : ¬ u ≤ 311 := by omega
  have l375 : ¬ u ≤ 375 := by omega
  have l1153 : u ≤ 1153 := by omega
  have l328 : ¬ u ≤ 328 := by omega
  have l1119 : u ≤ 1119 := by omega
  have e255 : ¬ u = 255 := by omega
  have e962 : ¬ u = 962 := by omega
  obtain ⟨q, hq⟩ : ∃ q : Bool, decide (u % 2 = 1) = q := ⟨_, rfl⟩
  have hw : IntKind.u16.wrap (u - 32) = u - 32 := u16_in _ (by omega) (by omega)
  clear h0 h1 hm
  go_enter Tryd.func36, Tryd.ntmps36
  go_wp2
  all_goals (go_ret; exact ⟨rfl, rfl⟩)

theorem rup_18 (u : Int) (h0 : 962 ≤ u) (h1 : u ≤ 962) (w : World) : Calls Tryd.prog 36 #[.int .u16 u] w fun e w' => e = .returned (.int .u16 (upM u)) ∧ w' = w := by
  have hm : upM u = 931 := by
    unfold upM
    simp only [rowsL, upL]
    rw [if_neg (by simp only [hitR]; omega), if_neg (by simp only [hitR]; omega), if_neg (by simp only [hitR]; omega), if_neg (by simp only [hitR]; omega), if_neg (by simp only [hitR]; omega), if_neg (by simp only [hitR]; omega), if_neg (by simp only [hitR]; omega), if_neg (by simp only [hitR]; omega), if_pos (by simp only [hitR]; omega)]
    omega
  rw [hm]
  have g97 : 97 ≤ u := by omega
  have g224 : 224 ≤ u := by omega
  have g248 : 248 ≤ u := by omega
  have g945 : 945 ≤ u := by omega
  have g963 : ¬ 963 ≤ u := by omega
  have g1072 : ¬ 1072 ≤ u := by omega
  have g257 : 257 ≤ u := by omega
  have g331 : 331 ≤ u := by omega
  have g1121 : ¬ 1121 ≤ u := by omega
  have g314 : 314 ≤ u := by omega
  have g1104 : ¬ 1104 ≤ u := by omega
  have l122 : ¬ u ≤ 122 := by omega
  have l246 : ¬ u ≤ 246 := by omega
  have l254 : ¬ u ≤ 254 := by omega
  have l961 : ¬ u ≤ 961 := by omega
  have l969 : u ≤ 969 := by omega
  have l1103 : u ≤ 1103 := by omega
  have l311 : ¬ u ≤ 311 := by omega
  have l375 : ¬ u ≤ 375 := by omega
  have l1153 : u ≤ 1153 := by omega
  have l328 : ¬ u ≤ 328 := by omega
  have l1119 : u ≤ 1119 := by omega
  have e255 : ¬ u = 255 := by omega
  have e962 : u = 962 := by omega
  obtain ⟨q, hq⟩ : ∃ q : Bool, decide (u % 2 = 1) = q := ⟨_, rfl⟩
  clear h0 h1 hm
  go_enter Tryd.func36, Tryd.ntmps36
  go_wp2
  all_goals (go_ret; exact ⟨rfl, rfl⟩)

theorem rup_19 (u : Int) (h0 : 963 ≤ u) (h1 : u ≤ 969) (w : World) : Calls Tryd.prog 36 #[.int .u16 u] w fun e w' => e = .returned (.int .u16 (upM u)) ∧ w' = w := by
  have hm : upM u = u - 32 := by
    unfold upM
    simp only [rowsL, upL]
    rw [if_neg (by simp only [hitR]; omega), if_neg (by simp only [hitR]; omega), if_neg (by simp only [hitR]; omega), if_neg (by simp only [hitR]; omega), if_neg (by simp only [hitR]; omega), if_neg (by simp only [hitR]; omega), if_neg (by simp only [hitR]; omega), if_neg (by simp only [hitR]; omega), if_neg (by simp only [hitR]; omega), if_pos (by simp only [hitR]; omega)]
    rfl
  rw [hm]
  have g97 : 97 ≤ u := by omega
  have g224 : 224 ≤ u := by omega
  have g248 : 248 ≤ u := by omega
  have g945 : 945 ≤ u := by omega
  have g963 : 963 ≤ u := by omega
  have g1072 : ¬ 1072 ≤ u := by omega
  have g257 : 257 ≤ u := by omega
  have g331 : 331 ≤ u := by omega
  have g1121 : ¬ 1121 ≤ u := by omega
  have g314 : 314 ≤ u := by omega
  have g1104 : ¬ 1104 ≤ u := by omega
  have l122 : ¬ u ≤ 122 := by omega
  have l246 : ¬ u ≤ 246 := by omega
  have l254 : ¬ u ≤ 254 := by omega
  have l961 : ¬ u ≤ 961 := by omega
  have l969 : u ≤ 969 := by omega
  have l1103 : u ≤ 1103 := by omega
  have l311 : ¬ u ≤ 311 := by omega
  have l375 : ¬ u ≤ 375 := by omega
  have l1153 : u ≤ 1153 := by omega
  have l328 : ¬ u ≤ 328 := by omega
  have l1119 : u ≤ 1119 := by omega
  have e255 : ¬ u = 255 := by omega
  have e962 : ¬ u = 962 := by omega
  obtain ⟨q, hq⟩ : ∃ q : Bool, decide (u % 2 = 1) = q := ⟨_, rfl⟩
  have hw : IntKind.u16.wrap (u - 32) = u - 32 := u16_in _ (by omega) (by omega)
  clear h0 h1 hm
  go_enter Tryd.func36, Tryd.ntmps36
  go_wp2
  all_goals (go_ret; exact ⟨rfl, rfl⟩)

theorem rup_20 (u : Int) (h0 : 970 ≤ u) (h1 : u ≤ 1071) (w : World) : Calls Tryd.prog 36 #[.int .u16 u] w fun e w' => e = .returned (.int .u16 (upM u)) ∧ w' = w := by
  have hm : upM u = u := by
    unfold upM
    simp only [rowsL, upL]
    rw [if_neg (by simp only [hitR]; omega), if_neg (by simp only [hitR]; omega), if_neg (by simp only [hitR]; omega), if_neg (by simp only [hitR]; omega), if_neg (by simp only [hitR]; omega), if_neg (by simp only [hitR]; omega), if_neg (by simp only [hitR]; omega), if_neg (by simp only [hitR]; omega), if_neg (by simp only [hitR]; omega), if_neg (by simp only [hitR]; omega), if_neg (by simp only [hitR]; omega), if_neg (by simp only [hitR]; omega), if_neg (by simp only [hitR]; omega)]
  rw [hm]
  have g97 : 97 ≤ u := by omega
  have g224 : 224 ≤ u := by omega
  have g248 : 248 ≤ u := by omega
  have g945 : 945 ≤ u := by omega
  have g963 : 963 ≤ u := by omega
  have g1072 : ¬ 1072 ≤ u := by omega
  have g257 : 257 ≤ u := by omega
  have g331 : 331 ≤ u := by omega
  have g1121 : ¬ 1121 ≤ u := by omega
  have g314 : 314 ≤ u := by omega
  have g1104 : ¬ 1104 ≤ u := by omega
  have l122 : ¬ u ≤ 122 := by omega
  have l246 : ¬ u ≤ 246 := by omega
  have l254 : ¬ u ≤ 254 := by omega
  have l961 : ¬ u ≤ 961 := by omega
  have l969 : ¬ u ≤ 969 := by omega
  have l1103 : u ≤ 1103 := by omega
  have l311 : ¬ u ≤ 311 := by omega
  have l375 : ¬ u ≤ 375 := by omega
  have l1153 : u ≤ 1153 := by omega
  have l328 : ¬ u ≤ 328 := by omega
  have l1119 : u ≤ 1119 := by omega
  have e255 : ¬ u = 255 := by omega
  have e962 : ¬ u = 962 := by omega
  obtain ⟨q, hq⟩ : ∃ q : Bool, decide (u % 2 = 1) = q := ⟨_, rfl⟩
  clear h0 h1 hm
  go_enter Tryd.func36, Tryd.ntmps36
  go_wp2
  all_goals (go_ret; exact ⟨rfl, rfl⟩)

theorem rup_21 (u : Int) (h0 : 1072 ≤ u) (h1 : u ≤ 1103) (w : World) : Calls Tryd.prog 36 #[.int .u16 u] w fun e w' => e = .returned (.int .u16 (upM u)) ∧ w' = w := by
  have hm : upM u = u - 32 := by
    unfold upM
    simp only [rowsL, upL]
    rw [if_neg (by simp only [hitR]; omega), if_neg (by simp only [hitR]; omega), if_neg (by simp only [hitR]; omega), if_neg (by simp only [hitR]; omega), if_neg (by simp only [hitR]; omega), if_neg (by simp only [hitR]; omega), if_neg (by simp only [hitR]; omega), if_neg (by simp only [hitR]; omega), if_neg (by simp only [hitR]; omega), if_neg (by simp only [hitR]; omega), if_pos (by simp only [hitR]; omega)]
    rfl
  rw [hm]
  have g97 : 97 ≤ u := by omega
  have g224 : 224 ≤ u := by omega
  have g248 : 248 ≤ u := by omega
  have g945 : 945 ≤ u := by omega
  have g963 : 963 ≤ u := by omega
  have g1072 : 1072 ≤ u := by omega
  have g257 : 257 ≤ u := by omega
  have g331 : 331 ≤ u := by omega
  have g1121 : ¬ 1121 ≤ u := by omega
  have g314 : 314 ≤ u := by omega
  have g1104 : ¬ 1104 ≤ u := by omega
  have l122 : ¬ u ≤ 122 := by omega
  have l246 : ¬ u ≤ 246 := by omega
  have l254 : ¬ u ≤ 254 := by omega
  have l961 : ¬ u ≤ 961 := by omega
  have l969 : ¬ u ≤ 969 := by omega
  have l1103 : u ≤ 1103 := by omega
  have l311 : ¬ u ≤ 311 := by omega
  have l375 : ¬ u ≤ 375 := by omega
  have l1153 : u ≤ 1153 := by omega
  have l328 : ¬ u ≤ 328 := by omega
  have l1119 : u ≤ 1119 := by omega
  have e255 : ¬ u = 255 := by omega
  have e962 : ¬ u = 962 := by omega
  obtain ⟨q, hq⟩ : ∃ q : Bool, decide (u % 2 = 1) = q := ⟨_, rfl⟩
  have hw : IntKind.u16.wrap (u - 32) = u - 32 := u16_in _ (by omega) (by omega)
  clear h0 h1 hm
  go_enter Tryd.func36, Tryd.ntmps36
  go_wp2
  all_goals (go_ret; exact ⟨rfl, rfl⟩)

theorem rup_22 (u : Int) (h0 : 1104 ≤ u) (h1 : u ≤ 1119) (w : World) : Calls Tryd.prog 36 #[.int .u16 u] w fun e w' => e = .returned (.int .u16 (upM u)) ∧ w' = w := by
  have hm : upM u = u - 80 := by
    unfold upM
    simp only [rowsL, upL]
    rw [if_neg (by simp only [hitR]; omega), if_neg (by simp only [hitR]; omega), if_neg (by simp only [hitR]; omega), if_neg (by simp only [hitR]; omega), if_neg (by simp only [hitR]; omega), if_neg (by simp only [hitR]; omega), if_neg (by simp only [hitR]; omega), if_neg (by simp only [hitR]; omega), if_neg (by simp only [hitR]; omega), if_neg (by simp only [hitR]; omega), if_neg (by simp only [hitR]; omega), if_pos (by simp only [hitR]; omega)]
    rfl
  rw [hm]
  have g97 : 97 ≤ u := by omega
  have g224 : 224 ≤ u := by omega
  have g248 : 248 ≤ u := by omega
  have g945 : 945 ≤ u := by omega
  have g963 : 963 ≤ u := by omega
  have g1072 : 1072 ≤ u := by omega
  have g257 : 257 ≤ u := by omega
  have g331 : 331 ≤ u := by omega
  have g1121 : ¬ 1121 ≤ u := by omega
  have g314 : 314 ≤ u := by omega
  have g1104 : 1104 ≤ u := by omega
  have l122 : ¬ u ≤ 122 := by omega
  have l246 : ¬ u ≤ 246 := by omega
  have l254 : ¬ u ≤ 254 := by omega
  have l961 : ¬ u ≤ 961 := by omega
  have l969 : ¬ u ≤ 969 := by omega
  have l1103 : ¬ u ≤ 1103 := by omega
  have l311 : ¬ u ≤ 311 := by omega
  have l375 : ¬ u ≤ 375 := by omega
  have l1153 : u ≤ 1153 := by omega
  have l328 : ¬ u ≤ 328 := by omega
  have l1119 : u ≤ 1119 := by omega
  have e255 : ¬ u = 255 := by omega
  have e962 : ¬ u = 962 := by omega
  obtain ⟨q, hq⟩ : ∃ q : Bool, decide (u % 2 = 1) = q := ⟨_, rfl⟩
  have hw : IntKind.u16.wrap (u - 80) = u - 80 := u16_in _ (by omega) (by omega)
  clear h0 h1 hm
  go_enter Tryd.func36, Tryd.ntmps36
  go_wp2
  all_goals (go_ret; exact ⟨rfl, rfl⟩)

theorem rup_23 (u : Int) (h0 : 1120 ≤ u) (h1 : u ≤ 1120) (w : World) : Calls Tryd.prog 36 #[.int .u16 u] w fun e w' => e = .returned (.int .u16 (upM u)) ∧ w' = w := by
  have hm : upM u = u := by
    unfold upM
    simp only [rowsL, upL]
    rw [if_neg (by simp only [hitR]; omega), if_neg (by simp only [hitR]; omega), if_neg (by simp only [hitR]; omega), if_neg (by simp only [hitR]; omega), if_neg (by simp only [hitR]; omega), if_neg (by simp only [hitR]; omega), if_neg (by simp only [hitR]; omega), if_neg (by simp only [hitR]; omega), if_neg (by simp only [hitR]; omega), if_neg (by simp only [hitR]; omega), if_neg (by simp only [hitR]; omega), if_neg (by simp only [hitR]; omega), if_neg (by simp only [hitR]; omega)]
  rw [hm]
  have g97 : 97 ≤ u := by omega
  have g224 : 224 ≤ u := by omega
  have g248 : 248 ≤ u := by omega
  have g945 : 945 ≤ u := by omega
  have g963 : 963 ≤ u := by omega
  have g1072 : 1072 ≤ u := by omega
  have g257 : 257 ≤ u := by omega
  have g331 : 331 ≤ u := by omega
  have g1121 : ¬ 1121 ≤ u := by omega
  have g314 : 314 ≤ u := by omega
  have g1104 : 1104 ≤ u := by omega
  have l122 : ¬ u ≤ 122 := by omega
  have l246 : ¬ u ≤ 246 := by omega
  have l254 : ¬ u ≤ 254 := by omega
  have l961 : ¬ u ≤ 961 := by omega
  have l969 : ¬ u ≤ 969 := by omega
  have l1103 : ¬ u ≤ 1103 := by omega
  have l311 : ¬ u ≤ 311 := by omega
  have l375 : ¬ u ≤ 375 := by omega
  have l1153 : u ≤ 1153 := by omega
  have l328 : ¬ u ≤ 328 := by omega
  have l1119 : ¬ u ≤ 1119 := by omega
  have e255 : ¬ u = 255 := by omega
  have e962 : ¬ u = 962 := by omega
  obtain ⟨q, hq⟩ : ∃ q : Bool, decide (u % 2 = 1) = q := ⟨_, rfl⟩
  clear h0 h1 hm
  go_enter Tryd.func36, Tryd.ntmps36
  go_wp2
  all_goals (go_ret; exact ⟨rfl, rfl⟩)

theorem rup_24 (u : Int) (h0 : 1121 ≤ u) (h1 : u ≤ 1153) (hp : u % 2 = 1) (w : World) : Calls Tryd.prog 36 #[.int .u16 u] w fun e w' => e = .returned (.int .u16 (upM u)) ∧ w' = w := by
  have hm : upM u = u - 1 := by
    unfold upM
    simp only [rowsL, upL]
    rw [if_neg (by simp only [hitR]; omega), if_neg (by simp only [hitR]; omega), if_neg (by simp only [hitR]; omega), if_neg (by simp only [hitR]; omega), if_neg (by simp only [hitR]; omega), if_neg (by simp only [hitR]; omega), if_neg (by simp only [hitR]; omega), if_neg (by simp only [hitR]; omega), if_neg (by simp only [hitR]; omega), if_neg (by simp only [hitR]; omega), if_neg (by simp only [hitR]; omega), if_neg (by simp only [hitR]; omega), if_pos (by simp only [hitR]; omega)]
    rfl
  rw [hm]
  have g97 : 97 ≤ u := by omega
  have g224 : 224 ≤ u := by omega
  have g248 : 248 ≤ u := by omega
  have g945 : 945 ≤ u := by omega
  have g963 : 963 ≤ u := by omega
  have g1072 : 1072 ≤ u := by omega
  have g257 : 257 ≤ u := by omega
  have g331 : 331 ≤ u := by omega
  have g1121 : 1121 ≤ u := by omega
  have g314 : 314 ≤ u := by omega
  have g1104 : 1104 ≤ u := by omega
  have l122 : ¬ u ≤ 122 := by omega
  have l246 : ¬ u ≤ 246 := by omega
  have l254 : ¬ u ≤ 254 := by omega
  have l961 : ¬ u ≤ 961 := by omega
  have l969 : ¬ u ≤ 969 := by omega
  have l1103 : ¬ u ≤ 1103 := by omega
  have l311 : ¬ u ≤ 311 := by omega
  have l375 : ¬ u ≤ 375 := by omega
  have l1153 : u ≤ 1153 := by omega
  have l328 : ¬ u ≤ 328 := by omega
  have l1119 : ¬ u ≤ 1119 := by omega
  have e255 : ¬ u = 255 := by omega
  have e962 : ¬ u = 962 := by omega
  have hpar : u % 2 = 1 := by omega
  have hw : IntKind.u16.wrap (u - 1) = u - 1 := u16_in _ (by omega) (by omega)
  clear h0 h1 hm
  go_enter Tryd.func36, Tryd.ntmps36
  go_wp2
  all_goals (go_ret; exact ⟨rfl, rfl⟩)

theorem rup_25 (u : Int) (h0 : 1121 ≤ u) (h1 : u ≤ 1153) (hp : u % 2 = 0) (w : World) : Calls Tryd.prog 36 #[.int .u16 u] w fun e w' => e = .returned (.int .u16 (upM u)) ∧ w' = w := by
  have hm : upM u = u := by
    unfold upM
    simp only [rowsL, upL]
    rw [if_neg (by simp only [hitR]; omega), if_neg (by simp only [hitR]; omega), if_neg (by simp only [hitR]; omega), if_neg (by simp only [hitR]; omega), if_neg (by simp only [hitR]; omega), if_neg (by simp only [hitR]; omega), if_neg (by simp only [hitR]; omega), if_neg (by simp only [hitR]; omega), if_neg (by simp only [hitR]; omega), if_neg (by simp only [hitR]; omega), if_neg (by simp only [hitR]; omega), if_neg (by simp only [hitR]; omega), if_neg (by simp only [hitR]; omega)]
  rw [hm]
  have g97 : 97 ≤ u := by omega
  have g224 : 224 ≤ u := by omega
  have g248 : 248 ≤ u := by omega
  have g945 : 945 ≤ u := by omega
  have g963 : 963 ≤ u := by omega
  have g1072 : 1072 ≤ u := by omega
  have g257 : 257 ≤ u := by omega
  have g331 : 331 ≤ u := by omega
  have g1121 : 1121 ≤ u := by omega
  have g314 : 314 ≤ u := by omega
  have g1104 : 1104 ≤ u := by omega
  have l122 : ¬ u ≤ 122 := by omega
  have l246 : ¬ u ≤ 246 := by omega
  have l254 : ¬ u ≤ 254 := by omega
  have l961 : ¬ u ≤ 961 := by omega
  have l969 : ¬ u ≤ 969 := by omega
  have l1103 : ¬ u ≤ 1103 := by omega
  have l311 : ¬ u ≤ 311 := by omega
  have l375 : ¬ u ≤ 375 := by omega
  have l1153 : u ≤ 1153 := by omega
  have l328 : ¬ u ≤ 328 := by omega
  have l1119 : ¬ u ≤ 1119 := by omega
  have e255 : ¬ u = 255 := by omega
  have e962 : ¬ u = 962 := by omega
  have hpar : ¬ u % 2 = 1 := by omega
  clear h0 h1 hm
  go_enter Tryd.func36, Tryd.ntmps36
  go_wp2
  all_goals (go_ret; exact ⟨rfl, rfl⟩)

theorem rup_26 (u : Int) (h0 : 1154 ≤ u) (h1 : u ≤ 65535) (w : World) : Calls Tryd.prog 36 #[.int .u16 u] w fun e w' => e = .returned (.int .u16 (upM u)) ∧ w' = w := by
  have hm : upM u = u := by
    unfold upM
    simp only [rowsL, upL]
    rw [if_neg (by simp only [hitR]; omega), if_neg (by simp only [hitR]; omega), if_neg (by simp only [hitR]; omega), if_neg (by simp only [hitR]; omega), if_neg (by simp only [hitR]; omega), if_neg (by simp only [hitR]; omega), if_neg (by simp only [hitR]; omega), if_neg (by simp only [hitR]; omega), if_neg (by simp only [hitR]; omega), if_neg (by simp only [hitR]; omega), if_neg (by simp only [hitR]; omega), if_neg (by simp only [hitR]; omega), if_neg (by simp only [hitR]; omega)]
  rw [hm]
  have g97 : 97 ≤ u := by omega
  have g224 : 224 ≤ u := by omega
  have g248 : 248 ≤ u := by omega
  have g945 : 945 ≤ u := by omega
  have g963 : 963 ≤ u := by omega
  have g1072 : 1072 ≤ u := by omega
  have g257 : 257 ≤ u := by omega
  have g331 : 331 ≤ u := by omega
  have g1121 : 1121 ≤ u := by omega
  have g314 : 314 ≤ u := by omega
  have g1104 : 1104 ≤ u := by omega
  have l122 : ¬ u ≤ 122 := by omega
  have l246 : ¬ u ≤ 246 := by omega
  have l254 : ¬ u ≤ 254 := by omega
  have l961 : ¬ u ≤ 961 := by omega
  have l969 : ¬ u ≤ 969 := by omega
  have l1103 : ¬ u ≤ 1103 := by omega
  have l311 : ¬ u ≤ 311 := by omega
  have l375 : ¬ u ≤ 375 := by omega
  have l1153 : ¬ u ≤ 1153 := by omega
  have l328 : ¬ u ≤ 328 := by omega
  have l1119 : ¬ u ≤ 1119 := by omega
  have e255 : ¬ u = 255 := by omega
  have e962 : ¬ u = 962 := by omega
  obtain ⟨q, hq⟩ : ∃ q : Bool, decide (u % 2 = 1) = q := ⟨_, rfl⟩
  clear h0 h1 hm
  go_enter Tryd.func36, Tryd.ntmps36
  go_wp2
  all_goals (go_ret; exact ⟨rfl, rfl⟩)

theorem rup_any (u : Int) (h0 : 0 ≤ u) (h1 : u ≤ 65535) (w : World) : Calls Tryd.prog 36 #[.int .u16 u] w fun e w' => e = .returned (.int .u16 (upM u)) ∧ w' = w := by
  by_cases b0 : u ≤ 96
  · exact rup_0 u (by omega) b0 w
  by_cases b1 : u ≤ 122
  · exact rup_1 u (by omega) b1 w
  by_cases b2 : u ≤ 223
  · exact rup_2 u (by omega) b2 w
  by_cases b3 : u ≤ 246
  · exact rup_3 u (by omega) b3 w
  by_cases b4 : u ≤ 247
  · exact rup_4 u (by omega) b4 w
  by_cases b5 : u ≤ 254
  · exact rup_5 u (by omega) b5 w
  by_cases b6 : u ≤ 255
  · exact rup_6 u (by omega) b6 w
  by_cases b7 : u ≤ 256
  · exact rup_7 u (by omega) b7 w
  by_cases b8 : u ≤ 311
  · by_cases hp : u % 2 = 1
    · exact rup_8 u (by omega) b8 hp w
    · exact rup_9 u (by omega) b8 (by omega) w
  by_cases b10 : u ≤ 313
  · exact rup_10 u (by omega) b10 w
  by_cases b11 : u ≤ 328
  · by_cases hp : u % 2 = 1
    · exact rup_11 u (by omega) b11 hp w
    · exact rup_12 u (by omega) b11 (by omega) w
  by_cases b13 : u ≤ 330
  · exact rup_13 u (by omega) b13 w
  by_cases b14 : u ≤ 375
  · by_cases hp : u % 2 = 1
    · exact rup_14 u (by omega) b14 hp w
    · exact rup_15 u (by omega) b14 (by omega) w
  by_cases b16 : u ≤ 944
  · exact rup_16 u (by omega) b16 w
  by_cases b17 : u ≤ 961
  · exact rup_17 u (by omega) b17 w
  by_cases b18 : u ≤ 962
  · exact rup_18 u (by omega) b18 w
  by_cases b19 : u ≤ 969
  · exact rup_19 u (by omega) b19 w
  by_cases b20 : u ≤ 1071
  · exact rup_20 u (by omega) b20 w
  by_cases b21 : u ≤ 1103
  · exact rup_21 u (by omega) b21 w
  by_cases b22 : u ≤ 1119
  · exact rup_22 u (by omega) b22 w
  by_cases b23 : u ≤ 1120
  · exact rup_23 u (by omega) b23 w
  by_cases b24 : u ≤ 1153
  · by_cases hp : u % 2 = 1
    · exact rup_24 u (by omega) b24 hp w
    · exact rup_25 u (by omega) b24 (by omega) w
  exact rup_26 u (by omega) (by omega) w
end Go.Proofs.YtmbdiimenmnfjaaDoor
/- Walks: the document's order, Raised, Compare, Same. -/
namespace Go.Proofs.YtmbdiimenmnfjaaDoor
open Go.RowKit Go.Deep
open Go.Proofs.YtmbdiimenmnfjaaDoor.PNamesNames
open Go.Proofs.YtmbdiimenmnfjaaDoorW.PrintWords (rd bt Drawn0 Kd)
set_option linter.unusedVariables false
set_option linter.unusedSimpArgs false

theorem order_l (x y : List Int) (hx : x.length ≤ 1000000) : ∀ (k i : Nat), i ≤ x.length → i ≤ y.length → 2 * x.length + 2 < 2 * i + k → archivoltref05_order.l0 k x y (i : Int) = some (cmpU (x.drop i) (y.drop i))
  | 0, i, h1, h2, h3 => by omega
  | 1, i, h1, h2, h3 => by omega
  | k + 2, i, h1, h2, h3 => by
    rw [archivoltref05_order.l0]
    by_cases hi : i < x.length
    · rw [if_pos (by omega)]
      by_cases hj : i < y.length
      · have e1 : decide ((i : Int) < (y.length : Int)) = true := by rw [decide_eq_true_eq]; omega
        have ex : rd x (i : Int) = x.getD i 0 := rfl
        have ey : rd y (i : Int) = y.getD i 0 := rfl
        rw [e1, archivoltref05_order.j1, if_pos rfl, if_pos (by omega), if_pos (by omega), if_pos (by omega), ex, ey, drop_cons hi, drop_cons hj]
        simp only [cmpU]
        by_cases q1 : x.getD i 0 < y.getD i 0
        · rw [if_pos q1, if_pos q1]
        · rw [if_neg q1, if_neg q1]
          by_cases q2 : x.getD i 0 > y.getD i 0
          · rw [if_pos q2, if_pos q2]
          · have ew : wrap64 ((i : Int) + 1) = ((i + 1 : Nat) : Int) := by rw [w64 _ (by omega) (by omega)]; rfl
            rw [if_neg q2, if_neg q2, ew]
            exact order_l x y hx k (i + 1) (by omega) (by omega) (by omega)
      · have e1 : decide ((i : Int) < (y.length : Int)) = false := by rw [decide_eq_false_iff_not]; omega
        rw [e1, archivoltref05_order.j1, if_neg (by decide), drop_cons hi, List.drop_eq_nil_of_le (by omega : y.length ≤ i), if_neg (by omega), if_pos (by omega)]
        rfl
    · rw [if_neg (by omega), archivoltref05_order.j1, if_neg (by decide), List.drop_eq_nil_of_le (by omega : x.length ≤ i)]
      by_cases hj : i < y.length
      · rw [if_pos (by omega), drop_cons hj]; rfl
      · rw [if_neg (by omega), if_neg (by omega), List.drop_eq_nil_of_le (by omega : y.length ≤ i)]; rfl
theorem rorder_any (A0 A1 : Option Addr) (c0 c1 : Nat) (x y : List Int) (w : World) (h0 : Rd w .u16 A0 x.length x) (h1 : Rd w .u16 A1 y.length y) (k0 : x.length ≤ c0) (k1 : y.length ≤ c1) (hl : x.length ≤ 1000000) :
    Calls Tryd.prog 53 #[.slice A0 x.length c0, .slice A1 y.length c1] w fun e w' => e = .returned (.int .i64 (cmpU x y)) ∧ Drawn w w' :=
  (archivoltref05_order.calls (2 * x.length + 3) A0 c0 x A1 c1 y (cmpU x y) w (rdC h0) k0 (rdC h1) k1 (by
    unfold archivoltref05_order.f
    exact order_l x y hl (2 * x.length + 3) 0 (by omega) (by omega) (by omega))).mono fun e w' h => ⟨h.1, drawn0 h.2⟩
theorem rorder_up (A0 A1 : Option Addr) (c0 c1 : Nat) (x y : List Int) (w : World) (h0 : Rd w .u16 A0 x.length (x.map upM)) (h1 : Rd w .u16 A1 y.length (y.map upM)) (k0 : x.length ≤ c0) (k1 : y.length ≤ c1) (hl : x.length ≤ 1000000) :
    Calls Tryd.prog 53 #[.slice A0 x.length c0, .slice A1 y.length c1] w fun e w' => e = .returned (.int .i64 (cmpU (x.map upM) (y.map upM))) ∧ Drawn w w' := by
  have := rorder_any A0 A1 c0 c1 (x.map upM) (y.map upM) w (by rw [map_len]; exact h0) (by rw [map_len]; exact h1) (by rw [map_len]; exact k0) (by rw [map_len]; exact k1) (by rw [map_len]; exact hl)
  rwa [map_len, map_len] at this
theorem runits_ok (s : ByteArray) (hs : s.size ≤ 100000) (x : List Int) (hg : getU s = some x) (w : World) :
    Calls Tryd.prog 34 #[.string s] w fun e w' => (∃ A c, e = .returned (.agg #[.slice A x.length c, .int .i64 0]) ∧ x.length ≤ c ∧ Rd w' .u16 A x.length x) ∧ Below w.heap.size w w' := by
  have h := runits_any s hs w
  have e : refU s = (x, 0) := by unfold refU; rw [hg]
  rw [e] at h
  exact h
theorem runits_no (s : ByteArray) (hs : s.size ≤ 100000) (hg : getU s = none) (w : World) :
    Calls Tryd.prog 34 #[.string s] w fun e w' => (∃ A c, e = .returned (.agg #[.slice A 0 c, .int .i64 4])) ∧ Below w.heap.size w w' := by
  have h := runits_any s hs w
  have e : refU s = ([], 4) := by unfold refU; rw [hg]
  rw [e] at h
  exact h.mono fun e w' ⟨⟨A, c, he, _⟩, hB⟩ => ⟨⟨_, _, he⟩, hB⟩

set_option maxRecDepth 100000 in
set_option maxHeartbeats 4000000 in
theorem rraised_any (A : Option Addr) (c : Nat) (xs : List Int) (hn : xs.length ≤ 40000) (hx : U16 xs) (w : World) (hR : Rd w .u16 A xs.length xs) :
    Calls Tryd.prog 39 #[.slice A xs.length c] w fun e w' => (∃ A' c', e = .returned (.slice A' xs.length c') ∧ xs.length ≤ c' ∧ Rd w' .u16 A' xs.length (xs.map upM)) ∧ Below w.heap.size w w' := by
  obtain ⟨i0, hi, hz0, hz1, hz2⟩ := info_parts info46
  have HR := Lib.hid hR
  have HX := Lib.hid hx
  clear hR hx
  go_enter Tryd.func39, Tryd.ntmps39
  go_wp2
  go_loopw [3, 4] (fun v i W => ∃ j : Nat, j ≤ xs.length ∧ i = .int .i64 j ∧ Hid (W.ownsRow w.heap.size 46 1 v j (numK .u16 ((xs.take j).map upM))) ∧ Hid (Below w.heap.size w W)) (fun _ i _ => xs.length - (intOf i).toNat)
  case atStart => exact ⟨0, by omega, rfl, Lib.hid (World.ownsRow_nil _ _ _ _), Lib.hid (Below.refl _ _)⟩
  case round =>
    obtain ⟨j, hj, rfl, HO, HB⟩ := hrel
    obtain ⟨Aq, cq, rfl, hcq⟩ := own_is_slice HO.out
    by_cases hlt : j < xs.length
    · have hlti : (j : Int) < xs.length := by omega
      obtain ⟨ad, hA, hcl⟩ := (HR.out.below HB.out).at_ j hlt
      subst hA
      obtain ⟨x, hx⟩ : ∃ x, xs.getD j 0 = x := ⟨_, rfl⟩
      have hxb := HX.out.get j
      rw [hx] at hcl hxb
      have htk : (xs.take (j + 1)).map upM = (xs.take j).map upM ++ [upM x] := by rw [List.take_add_one, ← hx, List.getD_eq_getElem?_getD, List.getElem?_eq_getElem hlt, List.map_append]; rfl
      obtain ⟨U, hU⟩ : ∃ U, upM x = U := ⟨_, rfl⟩
      rw [hU] at htk
      have HTK := Lib.hid htk
      have HU := Lib.hid hU
      have hbs := HB.out.size
      clear hx htk hU
      go_wp2_with (first
        | (go_at_call 36; refine (rup_any x (by omega) (by omega) _).mono ?_; rintro e w2 ⟨rfl, rfl⟩; rw [HU.out])
        | (at_builtin; refine wpList_append_own _ rfl _ _ 49 rfl w.heap.size 46 i0 (.int .u16 0) 1 2 Tryd.underlying49 hi hz0 hz1 hz2 rfl (by decide) _ j (numK .u16 ((xs.take j).map upM)) rfl (World.ownsRow.alloc HO.out _) ⟨_, 0, none⟩ 1 1 [.int .u16 U] rfl rfl (cell_new1 _ _ rfl _ _) (by simp [Value.oneCell']) (by simp only [maxLen]; omega) (by omega) (by simp; omega) ?_; intro v' w6 hown6 hgrow6 _; (have HQ6 := Lib.hid hown6); (have HB6 := Lib.hid ((below_al HB.out _).grown hgrow6 (by simp; omega) (fun kk hk => (HO.out.lt kk hk).1))); clear hown6 hgrow6))
      refine ⟨⟨j + 1, by omega, by simp, Lib.hid ?_, HB6⟩, by simp only [intOf]; omega⟩
      rw [HTK.out, numK_append]
      exact HQ6.out
    · have hie : j = xs.length := by omega
      subst hie
      have hlti : ¬ ((xs.length : Int) < xs.length) := by omega
      go_wp2
      go_ret
      have hO := HO.out
      rw [List.take_of_length_le (Nat.le_refl _)] at hO
      obtain ⟨A', c', e, hc', hRd, -⟩ := own_nums hO (by omega)
      cases e
      exact ⟨⟨_, _, rfl, hc', hRd⟩, HB.out⟩

theorem Rd.drew1 {w : World} {k : IntKind} {A : Option Addr} {n : Nat} {xs : List Int} (h : Rd w k A n xs) : Rd w.drew k A n xs := ⟨h.len, h.max, fun j hj => let ⟨ad, e, hc⟩ := h.at_ j hj; ⟨ad, e, hc⟩⟩
theorem two_at {W : World} {b : Nat} {u v : Value} {t : TypeId} (h : W.heap[b]? = some (.cells #[u, v] t (0, 0))) : W.cell? ⟨b, 0, none⟩ = some u ∧ W.cell? ⟨b, 1, none⟩ = some v ∧ W.frozen? ⟨b, 0, none⟩ = false ∧ b < W.heap.size :=
  ⟨by rw [cell_of_row _ _ _ _ _ _ h]; rfl, by rw [cell_of_row _ _ _ _ _ _ h]; rfl, by simp [World.frozen?, h], (Array.getElem?_eq_some_iff.1 h).1⟩

end Go.Proofs.YtmbdiimenmnfjaaDoor
/- Walk: the document's Compare. -/
namespace Go.Proofs.YtmbdiimenmnfjaaDoor
open Go.RowKit Go.Deep
set_option linter.unusedVariables false
set_option linter.unusedSimpArgs false

set_option maxRecDepth 100000 in
set_option maxHeartbeats 8000000 in
theorem rcompare_any (a b : ByteArray) (ha : a.size ≤ 40000) (hb : b.size ≤ 40000) (w : World) : Calls Tryd.prog 22 #[.string a, .string b] w fun e w' => e = .returned (.int .i64 (compareM a b)) ∧ Below w.heap.size w w' := by
  cases hga : getU a with
  | none =>
    cases hgb : getU b with
    | none =>
      have hC : compareM a b = cmpS a b := by unfold compareM; rw [hga, hgb]
      rw [hC]
      unfold cmpS
      obtain ⟨q1, hq1⟩ : ∃ q, Op.bytesLess a.toList b.toList = q := ⟨_, rfl⟩
      obtain ⟨q2, hq2⟩ : ∃ q, (a.toList == b.toList) = q := ⟨_, rfl⟩
      rw [hq1, hq2]
      have HGA := Lib.hid hga
      have HGB := Lib.hid hgb
      clear hga hgb hC
      go_enter Tryd.func22, Tryd.ntmps22
      go_upto_region 3 with (first
        | ((have hgd := HB1); clear hgd; go_at_call 34; refine (runits_no b (by omega) HGB.out _).mono ?_; rintro e w2 ⟨⟨A2, c2, rfl⟩, hB⟩; (have HX1 := Lib.hid (below_heap HX1.out hB)); (have HB3 := Lib.hid (below_then (below_al HB1.out _) (below_al HB1.out _).size hB)); clear hB)
        | (go_at_call 34; refine (runits_no a (by omega) HGA.out _).mono ?_; rintro e w1 ⟨⟨A1, c1, rfl⟩, hB⟩; (have HX1 := Lib.hid (heap_alloc_new w1 (.cells #[.slice A1 0 c1, .int .i64 4] 55))); (have HB1 := Lib.hid hB); clear hB))
      obtain ⟨B1, hB1⟩ : ∃ B1, w1.heap.size = B1 := ⟨_, rfl⟩
      obtain ⟨B2, hB2⟩ : ∃ B2, w2.heap.size = B2 := ⟨_, rfl⟩
      obtain ⟨W5, hW5⟩ : ∃ W5, w2.alloc (.cells #[.slice A2 0 c2, .int .i64 4] 55) = W5 := ⟨_, rfl⟩
      have HX1' : Hid (W5.heap[B1]? = some (.cells #[.slice A1 0 c1, .int .i64 4] 55 (0, 0))) := Lib.hid (by rw [← hW5, ← hB1]; exact heap_al HX1.out)
      have HX2 : Hid (W5.heap[B2]? = some (.cells #[.slice A2 0 c2, .int .i64 4] 55 (0, 0))) := Lib.hid (by rw [← hW5, ← hB2]; exact heap_alloc_new _ _)
      have HB5 : Hid (Below w.heap.size w W5) := Lib.hid (by rw [← hW5]; exact below_al HB3.out _)
      rw [hB1, hB2, hW5]
      obtain ⟨a0, a1, -, a3⟩ := two_at HX1'.out
      obtain ⟨b0, b1, -, b3⟩ := two_at HX2.out
      clear hB1 hB2 hW5 HX1
      cases q1 with
      | true =>
        go_wp2
        go_ret
        exact ⟨rfl, HB5.out⟩
      | false =>
        cases q2 with
        | true =>
          go_wp2
          go_ret
          exact ⟨rfl, HB5.out⟩
        | false =>
          go_wp2
          go_ret
          exact ⟨rfl, HB5.out⟩
    | some y =>
      have hC : compareM a b = 1 := by unfold compareM; rw [hga, hgb]
      rw [hC]
      have HGA := Lib.hid hga
      have HGB := Lib.hid hgb
      clear hga hgb hC
      go_enter Tryd.func22, Tryd.ntmps22
      go_upto_region 3 with (first
        | ((have hgd := HB1); clear hgd; go_at_call 34; refine (runits_ok b (by omega) y HGB.out _).mono ?_; rintro e w2 ⟨⟨A2, c2, rfl, hc2, hR⟩, hB⟩; (have HX1 := Lib.hid (below_heap HX1.out hB)); (have HR2 := Lib.hid hR); (have HB3 := Lib.hid (below_then (below_al HB1.out _) (below_al HB1.out _).size hB)); clear hB hR)
        | (go_at_call 34; refine (runits_no a (by omega) HGA.out _).mono ?_; rintro e w1 ⟨⟨A1, c1, rfl⟩, hB⟩; (have HX1 := Lib.hid (heap_alloc_new w1 (.cells #[.slice A1 0 c1, .int .i64 4] 55))); (have HB1 := Lib.hid hB); clear hB))
      obtain ⟨B1, hB1⟩ : ∃ B1, w1.heap.size = B1 := ⟨_, rfl⟩
      obtain ⟨B2, hB2⟩ : ∃ B2, w2.heap.size = B2 := ⟨_, rfl⟩
      obtain ⟨W5, hW5⟩ : ∃ W5, w2.alloc (.cells #[.slice A2 y.length c2, .int .i64 0] 55) = W5 := ⟨_, rfl⟩
      have HX1' : Hid (W5.heap[B1]? = some (.cells #[.slice A1 0 c1, .int .i64 4] 55 (0, 0))) := Lib.hid (by rw [← hW5, ← hB1]; exact heap_al HX1.out)
      have HX2 : Hid (W5.heap[B2]? = some (.cells #[.slice A2 y.length c2, .int .i64 0] 55 (0, 0))) := Lib.hid (by rw [← hW5, ← hB2]; exact heap_alloc_new _ _)
      have HB5 : Hid (Below w.heap.size w W5) := Lib.hid (by rw [← hW5]; exact below_al HB3.out _)
      rw [hB1, hB2, hW5]
      obtain ⟨a0, a1, -, a3⟩ := two_at HX1'.out
      obtain ⟨b0, b1, -, b3⟩ := two_at HX2.out
      clear hB1 hB2 hW5 HX1
      go_wp2
      go_ret
      exact ⟨rfl, HB5.out⟩
  | some x =>
    cases hgb : getU b with
    | none =>
      have hC : compareM a b = -1 := by unfold compareM; rw [hga, hgb]
      rw [hC]
      have HGA := Lib.hid hga
      have HGB := Lib.hid hgb
      clear hga hgb hC
      go_enter Tryd.func22, Tryd.ntmps22
      go_upto_region 3 with (first
        | ((have hgd := HB1); clear hgd; go_at_call 34; refine (runits_no b (by omega) HGB.out _).mono ?_; rintro e w2 ⟨⟨A2, c2, rfl⟩, hB⟩; (have HX1 := Lib.hid (below_heap HX1.out hB)); (have HB3 := Lib.hid (below_then (below_al HB1.out _) (below_al HB1.out _).size hB)); clear hB)
        | (go_at_call 34; refine (runits_ok a (by omega) x HGA.out _).mono ?_; rintro e w1 ⟨⟨A1, c1, rfl, hc1, hR⟩, hB⟩; (have HX1 := Lib.hid (heap_alloc_new w1 (.cells #[.slice A1 x.length c1, .int .i64 0] 55))); (have HR1 := Lib.hid hR); (have HB1 := Lib.hid hB); clear hB hR))
      obtain ⟨B1, hB1⟩ : ∃ B1, w1.heap.size = B1 := ⟨_, rfl⟩
      obtain ⟨B2, hB2⟩ : ∃ B2, w2.heap.size = B2 := ⟨_, rfl⟩
      obtain ⟨W5, hW5⟩ : ∃ W5, w2.alloc (.cells #[.slice A2 0 c2, .int .i64 4] 55) = W5 := ⟨_, rfl⟩
      have HX1' : Hid (W5.heap[B1]? = some (.cells #[.slice A1 x.length c1, .int .i64 0] 55 (0, 0))) := Lib.hid (by rw [← hW5, ← hB1]; exact heap_al HX1.out)
      have HX2 : Hid (W5.heap[B2]? = some (.cells #[.slice A2 0 c2, .int .i64 4] 55 (0, 0))) := Lib.hid (by rw [← hW5, ← hB2]; exact heap_alloc_new _ _)
      have HB5 : Hid (Below w.heap.size w W5) := Lib.hid (by rw [← hW5]; exact below_al HB3.out _)
      rw [hB1, hB2, hW5]
      obtain ⟨a0, a1, -, a3⟩ := two_at HX1'.out
      obtain ⟨b0, b1, -, b3⟩ := two_at HX2.out
      clear hB1 hB2 hW5 HX1
      go_wp2
      go_ret
      exact ⟨rfl, HB5.out⟩
    | some y =>
      obtain ⟨r, hr⟩ : ∃ r, cmpU (x.map upM) (y.map upM) = r := ⟨_, rfl⟩
      obtain ⟨r2, hr2⟩ : ∃ r2, cmpU x y = r2 := ⟨_, rfl⟩
      have hC : compareM a b = if r = 0 then r2 else r := by unfold compareM; rw [hga, hgb]; simp only [hr, hr2]
      rw [hC]
      obtain ⟨C, hCC⟩ : ∃ C, (if r = 0 then r2 else r) = C := ⟨_, rfl⟩
      rw [hCC]
      have HC0 : Hid (r = 0 → r2 = C) := Lib.hid (fun h => by rw [← hCC, if_pos h])
      have HC1 : Hid (¬ r = 0 → r = C) := Lib.hid (fun h => by rw [← hCC, if_neg h])
      have hpx := getU_props hga
      have hpy := getU_props hgb
      have HR := Lib.hid hr
      have HR2' := Lib.hid hr2
      have HXU := Lib.hid hpx.1
      have HYU := Lib.hid hpy.1
      have hlx : x.length ≤ 4096 := hpx.2.2
      have hly : y.length ≤ 4096 := hpy.2.2
      have HGA := Lib.hid hga
      have HGB := Lib.hid hgb
      clear hga hgb hpx hpy hr hr2 hC hCC
      go_enter Tryd.func22, Tryd.ntmps22
      go_upto_region 3 with (first
        | ((have hgd := HB1); clear hgd; go_at_call 34; refine (runits_ok b (by omega) y HGB.out _).mono ?_; rintro e w2 ⟨⟨A2, c2, rfl, hc2, hR⟩, hB⟩; (have HX1 := Lib.hid (below_heap HX1.out hB)); (have HR1 := Lib.hid ((HR1.out.below (one_alloc _ _)).below hB)); (have HR2 := Lib.hid hR); (have HB3 := Lib.hid (below_then (below_al HB1.out _) (below_al HB1.out _).size hB)); clear hB hR)
        | (go_at_call 34; refine (runits_ok a (by omega) x HGA.out _).mono ?_; rintro e w1 ⟨⟨A1, c1, rfl, hc1, hR⟩, hB⟩; (have HX1 := Lib.hid (heap_alloc_new w1 (.cells #[.slice A1 x.length c1, .int .i64 0] 55))); (have HR1 := Lib.hid hR); (have HB1 := Lib.hid hB); clear hB hR))
      obtain ⟨B1, hB1⟩ : ∃ B1, w1.heap.size = B1 := ⟨_, rfl⟩
      obtain ⟨B2, hB2⟩ : ∃ B2, w2.heap.size = B2 := ⟨_, rfl⟩
      obtain ⟨W5, hW5⟩ : ∃ W5, w2.alloc (.cells #[.slice A2 y.length c2, .int .i64 0] 55) = W5 := ⟨_, rfl⟩
      have HX1' : Hid (W5.heap[B1]? = some (.cells #[.slice A1 x.length c1, .int .i64 0] 55 (0, 0))) := Lib.hid (by rw [← hW5, ← hB1]; exact heap_al HX1.out)
      have HX2 : Hid (W5.heap[B2]? = some (.cells #[.slice A2 y.length c2, .int .i64 0] 55 (0, 0))) := Lib.hid (by rw [← hW5, ← hB2]; exact heap_alloc_new _ _)
      have HB5 : Hid (Below w.heap.size w W5) := Lib.hid (by rw [← hW5]; exact below_al HB3.out _)
      have HRx : Hid (Rd W5 .u16 A1 x.length x) := Lib.hid (by rw [← hW5]; exact HR1.out.below (one_alloc _ _))
      have HRy : Hid (Rd W5 .u16 A2 y.length y) := Lib.hid (by rw [← hW5]; exact HR2.out.below (one_alloc _ _))
      rw [hB1, hB2, hW5]
      obtain ⟨a0, a1, -, a3⟩ := two_at HX1'.out
      obtain ⟨b0, b1, -, b3⟩ := two_at HX2.out
      clear hB1 hB2 hW5 HX1
      clear HR1 HR2
      go_upto_region 4 with (fail)
      go_region_with (first
        | (go_at_call 53; refine (rorder_up A3 A4 c3 c4 x y _ HS1.out HS2.out hc3 hc4 (by omega)).mono ?_; rintro e w8 ⟨rfl, hD⟩; rw [HR.out]; obtain ⟨a80, a81, -, a83⟩ := two_at (below_heap HX1'.out (drawn_below hD)); obtain ⟨b80, b81, -, b83⟩ := two_at (below_heap HX2.out (drawn_below hD)); (have HRx8 := Lib.hid (HRx.out.drawn hD)); (have HRy8 := Lib.hid (HRy.out.drawn hD)); (have HB8 := Lib.hid (below_drawn HB7.out hD)); clear hD)
        | ((have hgd := HS1); clear hgd; go_at_call 39; refine (rraised_any A2 c2 y (by omega) HYU.out _ HRy.out).mono ?_; rintro e w7 ⟨⟨A4, c4, rfl, hc4, hR⟩, hB⟩; (have HS2 := Lib.hid hR); (have HS1 := Lib.hid (HS1.out.below hB)); (have HRx := Lib.hid (HRx.out.below hB)); (have HRy := Lib.hid (HRy.out.below hB)); (have HX1' := Lib.hid (below_heap HX1'.out hB)); (have HX2 := Lib.hid (below_heap HX2.out hB)); (have HB7 := Lib.hid (below_then HB6.out HB6.out.size hB)); clear hB hR)
        | (go_at_call 39; refine (rraised_any A1 c1 x (by omega) HXU.out _ HRx.out.drew1).mono ?_; rintro e w6 ⟨⟨A3, c3, rfl, hc3, hR⟩, hB⟩; (have HS1 := Lib.hid hR); (have HRx := Lib.hid (HRx.out.drew1.below hB)); (have HRy := Lib.hid (HRy.out.drew1.below hB)); (have HX1' := Lib.hid (below_heap (w := W5.drew) HX1'.out hB)); (have HX2 := Lib.hid (below_heap (w := W5.drew) HX2.out hB)); obtain ⟨a60, a61, -, a63⟩ := two_at HX1'.out; obtain ⟨b60, b61, -, b63⟩ := two_at HX2.out; (have HB6 := Lib.hid (below_then (below_drew1 HB5.out) (below_drew1 HB5.out).size hB)); clear hB hR))
      all_goals
        by_cases hz : r = 0
        · go_wp2_with (go_at_call 53; refine (rorder_any A1 A2 c1 c2 x y _ HRx8.out HRy8.out hc1 hc2 (by omega)).mono ?_; rintro e w9 ⟨rfl, hD⟩; rw [HR2'.out]; (have HB9 := Lib.hid (below_drawn HB8.out hD)); clear hD)
          go_ret
          refine ⟨?_, HB9.out⟩
          rw [← HC0.out hz]
          rfl
        · go_wp2
          go_ret
          refine ⟨?_, HB8.out⟩
          rw [← HC1.out hz]
          rfl
end Go.Proofs.YtmbdiimenmnfjaaDoor
/- The rows' words: what the condition on the listed variables gives; a world that meets it; an argument that is a slice of strings. -/
namespace Go.Proofs.YtmbdiimenmnfjaaDoor
open Go.Shelf Go.ChangeShapes Go.WideShapes Go.ChangeAt Go.RowKit Go.Deep
open Go.ChangeMaps (open_string shut_string)
set_option linter.unusedVariables false
set_option maxRecDepth 100000

theorem Tryd.own : ownKnob Tryd.prog.godebug = none := by kernel_rfl
theorem Tryd.laidOut : laidOutB Tryd.prog = true := by kernel_rfl
theorem Tryd.cells9 : Tryd.prog.cellsOf 9 = 1 := by kernel_rfl
theorem Tryd.cells120 : Tryd.prog.cellsOf 120 = 1 := by kernel_rfl
theorem Tryd.cells126 : Tryd.prog.cellsOf 126 = 20 := by kernel_rfl
theorem Tryd.gP : Tryd.prog.globalNamed "internal/strconv.uint64pow10" = some 1 := by kernel_rfl
theorem Tryd.gPType : (Tryd.prog.globals[1]?).map (·.type) = some 126 := by kernel_rfl

def laidL : List (String × DataW Unit) := [("math/bits.deBruijn32tab", Rows.laid_math_bits_deBruijn32tab), ("math/bits.deBruijn64tab", Rows.laid_math_bits_deBruijn64tab), ("internal/strconv.uint64pow10", Rows.laid_internal_strconv_uint64pow10)]
theorem tab_of_laid {W : World} (h : laidMet Tryd.prog laidL W) : Tab W := by
  have h3 : laidMet Tryd.prog [("internal/strconv.uint64pow10", Lib.tabData .u64 Lib.pow10Tab)] W := h.tail.tail
  exact Lib.tabIs_of_head Tryd.gP Tryd.gPType Tryd.underlying126 Tryd.underlying120 Tryd.cells120 Tryd.cells126 h3

def cellsOfData : DataW Unit → Array Value
  | .agg l => (l.map fun
    | .lit (.int k z) => Value.int k z
    | _ => .int .i64 0).toArray
  | _ => #[]
/-- A world that meets the condition: the settled one, the three variables laid. -/
noncomputable def laidWorld (os : Os) : World :=
  let w0 := World.holding Tryd.prog os ⟨#[], #[], []⟩
  let put (h : Array Obj) (g : Nat) (cs : Array Value) : Array Obj := h.modify g fun
    | .cells _ t frozen => .cells cs t frozen
    | o => o
  let h1 := put w0.heap 1 (cellsOfData Rows.laid_internal_strconv_uint64pow10)
  let h2 := put h1 2 (cellsOfData Rows.laid_math_bits_deBruijn32tab)
  let h3 := put h2 3 (cellsOfData Rows.laid_math_bits_deBruijn64tab)
  { w0 with heap := h3 }
theorem laid_met (os : Os) (args : Array Value) : laidMet Tryd.prog laidL ((laidWorld os).forCall (fun _ _ => 0) ⟨#[], args, []⟩).memory :=
  (LaidIn.of_run [2, 3, 1] 8 (by kernel_rfl) (by kernel_rfl) (by kernel_rfl) (by kernel_rfl)).met

section
variable {H : Type} {enc : TypeId × Value → H}
theorem shut_bool {W : World} {base : Nat} {spare : Nat → Bool} {held : Bool} (b : Bool) : DataW.Trod enc Tryd.prog W base spare held 4 (.bool b) (.lit (.bool b)) [] :=
  ⟨1, by simp [DataW.trod, Value.cells, Tryd.underlying4]⟩
end
end Go.Proofs.YtmbdiimenmnfjaaDoor
/- Slices of strings: arguments, appends, few. -/
namespace Go.Proofs.YtmbdiimenmnfjaaDoor
open Go.RowKit Go.Deep Go.ChangeShapes Go.WideShapes Go.ChangeAt
open Go.Proofs.YtmbdiimenmnfjaaDoor.PNamesNames
open Go.Proofs.YtmbdiimenmnfjaaDoorW.PrintWords (rd rdOf Drawn0)
set_option linter.unusedVariables false
set_option linter.unusedSimpArgs false
set_option maxRecDepth 100000

section
variable {H : Type} {enc : TypeId × Value → H}
theorem open_taken2 {W : World} {base : Nat} {v1 : Value} {d1 : DataW H} {p1 : List MemPlace} (hval : Value.okWide Tryd.prog W .any base 33 v1) (h1 : DataW.Trod enc Tryd.prog W 0 (fun _ => true) true 33 v1 d1 p1) :
    ∃ A c b, v1 = .slice A b.length c ∧ b.length ≤ c ∧ b.length ≤ maxLen ∧ RdS W A b.length b ∧ (A = none → c = 0) := by
  obtain ⟨a1, len, cap, rfl⟩ := okWide_slice Tryd.underlying33 hval
  obtain ⟨fuel, hf⟩ := h1
  rcases open_strings Tryd.underlying33 Tryd.underlying9 Tryd.cells9 hf with ⟨hcs, hx⟩ | ⟨a, len', cap', zs, hcs, _, hl, hm, hz, hx, hcell, hwz⟩
  · simp [Value.cells] at hcs
    obtain ⟨rfl, rfl, rfl⟩ := hcs
    exact ⟨none, 0, [], rfl, by simp, by simp, ⟨rfl, by simp, fun j hj => absurd hj (Nat.not_lt_zero _)⟩, fun _ => rfl⟩
  · simp [Value.cells] at hcs
    obtain ⟨rfl, rfl, rfl⟩ := hcs
    simp only [if_true] at hz
    have hlen : (zs.take len).length = len := by simp; omega
    have hget : ∀ j, j < len → (zs.take len).getD j ByteArray.empty = zs.getD j ByteArray.empty := fun j hj => by
      simp [List.getD_eq_getElem?_getD, hj]
    refine ⟨some a, cap, zs.take len, by rw [hlen], by rw [hlen]; exact hl, by rw [hlen]; omega, ⟨rfl, by rw [hlen]; simp only [maxLen] at hm; omega, fun j hj => ⟨a, rfl, ?_⟩⟩, fun e => by cases e⟩
    rw [hlen] at hj
    rw [hget j hj]
    exact hcell j (by omega)
end
theorem few_l2 (l : List ByteArray) (hl : l.length ≤ 9223372036854775807) : ∀ (k i : Nat), i ≤ l.length → l.length < i + k → archivoltlaw05_few.l0 k l (i : Int) = some (((l.drop i).all fun s => decide (s.size ≤ 400)) && decide (l.length ≤ 30))
  | 0, i, h1, h3 => by omega
  | k + 1, i, h1, h3 => by
    unfold archivoltlaw05_few.l0
    by_cases hi : i < l.length
    · rw [if_pos (by omega), if_pos (by omega)]
      have ex : rdOf ByteArray.empty l (i : Int) = l.getD i ByteArray.empty := rfl
      rw [ex, drop_consS hi, List.all_cons]
      by_cases q : (l.getD i ByteArray.empty).size ≤ 400
      · rw [if_neg (by omega), decide_eq_true q, Bool.true_and]
        have ew : wrap64 ((i : Int) + 1) = ((i + 1 : Nat) : Int) := by unfold wrap64; omega
        rw [ew]
        exact few_l2 l hl k (i + 1) (by omega) (by omega)
      · rw [if_pos (by omega), decide_eq_false q]; rfl
    · rw [if_neg (by omega), List.drop_eq_nil_of_le (by omega), List.all_nil, Bool.true_and]
      congr 1
      rw [decide_eq_decide]
      omega
theorem few_any2 (A : Option Addr) (c : Nat) (l : List ByteArray) (w : World) (h : RdS w A l.length l) (hc : l.length ≤ c) (hl : l.length ≤ 9223372036854775807) :
    Calls Tryd.prog 14 #[.slice A l.length c] w fun e w' => e = .returned (.bool (fewM l)) ∧ Drawn w w' :=
  (archivoltlaw05_few.calls (l.length + 1) A c l (fewM l) w (rdS h) hc (by
    unfold archivoltlaw05_few.f
    have := few_l2 l hl (l.length + 1) 0 (by omega) (by omega)
    exact this)).mono fun e w' h => ⟨h.1, drawn0 h.2⟩

def strV (xs : List ByteArray) : List Value := xs.map Value.string
theorem info9 : (Tryd.prog.info? 9).map (fun i => (i.zero, i.size, i.bytes)) = some (some (.string ⟨#[]⟩), 1, 16) := by kernel_rfl
theorem own_noneS {w0 W : World} (h : w0.heap.size ≤ W.heap.size) : (W.alloc (.cells #[] 9)).ownsRow w0.heap.size 9 1 (.slice (some ⟨W.heap.size, 0, none⟩) 0 0) 0 [] :=
  ⟨rfl, Or.inr ⟨W.heap.size, 0, #[], rfl, h, heap_alloc_new _ _, Nat.le_refl _, Nat.zero_le _, rfl, rfl⟩⟩
/-- An append of strings that are read, nil or not. -/
theorem wpList_appS {w : World} {ops : Array Oper} {rest : List Oper} {o : Oper} {a : Act} {Q : Exit → Act → World → Prop} (hgd : o.guard = none) (s x : Operand)
    (ho : o.op = .call { callee := .builtin .append, args := #[s, x], argTypes := #[33, 33] }) (base : Nat) (v : Value) (n : Nat) (xs : List Value) (hs : a.eval s = v) (hown : w.ownsRow base 9 1 v n xs)
    (A : Option Addr) (m c : Nat) (ys : List ByteArray) (hx : a.eval x = .slice A m c) (hR : RdS w A m ys) (hN : A = none → c = 0) (h63 : n + m ≤ 1000000) (hbase : base ≤ w.heap.size)
    (h : ∀ v' w', w'.ownsRow base 9 1 v' (n + m) (xs ++ strV ys) → w.grownBy w' v.ownBlock → wpList Tryd.prog ops Q rest (a.put o.dst v') w') : wpList Tryd.prog ops Q (o :: rest) a w := by
  obtain ⟨i0, hi, hz0, hz1, hz2⟩ := info_parts info9
  cases A with
  | none =>
    have hm : m = 0 := by
      rcases Nat.eq_zero_or_pos m with h0 | h0
      · exact h0
      · obtain ⟨_, e, _⟩ := hR.at_ 0 h0; cases e
    subst hm
    have hy : ys = [] := List.length_eq_zero_iff.1 hR.len
    subst hy
    obtain rfl := hN rfl
    refine wpList_append_own_none hgd s x 33 ho base 9 i0 1 Tryd.underlying33 hi v n xs hs hown hx (h v w ?_ ⟨rfl, rfl, rfl, Nat.le_refl _, fun _ _ _ => rfl⟩)
    simpa [strV] using hown
  | some ad =>
    refine wpList_append_own _ hgd s x 33 ho base 9 i0 (.string ⟨#[]⟩) 1 16 Tryd.underlying33 hi hz0 hz1 hz2 rfl (by decide) v n xs hs hown ad m c (strV ys) hx (by unfold strV; rw [List.length_map, hR.len]; omega) ?_ (fun u hu => by obtain ⟨t, -, rfl⟩ := List.mem_map.1 hu; rfl) (by simp only [maxLen]; omega) (by omega) hbase (fun v' w' k1 k2 _ => h v' w' k1 k2)
    intro j u hu
    unfold strV at hu
    rw [List.getElem?_map] at hu
    obtain ⟨t, ht, rfl⟩ := Option.map_eq_some_iff.1 hu
    obtain ⟨hj, -⟩ := List.getElem?_eq_some_iff.1 ht
    obtain ⟨ad', e, hc⟩ := hR.at_ j (by have := hR.len; omega)
    cases e
    rw [hc, List.getD_eq_getElem?_getD, ht]
    rfl
end Go.Proofs.YtmbdiimenmnfjaaDoor
/- Sorting, plain: exchanges within a part of a list; what is in order; insertion, rotation, merging. -/
namespace Go.Proofs.YtmbdiimenmnfjaaDoor
open Go.RowKit Go.Deep
set_option linter.unusedVariables false
set_option linter.unusedSimpArgs false

def gS (d : List ByteArray) (i : Nat) : ByteArray := d.getD i ByteArray.empty
def swS (d : List ByteArray) (i j : Nat) : List ByteArray := (d.set i (gS d j)).set j (gS d i)
theorem swS_len (d : List ByteArray) (i j : Nat) : (swS d i j).length = d.length := by simp [swS]
theorem swS_get {d : List ByteArray} {i j : Nat} (hi : i < d.length) (hj : j < d.length) (k : Nat) : gS (swS d i j) k = if k = j then gS d i else if k = i then gS d j else gS d k := by
  unfold swS
  by_cases h1 : k = j
  · subst h1
    rw [if_pos rfl]
    unfold gS
    simp [List.getD_eq_getElem?_getD, List.getElem?_set, hj]
  · rw [if_neg h1]
    by_cases h2 : k = i
    · subst h2
      rw [if_pos rfl]
      unfold gS
      have h3 : ¬ j = k := fun h => h1 h.symm
      simp [List.getD_eq_getElem?_getD, List.getElem?_set, hi, h3]
    · rw [if_neg h2]
      unfold gS
      have h3 : ¬ j = k := fun h => h1 h.symm
      have h4 : ¬ i = k := fun h => h2 h.symm
      simp [List.getD_eq_getElem?_getD, List.getElem?_set, h3, h4]
theorem gS_is {d : List ByteArray} {i : Nat} (h : i < d.length) : gS d i = d[i] := by
  unfold gS
  rw [List.getD_eq_getElem?_getD, List.getElem?_eq_getElem h]; rfl
theorem swS_perm {d : List ByteArray} {i j : Nat} (hi : i < d.length) (hj : j < d.length) : (swS d i j).Perm d := by
  unfold swS
  rw [gS_is hi, gS_is hj]
  exact List.set_set_perm hi hj
/-- Exchanges within [a, b). -/
inductive Sw (a b : Nat) : List ByteArray → List ByteArray → Prop
  | refl (d : List ByteArray) : Sw a b d d
  | step {d d' : List ByteArray} (i j : Nat) (hi : a ≤ i ∧ i < b) (hj : a ≤ j ∧ j < b) (h : Sw a b d d') : Sw a b d (swS d' i j)
theorem Sw.len {a b : Nat} {d d' : List ByteArray} (h : Sw a b d d') : d'.length = d.length := by
  induction h with
  | refl => rfl
  | step i j hi hj h ih => rw [swS_len, ih]
theorem Sw.perm {a b : Nat} {d d' : List ByteArray} (h : Sw a b d d') (hb : b ≤ d.length) : d'.Perm d := by
  induction h with
  | refl => exact List.Perm.refl _
  | step i j hi hj h ih =>
    have := h.len
    exact (swS_perm (by omega) (by omega)).trans ih
theorem Sw.out {a b : Nat} {d d' : List ByteArray} (h : Sw a b d d') (hb : b ≤ d.length) {k : Nat} (hk : k < a ∨ b ≤ k) : gS d' k = gS d k := by
  induction h with
  | refl => rfl
  | step i j hi hj h ih =>
    have := h.len
    rw [swS_get (by omega) (by omega), if_neg (by omega), if_neg (by omega), ih]
theorem Sw.all {a b : Nat} {d d' : List ByteArray} (h : Sw a b d d') (hb : b ≤ d.length) {P : ByteArray → Prop} (hP : ∀ k, a ≤ k → k < b → P (gS d k)) : ∀ k, a ≤ k → k < b → P (gS d' k) := by
  induction h with
  | refl => exact hP
  | step i j hi hj h ih =>
    have := h.len
    intro k h1 h2
    rw [swS_get (by omega) (by omega)]
    split
    · exact ih i hi.1 hi.2
    · split
      · exact ih j hj.1 hj.2
      · exact ih k h1 h2
theorem Sw.trans {a b : Nat} {d d' d'' : List ByteArray} (h : Sw a b d d') (h' : Sw a b d' d'') : Sw a b d d'' := by
  induction h' with
  | refl => exact h
  | step i j hi hj _ ih => exact .step i j hi hj ih
theorem Sw.wide {a b a' b' : Nat} {d d' : List ByteArray} (h : Sw a b d d') (ha : a' ≤ a) (hb : b ≤ b') : Sw a' b' d d' := by
  induction h with
  | refl => exact .refl _
  | step i j hi hj _ ih => exact .step i j (by omega) (by omega) ih

/-- In order from a on, up to b. -/
def SoIn (d : List ByteArray) (a b : Nat) : Prop := ∀ i j, a ≤ i → i < j → j < b → compareM (gS d i) (gS d j) ≤ 0
theorem le_tr {x y z : ByteArray} (h1 : compareM x y ≤ 0) (h2 : compareM y z ≤ 0) : compareM x z ≤ 0 := (cmpM_all x y z).1 h1 h2
theorem not_lt {x y : ByteArray} (h : ¬ compareM x y < 0) : compareM y x ≤ 0 := by have := cmpM_swap x y; omega
theorem lt_le {x y : ByteArray} (h : compareM x y < 0) : compareM x y ≤ 0 := by omega
theorem le_self (x : ByteArray) : compareM x x ≤ 0 := by rw [(cmpM_zero x x).2 rfl]; exact Int.le_refl 0
theorem SoIn.le {d : List ByteArray} {a b : Nat} (h : SoIn d a b) {i j : Nat} (h1 : a ≤ i) (h2 : i ≤ j) (h3 : j < b) : compareM (gS d i) (gS d j) ≤ 0 := by
  by_cases h4 : i = j
  · rw [h4]; exact le_self _
  · exact h i j h1 (by omega) h3

/-- In order up to i, but for the place j. -/
def InsI (d : List ByteArray) (a i j : Nat) : Prop := ∀ p q, a ≤ p → p < q → q ≤ i → q ≠ j → compareM (gS d p) (gS d q) ≤ 0
theorem InsI.start {d : List ByteArray} {a i : Nat} (h : SoIn d a i) : InsI d a i i := fun p q h1 h2 h3 h4 => h p q h1 h2 (by omega)
theorem InsI.step {d : List ByteArray} {a i j : Nat} (h : InsI d a i j) (hj : a < j) (hji : j ≤ i) (hi : i < d.length) (hl : compareM (gS d j) (gS d (j - 1)) < 0) : InsI (swS d j (j - 1)) a i (j - 1) := by
  intro p q h1 h2 h3 h4
  rw [swS_get (by omega) (by omega), swS_get (by omega) (by omega), if_neg h4]
  by_cases hq : q = j
  · subst hq
    rw [if_pos rfl]
    by_cases hp : p = q - 1
    · subst hp
      rw [if_pos rfl]
      exact lt_le hl
    · rw [if_neg hp, if_neg (by omega)]
      exact h p (q - 1) h1 (by omega) (by omega) (by omega)
  · rw [if_neg hq]
    by_cases hp : p = j - 1
    · rw [if_pos hp]
      exact h j q (by omega) (by omega) h3 hq
    · rw [if_neg hp]
      by_cases hp2 : p = j
      · rw [if_pos hp2]
        exact h (j - 1) q (by omega) (by omega) h3 hq
      · rw [if_neg hp2]
        exact h p q h1 h2 h3 hq
theorem InsI.stop {d : List ByteArray} {a i j : Nat} (h : InsI d a i j) (hj : a ≤ j) (hji : j ≤ i) (hs : j = a ∨ ¬ compareM (gS d j) (gS d (j - 1)) < 0) : SoIn d a (i + 1) := by
  intro p q h1 h2 h3
  by_cases hq : q = j
  · subst hq
    rcases hs with hs | hs
    · omega
    · have h5 := not_lt hs
      by_cases hp : p = q - 1
      · rw [hp]; exact h5
      · exact le_tr (h p (q - 1) h1 (by omega) (by omega) (by omega)) h5
  · exact h p q h1 h2 (by omega) hq

/-- Two runs of n are exchanged. -/
def swR (f : Nat → ByteArray) (x y n : Nat) : Nat → ByteArray := fun k => if x ≤ k ∧ k < x + n then f (k - x + y) else if y ≤ k ∧ k < y + n then f (k - y + x) else f k
/-- What stands from m on, up to e, comes ahead of what stands from s on. -/
def rotF (f : Nat → ByteArray) (s m e : Nat) : Nat → ByteArray := fun k => if k < s ∨ e ≤ k then f k else if k < s + (e - m) then f (k - s + m) else f (k - (e - m))
theorem rot_big {f : Nat → ByteArray} {m i j : Nat} (hi : i ≤ m) (h : j < i) (hj : 0 < j) : rotF (swR f (m - i) m j) (m - (i - j)) m (m + j) = rotF f (m - i) m (m + j) := by
  funext k
  unfold rotF swR
  repeat' split
  all_goals first | rfl | (congr 1; omega) | omega
theorem rot_small {f : Nat → ByteArray} {m i j : Nat} (hi : i ≤ m) (h : i < j) (h0 : 0 < i) : rotF (swR f (m - i) (m + j - i) i) (m - i) m (m + (j - i)) = rotF f (m - i) m (m + j) := by
  funext k
  unfold rotF swR
  repeat' split
  all_goals first | rfl | (congr 1; omega) | omega
theorem rot_same {f : Nat → ByteArray} {m i : Nat} (hi : i ≤ m) : swR f (m - i) m i = rotF f (m - i) m (m + i) := by
  funext k
  unfold rotF swR
  repeat' split
  all_goals first | rfl | (congr 1; omega) | omega
theorem swR_one {d : List ByteArray} {f : Nat → ByteArray} {x y n : Nat} (hxy : x + n < y) (hy : y + n < d.length) (h : ∀ k, gS d k = swR f x y n k) : ∀ k, gS (swS d (x + n) (y + n)) k = swR f x y (n + 1) k := by
  intro k
  rw [swS_get (by omega) hy, h, h, h]
  unfold swR
  repeat' split
  all_goals first | rfl | (congr 1; omega) | omega
theorem swR_none (f : Nat → ByteArray) (x y : Nat) (k : Nat) : swR f x y 0 k = f k := by
  unfold swR
  rw [if_neg (by omega), if_neg (by omega)]

/-- The place a goes up to i - 1. -/
def upF (f : Nat → ByteArray) (a k : Nat) : Nat → ByteArray := fun p => if a ≤ p ∧ p < k then f (p + 1) else if p = k then f a else f p
theorem upF_start (f : Nat → ByteArray) (a p : Nat) : upF f a a p = f p := by
  unfold upF
  repeat' split
  all_goals first | rfl | (congr 1; omega) | omega
theorem upF_step {d : List ByteArray} {f : Nat → ByteArray} {a k : Nat} (ha : a ≤ k) (hk : k + 1 < d.length) (h : ∀ p, gS d p = upF f a k p) : ∀ p, gS (swS d k (k + 1)) p = upF f a (k + 1) p := by
  intro p
  rw [swS_get (by omega) (by omega), h, h, h]
  unfold upF
  repeat' split
  all_goals first | rfl | (congr 1; omega) | omega
/-- The place m goes down to k. -/
def downF (f : Nat → ByteArray) (m k : Nat) : Nat → ByteArray := fun p => if p = k then f m else if k < p ∧ p ≤ m then f (p - 1) else f p
theorem downF_start (f : Nat → ByteArray) (m p : Nat) : downF f m m p = f p := by
  unfold downF
  repeat' split
  all_goals first | rfl | (congr 1; omega) | omega
theorem downF_step {d : List ByteArray} {f : Nat → ByteArray} {m k : Nat} (ha : k < m) (hk : m < d.length) (h : ∀ p, gS d p = downF f m (k + 1) p) : ∀ p, gS (swS d (k + 1) k) p = downF f m k p := by
  intro p
  rw [swS_get (by omega) (by omega), h, h, h]
  unfold downF
  repeat' split
  all_goals first | rfl | (congr 1; omega) | omega

/-- One ahead of many: its place is found. -/
theorem merge_one {d0 d : List ByteArray} {a i b : Nat} (hi : a + 1 ≤ i) (hib : i ≤ b) (hs : SoIn d0 (a + 1) b) (h1 : ∀ k, a + 1 ≤ k → k < i → compareM (gS d0 k) (gS d0 a) < 0) (h2 : ∀ k, i ≤ k → k < b → compareM (gS d0 a) (gS d0 k) ≤ 0)
    (h : ∀ p, gS d p = upF (gS d0) a (i - 1) p) : SoIn d a b := by
  intro p q hp hpq hq
  rw [h, h]
  unfold upF
  by_cases c1 : p < i - 1
  · rw [if_pos ⟨hp, c1⟩]
    by_cases c2 : q < i - 1
    · rw [if_pos ⟨by omega, c2⟩]
      exact hs (p + 1) (q + 1) (by omega) (by omega) (by omega)
    · rw [if_neg (by omega)]
      by_cases c3 : q = i - 1
      · rw [if_pos c3]
        exact lt_le (h1 _ (by omega) (by omega))
      · rw [if_neg c3]
        exact hs (p + 1) q (by omega) (by omega) hq
  · rw [if_neg (by omega), if_neg (by omega : ¬ (a ≤ q ∧ q < i - 1)), if_neg (by omega : ¬ q = i - 1)]
    by_cases c3 : p = i - 1
    · rw [if_pos c3]
      exact h2 q (by omega) hq
    · rw [if_neg c3]
      exact hs p q (by omega) hpq hq
/-- One behind many: its place is found. -/
theorem merge_last {d0 d : List ByteArray} {a i m : Nat} (hai : a ≤ i) (him : i ≤ m) (hs : SoIn d0 a m) (h1 : ∀ k, a ≤ k → k < i → compareM (gS d0 k) (gS d0 m) ≤ 0) (h2 : ∀ k, i ≤ k → k < m → compareM (gS d0 m) (gS d0 k) < 0)
    (h : ∀ p, gS d p = downF (gS d0) m i p) : SoIn d a (m + 1) := by
  intro p q hp hpq hq
  rw [h, h]
  unfold downF
  by_cases c1 : p = i
  · rw [if_pos c1, if_neg (by omega), if_pos (by omega)]
    exact lt_le (h2 _ (by omega) (by omega))
  · rw [if_neg c1]
    by_cases c2 : i < p ∧ p ≤ m
    · rw [if_pos c2, if_neg (by omega), if_pos (by omega)]
      exact hs (p - 1) (q - 1) (by omega) (by omega) (by omega)
    · rw [if_neg c2]
      by_cases c3 : q = i
      · rw [if_pos c3]
        exact h1 p hp (by omega)
      · rw [if_neg c3]
        by_cases c4 : i < q ∧ q ≤ m
        · rw [if_pos c4]
          exact hs.le hp (by omega) (by omega)
        · rw [if_neg c4]
          exact hs p q hp hpq (by omega)

/-- Where the merge parts: behind the search. -/
structure Cut (d0 : List ByteArray) (a m b mid start r0 s0 : Nat) : Prop where
  lo : s0 ≤ start
  hi : start ≤ r0
  before : ∀ c, s0 ≤ c → c < start → compareM (gS d0 c) (gS d0 (mid + m - 1 - c)) ≤ 0
  behind : ∀ c, start ≤ c → c < r0 → compareM (gS d0 (mid + m - 1 - c)) (gS d0 c) < 0
theorem cut_parts {d0 d1 : List ByteArray} {a m b mid start r0 s0 : Nat} (ham : a < m) (hmb : m < b) (hmid : mid = (a + b) / 2) (hc : Cut d0 a m b mid start r0 s0) (hs0 : s0 = if mid < m then mid + m - b else a) (hr0 : r0 = if mid < m then mid else m)
    (h1 : SoIn d0 a m) (h2 : SoIn d0 m b) (hr : ∀ k, gS d1 k = rotF (gS d0) start m (mid + m - start) k) :
    (∀ x y, a ≤ x → x < mid → mid ≤ y → y < b → compareM (gS d1 x) (gS d1 y) ≤ 0) ∧ SoIn d1 a start ∧ SoIn d1 start mid ∧ SoIn d1 mid (mid + m - start) ∧ SoIn d1 (mid + m - start) b := by
  have hsm : start ≤ m ∧ start ≤ mid ∧ a ≤ start ∧ mid + m - start ≤ b ∧ m ≤ mid + m - start := by
    have := hc.lo
    have := hc.hi
    split at hs0 <;> split at hr0 <;> omega
  obtain ⟨q1, q2, q3, q4, q5⟩ := hsm
  have e1 : ∀ k, k < start → gS d1 k = gS d0 k := fun k hk => by rw [hr]; unfold rotF; rw [if_pos (Or.inl hk)]
  have e2 : ∀ k, start ≤ k → k < mid → gS d1 k = gS d0 (k - start + m) := fun k hk1 hk2 => by
    rw [hr]; unfold rotF
    rw [if_neg (by omega), if_pos (by omega)]
  have e3 : ∀ k, mid ≤ k → k < mid + m - start → gS d1 k = gS d0 (k - mid + start) := fun k hk1 hk2 => by
    rw [hr]; unfold rotF
    rw [if_neg (by omega), if_neg (by omega)]
    congr 1; omega
  have e4 : ∀ k, mid + m - start ≤ k → gS d1 k = gS d0 k := fun k hk => by rw [hr]; unfold rotF; rw [if_pos (Or.inr hk)]
  refine ⟨?_, ?_, ?_, ?_, ?_⟩
  · intro x y hx1 hx2 hy1 hy2
    by_cases cx : x < start
    · rw [e1 x cx]
      by_cases cy : y < mid + m - start
      · rw [e3 y hy1 cy]
        exact h1.le hx1 (by omega) (by omega)
      · rw [e4 y (by omega)]
        have hgt : s0 < start := by
          split at hs0 <;> omega
        have hm := hc.before (start - 1) (by omega) (by omega)
        have e : mid + m - 1 - (start - 1) = mid + m - start := by omega
        rw [e] at hm
        exact le_tr (h1.le hx1 (by omega : x ≤ start - 1) (by omega)) (le_tr hm (h2.le (by omega) (by omega : mid + m - start ≤ y) hy2))
    · rw [e2 x (by omega) hx2]
      by_cases cy : y < mid + m - start
      · rw [e3 y hy1 cy]
        have hlt : start < r0 := by
          split at hr0 <;> omega
        have hm := hc.behind start (by omega) hlt
        exact le_tr (h2.le (by omega) (by omega : x - start + m ≤ mid + m - 1 - start) (by omega)) (le_tr (lt_le hm) (h1.le (by omega) (by omega : start ≤ y - mid + start) (by omega)))
      · rw [e4 y (by omega)]
        exact h2.le (by omega) (by omega) hy2
  · intro i j hi hij hj
    rw [e1 i (by omega), e1 j hj]
    exact h1 i j hi hij (by omega)
  · intro i j hi hij hj
    rw [e2 i hi (by omega), e2 j (by omega) hj]
    exact h2 _ _ (by omega) (by omega) (by omega)
  · intro i j hi hij hj
    rw [e3 i hi (by omega), e3 j (by omega) hj]
    exact h1 _ _ (by omega) (by omega) (by omega)
  · intro i j hi hij hj
    rw [e4 i hi, e4 j (by omega)]
    exact h2 _ _ (by omega) hij hj
theorem cut_range {a m b mid start r0 s0 : Nat} (ham : a < m) (hmb : m < b) (hmid : mid = (a + b) / 2) (h1 : s0 ≤ start) (h2 : start ≤ r0) (hs0 : s0 = if mid < m then mid + m - b else a) (hr0 : r0 = if mid < m then mid else m) :
    start ≤ m ∧ start ≤ mid ∧ a ≤ start ∧ mid + m - start ≤ b ∧ m ≤ mid + m - start := by
  split at hs0 <;> split at hr0 <;> omega
/-- Both halves are in order, and all that is left is not behind all that is right. -/
theorem join_parts {d1 d2 d3 : List ByteArray} {a mid b : Nat} (ha : a ≤ mid) (hm : mid ≤ b) (hb : b ≤ d1.length) (hx : ∀ x y, a ≤ x → x < mid → mid ≤ y → y < b → compareM (gS d1 x) (gS d1 y) ≤ 0)
    (h2 : Sw a mid d1 d2) (hs2 : SoIn d2 a mid) (h3 : Sw mid b d2 d3) (hs3 : SoIn d3 mid b) : SoIn d3 a b := by
  have l2 := h2.len
  have hx2 : ∀ y, mid ≤ y → y < b → ∀ x, a ≤ x → x < mid → compareM (gS d2 x) (gS d2 y) ≤ 0 := fun y hy1 hy2 => by
    rw [h2.out (by omega) (Or.inr hy1)]
    exact h2.all (by omega) (P := fun u => compareM u (gS d1 y) ≤ 0) fun x h4 h5 => hx x y h4 h5 hy1 hy2
  have hx3 : ∀ x, a ≤ x → x < mid → ∀ y, mid ≤ y → y < b → compareM (gS d3 x) (gS d3 y) ≤ 0 := fun x hx1 hx2' => by
    rw [h3.out (by omega) (Or.inl hx2')]
    exact h3.all (by omega) (P := fun u => compareM (gS d2 x) u ≤ 0) fun y h4 h5 => hx2 y h4 h5 x hx1 hx2'
  intro i j hi hij hj
  by_cases c1 : j < mid
  · rw [h3.out (by omega) (Or.inl c1), h3.out (by omega) (Or.inl (by omega))]
    exact hs2 i j hi hij c1
  · by_cases c2 : mid ≤ i
    · exact hs3 i j c2 hij hj
    · exact hx3 i hi (by omega) j (by omega) hj

theorem soIn_pairwise {d : List ByteArray} (h : SoIn d 0 d.length) : d.Pairwise (fun x y => compareM x y ≤ 0) := by
  rw [List.pairwise_iff_getElem]
  intro i j hi hj hij
  have := h i j (Nat.zero_le _) hij hj
  rwa [gS_is hi, gS_is hj] at this
/-- What is in order is told by what it holds. -/
theorem sorted_one {d d' : List ByteArray} (hp : d.Perm d') (h : SoIn d 0 d.length) (h' : SoIn d' 0 d'.length) : d = d' :=
  List.Perm.eq_of_pairwise (le := fun x y => compareM x y ≤ 0) (fun a b _ _ h1 h2 => by
    have := cmpM_swap a b
    exact (cmpM_zero a b).1 (by omega)) (soIn_pairwise h) (soIn_pairwise h') hp
end Go.Proofs.YtmbdiimenmnfjaaDoor
/- Walks: the library's stable sorting of strings by Compare. -/
namespace Go.Proofs.YtmbdiimenmnfjaaDoor
open Go.RowKit Go.Deep
open Go.BigFrame
set_option linter.unusedVariables false
set_option linter.unusedSimpArgs false

/-- A row of strings of this walk's own. -/
structure SR (w0 : World) (b g N c : Nat) (d : List ByteArray) (W : World) : Prop where
  row : W.ownsRow b 9 1 (.slice (some ⟨g, 0, none⟩) N c) N (strV d)
  bel : Below b w0 W
  sz : ∀ x ∈ d, x.size ≤ 400
section
variable {w0 W : World} {b g N c : Nat} {d : List ByteArray}
theorem SR.len (h : SR w0 b g N c d W) : d.length = N := by have := h.row.1; simpa [strV] using this
theorem SR.cell (h : SR w0 b g N c d W) {j : Nat} (hj : j < N) : W.cell? ⟨g, j, none⟩ = some (.string (gS d j)) := by
  have hl := h.len
  rw [h.row.cellAt j (by omega)]
  unfold strV
  rw [List.getElem?_map, List.getElem?_eq_getElem (by omega : j < d.length), gS_is (by omega)]; rfl
theorem SR.fz (h : SR w0 b g N c d W) (j : Nat) : W.frozen? ⟨g, j, none⟩ = false := h.row.frozenAt j
theorem SR.lt (h : SR w0 b g N c d W) : b ≤ g ∧ g < W.heap.size := h.row.lt g rfl
theorem SR.on {W' : World} (h : SR w0 b g N c d W) (hB : Below W.heap.size W W') : SR w0 b g N c d W' := ⟨own_keep h.row hB, below_then h.bel (by have := h.lt; omega) hB, h.sz⟩
theorem SR.drew (h : SR w0 b g N c d W) : SR w0 b g N c d W.drew := ⟨h.row.drew, below_drew1 h.bel, h.sz⟩
theorem SR.gsz (h : SR w0 b g N c d W) {j : Nat} (hj : j < N) : (gS d j).size ≤ 400 := by
  have hl := h.len
  refine h.sz _ ?_
  rw [gS_is (by omega)]
  exact List.getElem_mem (by omega)
theorem strV_set (d : List ByteArray) (j : Nat) (x : ByteArray) : (strV d).set j (.string x) = strV (d.set j x) := by simp [strV, List.map_set]
theorem SR.sw (h : SR w0 b g N c d W) {i j : Nat} (hi : i < N) (hj : j < N) {x y : ByteArray} (hx : gS d j = x) (hy : gS d i = y) {W' : World} (e : (W.setCell ⟨g, i, none⟩ (.string x)).setCell ⟨g, j, none⟩ (.string y) = W') : SR w0 b g N c (swS d i j) W' := by
  subst e hx hy
  have h1 := (World.ownsRow.stored h.row i (.string (gS d j))).1
  rw [strV_set] at h1
  have h2 := (World.ownsRow.stored h1 j (.string (gS d i))).1
  rw [strV_set] at h2
  have hl := h.len
  refine ⟨h2, (h.bel.setCell h.lt.1 _).setCell h.lt.1 _, fun x hx => h.sz x ((swS_perm (by omega) (by omega)).mem_iff.1 hx)⟩
end
theorem i64_is {z : Int} {n : Nat} (h : z = n) (hn : n < 4611686018427387904) : IntKind.i64.wrap z = (n : Int) := by
  subst h
  exact IntWalk.i64_in _ (by omega)

set_option maxRecDepth 100000 in
set_option maxHeartbeats 8000000 in
theorem swapRange_any (w0 : World) (b g N c : Nat) (d : List ByteArray) (x y n : Nat) (v : Value) (w : World) (h : SR w0 b g N c d w) (hN : N ≤ 1000000) (hxy : x + n ≤ y) (hy : y + n ≤ N) :
    Calls Tryd.prog 105 #[.slice (some ⟨g, 0, none⟩) N c, .int .i64 x, .int .i64 y, .int .i64 n, v] w fun e w' => e = .returned (.tuple #[]) ∧ ∃ d', (∀ k, gS d' k = swR (gS d) x y n k) ∧ (∀ A B, A ≤ x → y + n ≤ B → Sw A B d d') ∧ SR w0 b g N c d' w' := by
  have H := Lib.hid h
  have hl := h.len
  clear h
  go_enter Tryd.func105, Tryd.ntmps105
  go_wp2
  go_loopw [10] (fun v W => ∃ (i : Nat) (dk : List ByteArray), v = .int .i64 i ∧ i ≤ n ∧ Hid (∀ k, gS dk k = swR (gS d) x y i k) ∧ Hid (∀ A B, A ≤ x → y + n ≤ B → Sw A B d dk) ∧ Hid (SR w0 b g N c dk W)) (fun v _ => n - (intOf v).toNat)
  case atStart => exact ⟨0, d, rfl, by omega, Lib.hid fun k => (swR_none _ _ _ _).symm, Lib.hid fun A B _ _ => .refl d, H⟩
  case round =>
    obtain ⟨i, dk, rfl, hi, HV, HS, HR⟩ := hrel
    clear H
    by_cases hlt : i < n
    · have hlti : (i : Int) < n := by omega
      obtain ⟨p, hp⟩ : ∃ p, x + i = p := ⟨_, rfl⟩
      obtain ⟨q, hq⟩ : ∃ q, y + i = q := ⟨_, rfl⟩
      have hwx : IntKind.i64.wrap ((x : Int) + (i : Int)) = (p : Int) := i64_is (by omega) (by omega)
      have hwy : IntKind.i64.wrap ((y : Int) + (i : Int)) = (q : Int) := i64_is (by omega) (by omega)
      have hpN : p < N := by omega
      have hqN : q < N := by omega
      have hpi : (p : Int) < N := by omega
      have hqi : (q : Int) < N := by omega
      have c1 := HR.out.cell hpN
      have c2 := HR.out.cell hqN
      have f1 := HR.out.fz
      obtain ⟨X, hX⟩ : ∃ X, gS dk p = X := ⟨_, rfl⟩
      obtain ⟨Y, hY⟩ : ∃ Y, gS dk q = Y := ⟨_, rfl⟩
      rw [hX] at c1
      rw [hY] at c2
      have c3 : (wr.setCell ⟨g, p, none⟩ (.string Y)).cell? ⟨g, q, none⟩ = some (.string Y) := by rw [World.cell?_setCell_other _ _ _ _ (by simp <;> omega)]; exact c2
      have HP := Lib.hid (And.intro hp hq)
      have HX := Lib.hid (And.intro hX hY)
      clear hX hY hp hq
      go_wp2
      go_region
      all_goals go_wp2
      obtain ⟨W9, hW9⟩ : ∃ W', (wr.setCell ⟨g, p, none⟩ (.string Y)).setCell ⟨g, q, none⟩ (.string X) = W' := ⟨_, rfl⟩
      have HR9 := Lib.hid (HR.out.sw hpN hqN HX.out.2 HX.out.1 hW9)
      rw [hW9]
      obtain ⟨hp, hq⟩ := HP.out
      subst hp hq
      exact ⟨⟨i + 1, swS dk (x + i) (y + i), by simp, by omega, Lib.hid (swR_one (by omega) (by have := HR.out.len; omega) HV.out), Lib.hid fun A B hA hB => .step _ _ (by omega) (by omega) (HS.out A B hA hB), Lib.hid HR9.out.drew⟩, by simp only [intOf]; omega⟩
    · have hie : i = n := by omega
      subst hie
      have hlti : ¬ ((i : Int) < i) := by omega
      go_wp2
      go_end0
      exact ⟨rfl, dk, HV.out, HS.out, HR.out⟩

set_option maxRecDepth 100000 in
set_option maxHeartbeats 8000000 in
theorem rotate_any (w0 : World) (b g N c : Nat) (d : List ByteArray) (a m e : Nat) (v : Value) (w : World) (h : SR w0 b g N c d w) (hN : N ≤ 1000000) (ham : a < m) (hme : m < e) (he : e ≤ N) :
    Calls Tryd.prog 99 #[.slice (some ⟨g, 0, none⟩) N c, .int .i64 a, .int .i64 m, .int .i64 e, v] w fun e' w' => e' = .returned (.tuple #[]) ∧ ∃ d', (∀ k, gS d' k = rotF (gS d) a m e k) ∧ Sw a e d d' ∧ SR w0 b g N c d' w' := by
  have H := Lib.hid h
  have hl := h.len
  have hmi : IntKind.i64.wrap ((m : Int) - (a : Int)) = ((m - a : Nat) : Int) := i64_is (by omega) (by omega)
  have hei : IntKind.i64.wrap ((e : Int) - (m : Int)) = ((e - m : Nat) : Int) := i64_is (by omega) (by omega)
  obtain ⟨i0, hi0⟩ : ∃ i, m - a = i := ⟨_, rfl⟩
  obtain ⟨j0, hj0⟩ : ∃ j, e - m = j := ⟨_, rfl⟩
  rw [hi0] at hmi
  rw [hj0] at hei
  have HST : Hid (rotF (gS d) (m - i0) m (m + j0) = rotF (gS d) a m e) := Lib.hid (by rw [show m - i0 = a from by omega, show m + j0 = e from by omega])
  have HIJ : Hid (m - a = i0 ∧ e - m = j0) := Lib.hid ⟨hi0, hj0⟩
  clear h hi0 hj0
  go_enter Tryd.func99, Tryd.ntmps99
  go_wp2
  go_loopw [10, 11] (fun v1 v2 W => ∃ (i j : Nat) (dk : List ByteArray), v1 = .int .i64 i ∧ v2 = .int .i64 j ∧ 0 < i ∧ 0 < j ∧ i ≤ m - a ∧ j ≤ e - m ∧ Hid (rotF (gS dk) (m - i) m (m + j) = rotF (gS d) a m e) ∧ Hid (Sw a e d dk) ∧ Hid (SR w0 b g N c dk W)) (fun v1 v2 _ => (intOf v1).toNat + (intOf v2).toNat)
  case atStart => exact ⟨i0, j0, d, rfl, rfl, by have := HIJ.out; omega, by have := HIJ.out; omega, by have := HIJ.out; omega, by have := HIJ.out; omega, HST, Lib.hid (.refl d), H⟩
  case round =>
    obtain ⟨i, j, dk, rfl, rfl, hi0, hj0, hia, hje, HV, HS, HR⟩ := hrel
    clear H HST HIJ
    have h1 : IntKind.i64.wrap ((m : Int) - (i : Int)) = ((m - i : Nat) : Int) := i64_is (by omega) (by omega)
    by_cases hij : i = j
    · subst hij
      have hb : ((i : Int) == (i : Int)) = true := by simp
      have hne : ((i : Int) != (i : Int)) = false := by simp
      go_wp2_with (go_at_call 105; refine (swapRange_any w0 b g N c dk (m - i) m i v _ HR.out hN (by omega) (by omega)).mono ?_; rintro e' w2 ⟨rfl, d2, hv, hs, hr⟩; (have HV2 := Lib.hid hv); (have HS2 := Lib.hid hs); (have HR2 := Lib.hid hr); clear hv hs hr)
      go_end0
      exact ⟨rfl, d2, fun k => by rw [HV2.out, rot_same (by omega), HV.out], HS.out.trans (HS2.out a e (by omega) (by omega)), HR2.out⟩
    · have hne : ((i : Int) != (j : Int)) = true := by simp; omega
      by_cases hlt : j < i
      · have hlti : (j : Int) < i := by omega
        have h2 : IntKind.i64.wrap ((i : Int) - (j : Int)) = ((i - j : Nat) : Int) := i64_is (by omega) (by omega)
        go_wp2_with (go_at_call 105; refine (swapRange_any w0 b g N c dk (m - i) m j v _ HR.out hN (by omega) (by omega)).mono ?_; rintro e' w2 ⟨rfl, d2, hv, hs, hr⟩; (have HV2 := Lib.hid hv); (have HS2 := Lib.hid hs); (have HR2 := Lib.hid hr); clear hv hs hr)
        exact ⟨⟨i - j, j, d2, rfl, rfl, by omega, hj0, by omega, hje, Lib.hid (by rw [← HV.out, ← rot_big (by omega) hlt hj0, ← funext HV2.out]), Lib.hid (HS.out.trans (HS2.out a e (by omega) (by omega))), HR2⟩, by simp only [intOf]; omega⟩
      · have hlti : ¬ (j : Int) < i := by omega
        have h2 : IntKind.i64.wrap ((j : Int) - (i : Int)) = ((j - i : Nat) : Int) := i64_is (by omega) (by omega)
        have h3 : IntKind.i64.wrap ((m : Int) + (j : Int)) = ((m + j : Nat) : Int) := i64_is (by omega) (by omega)
        have h4 : IntKind.i64.wrap (((m + j : Nat) : Int) - (i : Int)) = ((m + j - i : Nat) : Int) := i64_is (by omega) (by omega)
        have h5 : IntKind.i64.wrap ((m : Int) + (j : Int) - (i : Int)) = ((m + j - i : Nat) : Int) := i64_is (by omega) (by omega)
        go_wp2_with (go_at_call 105; refine (swapRange_any w0 b g N c dk (m - i) (m + j - i) i v _ HR.out hN (by omega) (by omega)).mono ?_; rintro e' w2 ⟨rfl, d2, hv, hs, hr⟩; (have HV2 := Lib.hid hv); (have HS2 := Lib.hid hs); (have HR2 := Lib.hid hr); clear hv hs hr)
        exact ⟨⟨i, j - i, d2, rfl, rfl, hi0, by omega, hia, by omega, Lib.hid (by rw [← HV.out, ← rot_small (f := gS dk) (m := m) (i := i) (j := j) (by omega) (by omega) hi0, ← funext HV2.out]), Lib.hid (HS.out.trans (HS2.out a e (by omega) (by omega))), HR2⟩, by simp only [intOf]; omega⟩
end Go.Proofs.YtmbdiimenmnfjaaDoor
/- Walks: the library's insertion sort of strings by Compare. -/
namespace Go.Proofs.YtmbdiimenmnfjaaDoor
open Go.RowKit Go.Deep
open Go.BigFrame
set_option linter.unusedVariables false
set_option linter.unusedSimpArgs false

theorem compare_v (X Y : ByteArray) (V : Int) (h : compareM X Y = V) (hX : X.size ≤ 400) (hY : Y.size ≤ 400) (w : World) : Calls Tryd.prog 21 #[.string X, .string Y] w fun e w' => e = .returned (.int .i64 V) ∧ Below w.heap.size w w' := by
  subst h
  exact compare_any X Y (by omega) (by omega) w

set_option maxRecDepth 100000 in
set_option maxHeartbeats 8000000 in
theorem insertion_any (w0 : World) (b g N c : Nat) (d : List ByteArray) (a e : Nat) (w : World) (h : SR w0 b g N c d w) (hN : N ≤ 1000000) (hae : a ≤ e) (he : e ≤ N) :
    Calls Tryd.prog 92 #[.slice (some ⟨g, 0, none⟩) N c, .int .i64 a, .int .i64 e, .func (.func 21) #[] #[]] w fun e' w' => e' = .returned (.tuple #[]) ∧ ∃ d', Sw a e d d' ∧ SoIn d' a e ∧ SR w0 b g N c d' w' := by
  have H := Lib.hid h
  clear h
  go_enter Tryd.func92, Tryd.ntmps92
  go_wp2
  go_loopw [8] (fun v W => ∃ (i : Nat) (dk : List ByteArray), v = .int .i64 i ∧ a + 1 ≤ i ∧ i ≤ e + 1 ∧ Hid (SoIn dk a i) ∧ Hid (Sw a e d dk) ∧ Hid (SR w0 b g N c dk W)) (fun v _ => e - (intOf v).toNat)
  case atStart => exact ⟨a + 1, d, by simp, by omega, by omega, Lib.hid fun p q _ _ _ => by omega, Lib.hid (.refl d), H⟩
  case round =>
    obtain ⟨i, dk, rfl, hai, hie, HO, HS, HR⟩ := hrel
    clear H
    by_cases hlt : i < e
    · have hlti : (i : Int) < e := by omega
      go_wp2
      go_loopw [9] (fun v W => ∃ (j : Nat) (dj : List ByteArray), v = .int .i64 j ∧ a ≤ j ∧ j ≤ i ∧ Hid (InsI dj a i j) ∧ Hid (Sw a e d dj) ∧ Hid (SR w0 b g N c dj W)) (fun v _ => (intOf v).toNat)
      case atStart => exact ⟨i, dk, rfl, by omega, by omega, Lib.hid (InsI.start HO.out), HS, HR⟩
      case round =>
        clear HO HS HR
        obtain ⟨j, dj, rfl, haj, hji, HI, HS, HR⟩ := hrel
        by_cases hja : a < j
        · obtain ⟨p, rfl⟩ : ∃ p, j = p + 1 := ⟨j - 1, by omega⟩
          obtain ⟨q, hq⟩ : ∃ q, p + 1 = q := ⟨_, rfl⟩
          have c1 := HR.out.cell (j := q) (by omega)
          have c2 := HR.out.cell (j := p) (by omega)
          have s1 := HR.out.gsz (j := q) (by omega)
          have s2 := HR.out.gsz (j := p) (by omega)
          have f1 := HR.out.fz
          obtain ⟨X, hX⟩ : ∃ X, gS dj q = X := ⟨_, rfl⟩
          obtain ⟨Y, hY⟩ : ∃ Y, gS dj p = Y := ⟨_, rfl⟩
          rw [hX] at c1 s1
          rw [hY] at c2 s2
          have c3 : ∀ W : World, W.cell? ⟨g, p, none⟩ = some (.string Y) → (W.setCell ⟨g, q, none⟩ (.string Y)).cell? ⟨g, p, none⟩ = some (.string Y) := fun W hW => by rw [World.cell?_setCell_other _ _ _ _ (by simp <;> omega)]; exact hW
          obtain ⟨V, hV⟩ : ∃ V, compareM X Y = V := ⟨_, rfl⟩
          have HCV := Lib.hid hV
          have HX := Lib.hid (And.intro hX hY)
          have HQ := Lib.hid hq
          have HC3 := Lib.hid c3
          have hqi : (q : Int) < N := by omega
          have hpi : (p : Int) < N := by omega
          have haq : (a : Int) < q := by omega
          have hwp : IntKind.i64.wrap ((q : Int) - 1) = (p : Int) := i64_is (by omega) (by omega)
          have ejq : (p : Int) + 1 = q := by omega
          have ejn : ((p + 1 : Nat) : Int) = q := by omega
          rw [ejn]
          clear hV hX hY hq c3 ejq ejn
          by_cases hl : V < 0
          · go_wp2
            obtain ⟨S, hne, f, hf1, hf2⟩ := grown_class wr
            have q1 : ∀ u, (f u).cell? ⟨g, q, none⟩ = some (.string X) := fun u => cell_keep (hf2 u) c1
            have q2 : ∀ u, (f u).cell? ⟨g, p, none⟩ = some (.string Y) := fun u => cell_keep (hf2 u) c2
            have HF1 := Lib.hid hf1
            have HF2 := Lib.hid hf2
            clear hf1 hf2
            refine region_quiet_f f (by kernel_rfl) (HF1.out _ (below_drew1 (Below.refl _ _))) ?_
            repeat (go_big_quiet_step ((go_at_call 21; refine (compare_v X Y V HCV.out (by omega) (by omega) _).mono ?_; rintro e w5 ⟨rfl, hB⟩; exact ⟨rfl, HF1.out _ (below_then (HF2.out _) (HF2.out _).size hB)⟩)))
            refine wpQuiet_nil ?_
            rintro W5 ⟨u, rfl⟩
            have HR5 := Lib.hid (HR.out.on (HF2.out u))
            generalize f u = W5 at *
            have c3 := HC3.out _ (HR5.out.cell (j := p) (by omega) |>.trans (by rw [HX.out.2]))
            have g1 := (HR5.out.cell (j := q) (by omega)).trans (by rw [HX.out.1])
            have g2 := (HR5.out.cell (j := p) (by omega)).trans (by rw [HX.out.2])
            have g3 := HR5.out.fz
            clear q1 q2 c1 c2 f1
            go_wp2
            go_region
            all_goals go_wp2
            obtain ⟨W9, hW9⟩ : ∃ W', (W5.setCell ⟨g, q, none⟩ (.string Y)).setCell ⟨g, p, none⟩ (.string X) = W' := ⟨_, rfl⟩
            have HR9 := Lib.hid (HR5.out.sw (i := q) (j := p) (by omega) (by omega) HX.out.2 HX.out.1 hW9)
            rw [hW9]
            obtain rfl := HQ.out
            have hlq : compareM (gS dj (p + 1)) (gS dj p) < 0 := by rw [HX.out.1, HX.out.2, HCV.out]; exact hl
            exact ⟨⟨p, swS dj (p + 1) p, by simp, by omega, by omega, Lib.hid (InsI.step HI.out (j := p + 1) (by omega) hji (by have := HR.out.len; omega) hlq), Lib.hid (.step _ _ (by omega) (by omega) HS.out), Lib.hid HR9.out.drew⟩, by simp only [intOf]; omega⟩
          · go_wp2
            obtain ⟨S, hne, f, hf1, hf2⟩ := grown_class wr
            have q1 : ∀ u, (f u).cell? ⟨g, q, none⟩ = some (.string X) := fun u => cell_keep (hf2 u) c1
            have q2 : ∀ u, (f u).cell? ⟨g, p, none⟩ = some (.string Y) := fun u => cell_keep (hf2 u) c2
            have HF1 := Lib.hid hf1
            have HF2 := Lib.hid hf2
            clear hf1 hf2
            refine region_quiet_f f (by kernel_rfl) (HF1.out _ (below_drew1 (Below.refl _ _))) ?_
            repeat (go_big_quiet_step ((go_at_call 21; refine (compare_v X Y V HCV.out (by omega) (by omega) _).mono ?_; rintro e w5 ⟨rfl, hB⟩; exact ⟨rfl, HF1.out _ (below_then (HF2.out _) (HF2.out _).size hB)⟩)))
            refine wpQuiet_nil ?_
            rintro W5 ⟨u, rfl⟩
            have HR5 := Lib.hid (HR.out.on (HF2.out u))
            generalize f u = W5 at *
            have hnl : ¬ compareM (gS dj (p + 1)) (gS dj (p + 1 - 1)) < 0 := by rw [Nat.add_sub_cancel, HQ.out, HX.out.1, HX.out.2, HCV.out]; omega
            have HSO := Lib.hid (InsI.stop HI.out haj hji (Or.inr hnl))
            clear hnl
            go_wp2
            exact ⟨⟨i + 1, dj, by simp, by omega, by omega, HSO, HS, HR5⟩, by simp only [intOf]; omega⟩
        · have hje : j = a := by omega
          have hjai : ¬ (a : Int) < j := by omega
          have hjab : decide ((j : Int) > (a : Int)) = false := decide_eq_false (by omega)
          have HSO := Lib.hid (InsI.stop HI.out haj hji (Or.inl hje))
          go_wp2
          go_quiet (fail)
          go_wp2
          exact ⟨⟨i + 1, dj, by simp, by omega, by omega, HSO, HS, Lib.hid (HR.out.on (below_drewN (Below.refl _ _) _))⟩, by simp only [intOf]; omega⟩
    · have hlti : ¬ (i : Int) < e := by omega
      go_wp2
      go_end0
      exact ⟨rfl, dk, HS.out, fun p q h1 h2 h3 => HO.out p q h1 h2 (by omega), HR.out⟩
theorem insertion_none (v u : Value) (a e : Nat) (w : World) (hN : a ≤ 1000000) (h : e ≤ a + 1) : Calls Tryd.prog 92 #[v, .int .i64 a, .int .i64 e, u] w fun e' w' => e' = .returned (.tuple #[]) ∧ w' = w := by
  have hlti : ¬ (a : Int) + 1 < e := by omega
  go_enter Tryd.func92, Tryd.ntmps92
  go_wp2
  go_loopw [8] (fun v W => v = .int .i64 ((a : Int) + 1) ∧ W = w) (fun _ _ => 0)
  case atStart => exact ⟨by simp, rfl⟩
  case round =>
    obtain ⟨rfl, rfl⟩ := hrel
    go_wp2
    go_end0
    exact ⟨rfl, rfl⟩
end Go.Proofs.YtmbdiimenmnfjaaDoor
/- Walks: the library's merging in place of strings by Compare: one ahead of many, one behind many. -/
namespace Go.Proofs.YtmbdiimenmnfjaaDoor
open Go.RowKit Go.Deep
open Go.BigFrame
set_option linter.unusedVariables false
set_option linter.unusedSimpArgs false

set_option maxRecDepth 100000 in
set_option maxHeartbeats 8000000 in
theorem merge_front (w0 : World) (b g N c : Nat) (d : List ByteArray) (a m e : Nat) (w : World) (h : SR w0 b g N c d w) (hN : N ≤ 1000000) (ham : m = a + 1) (hme : m < e) (he : e ≤ N) (hs : SoIn d m e) :
    Calls Tryd.prog 93 #[.slice (some ⟨g, 0, none⟩) N c, .int .i64 a, .int .i64 m, .int .i64 e, .func (.func 21) #[] #[]] w fun e' w' => e' = .returned (.tuple #[]) ∧ ∃ d', Sw a e d d' ∧ SoIn d' a e ∧ SR w0 b g N c d' w' := by
  have H := Lib.hid h
  have HS := Lib.hid hs
  have hma : IntKind.i64.wrap ((m : Int) - (a : Int)) = 1 := by rw [show (m : Int) - a = 1 from by omega]; rfl
  have HAM := Lib.hid ham
  have ham1 : a + 1 ≤ m := by omega
  have ham2 : m ≤ a + 1 := by omega
  clear h hs ham
  go_enter Tryd.func93, Tryd.ntmps93
  go_wp2
  go_loopw [10, 11] (fun v1 v2 W => ∃ (i j : Nat), v1 = .int .i64 i ∧ v2 = .int .i64 j ∧ m ≤ i ∧ i ≤ j ∧ j ≤ e ∧ Hid (∀ k, a + 1 ≤ k → k < i → compareM (gS d k) (gS d a) < 0) ∧ Hid (∀ k, j ≤ k → k < e → compareM (gS d a) (gS d k) ≤ 0) ∧ Hid (SR w0 b g N c d W)) (fun v1 v2 _ => (intOf v2).toNat - (intOf v1).toNat)
  case atStart => exact ⟨m, e, rfl, rfl, by omega, by omega, by omega, Lib.hid fun k _ _ => by omega, Lib.hid fun k _ _ => by omega, H⟩
  case round =>
    obtain ⟨i, j, rfl, rfl, hmi, hij, hje, HL, HG, HR⟩ := hrel
    clear H
    by_cases hlt : i < j
    · have haN : a < N := by omega
      have hai : (a : Int) < N := by omega
      have hlti : (i : Int) < j := by omega
      obtain ⟨q, hq⟩ : ∃ q, (i + j) / 2 = q := ⟨_, rfl⟩
      have hqz : ((i : Int) + (j : Int)) / 2 = (q : Int) := by omega
      have hqN : q < N := by omega
      have hqi : (q : Int) < N := by omega
      have c1 := HR.out.cell (j := q) (by omega)
      have c2 := HR.out.cell (j := a) (by omega)
      have s1 := HR.out.gsz (j := q) (by omega)
      have s2 := HR.out.gsz (j := a) (by omega)
      obtain ⟨X, hX⟩ : ∃ X, gS d q = X := ⟨_, rfl⟩
      obtain ⟨Y, hY⟩ : ∃ Y, gS d a = Y := ⟨_, rfl⟩
      rw [hX] at c1 s1
      rw [hY] at c2 s2
      obtain ⟨V, hV⟩ : ∃ V, compareM X Y = V := ⟨_, rfl⟩
      have HCV := Lib.hid hV
      have HXY := Lib.hid (show compareM (gS d q) (gS d a) = V from by rw [hX, hY]; exact hV)
      have HQ := Lib.hid hq
      have HQZ := Lib.hid hqz
      clear hV hX hY hq hqz
      by_cases hl : V < 0
      · go_wp2
        rw [HQZ.out]
        obtain ⟨S, hne, f, hf1, hf2⟩ := grown_class wr
        have q1 : ∀ u, (f u).cell? ⟨g, q, none⟩ = some (.string X) := fun u => cell_keep (hf2 u) c1
        have q2 : ∀ u, (f u).cell? ⟨g, a, none⟩ = some (.string Y) := fun u => cell_keep (hf2 u) c2
        have HF1 := Lib.hid hf1
        have HF2 := Lib.hid hf2
        clear hf1 hf2
        refine region_quiet_f f (by kernel_rfl) (HF1.out _ (below_drew1 (Below.refl _ _))) ?_
        repeat (go_big_quiet_step ((go_at_call 21; refine (compare_v X Y V HCV.out (by omega) (by omega) _).mono ?_; rintro e w5 ⟨rfl, hB⟩; exact ⟨rfl, HF1.out _ (below_then (HF2.out _) (HF2.out _).size hB)⟩)))
        refine wpQuiet_nil ?_
        rintro W5 ⟨u, rfl⟩
        have HR5 := Lib.hid (HR.out.on (HF2.out u))
        generalize f u = W5 at *
        go_wp2
        obtain rfl := HQ.out
        refine ⟨⟨(i + j) / 2 + 1, j, by simp <;> omega, rfl, by omega, by omega, hje, Lib.hid fun k h1 h2 => ?_, HG, HR5⟩, by simp only [intOf]; omega⟩
        exact (cmpM_all _ _ _).2.2 (HS.out.le (by omega) (by omega : k ≤ (i + j) / 2) (by omega)) (by rw [HXY.out]; exact hl)
      · go_wp2
        rw [HQZ.out]
        obtain ⟨S, hne, f, hf1, hf2⟩ := grown_class wr
        have q1 : ∀ u, (f u).cell? ⟨g, q, none⟩ = some (.string X) := fun u => cell_keep (hf2 u) c1
        have q2 : ∀ u, (f u).cell? ⟨g, a, none⟩ = some (.string Y) := fun u => cell_keep (hf2 u) c2
        have HF1 := Lib.hid hf1
        have HF2 := Lib.hid hf2
        clear hf1 hf2
        refine region_quiet_f f (by kernel_rfl) (HF1.out _ (below_drew1 (Below.refl _ _))) ?_
        repeat (go_big_quiet_step ((go_at_call 21; refine (compare_v X Y V HCV.out (by omega) (by omega) _).mono ?_; rintro e w5 ⟨rfl, hB⟩; exact ⟨rfl, HF1.out _ (below_then (HF2.out _) (HF2.out _).size hB)⟩)))
        refine wpQuiet_nil ?_
        rintro W5 ⟨u, rfl⟩
        have HR5 := Lib.hid (HR.out.on (HF2.out u))
        generalize f u = W5 at *
        go_wp2
        obtain rfl := HQ.out
        refine ⟨⟨i, (i + j) / 2, rfl, by simp <;> omega, hmi, by omega, by omega, HL, Lib.hid fun k h1 h2 => ?_, HR5⟩, by simp only [intOf]; omega⟩
        exact le_tr (not_lt (by rw [HXY.out]; omega)) (HS.out.le (by omega) h1 h2)
    · have hije : i = j := by omega
      subst hije
      have hlti : ¬ (i : Int) < i := by omega
      go_wp2
      go_loopw [13] (fun v W => ∃ (k : Nat) (dk : List ByteArray), v = .int .i64 k ∧ a ≤ k ∧ k ≤ i - 1 ∧ Hid (∀ p, gS dk p = upF (gS d) a k p) ∧ Hid (Sw a e d dk) ∧ Hid (SR w0 b g N c dk W)) (fun v _ => i - (intOf v).toNat)
      case atStart => exact ⟨a, d, rfl, by omega, by omega, Lib.hid fun p => (upF_start _ _ _).symm, Lib.hid (.refl d), HR⟩
      case round =>
        clear HR
        obtain ⟨k, dk, rfl, hak, hki, HV, HW, HR⟩ := hrel
        by_cases hlt2 : k < i - 1
        · have hlti2 : (k : Int) < (i : Int) - 1 := by omega
          obtain ⟨q, hq⟩ : ∃ q, k + 1 = q := ⟨_, rfl⟩
          have hwq : IntKind.i64.wrap ((k : Int) + 1) = (q : Int) := i64_is (by omega) (by omega)
          have ekq : (k : Int) + 1 = (q : Int) := by omega
          have hqi : (q : Int) < N := by omega
          have hkN : (k : Int) < N := by omega
          have c1 := HR.out.cell (j := k) (by omega)
          have c2 := HR.out.cell (j := q) (by omega)
          have f1 := HR.out.fz
          obtain ⟨X, hX⟩ : ∃ X, gS dk k = X := ⟨_, rfl⟩
          obtain ⟨Y, hY⟩ : ∃ Y, gS dk q = Y := ⟨_, rfl⟩
          rw [hX] at c1
          rw [hY] at c2
          have c3 : (wr.setCell ⟨g, k, none⟩ (.string Y)).cell? ⟨g, q, none⟩ = some (.string Y) := by rw [World.cell?_setCell_other _ _ _ _ (by simp <;> omega)]; exact c2
          have HX := Lib.hid (And.intro hX hY)
          clear hX hY
          have HQ := Lib.hid hq
          clear hq
          go_wp2
          go_region
          all_goals go_wp2
          obtain ⟨W9, hW9⟩ : ∃ W', (wr.setCell ⟨g, k, none⟩ (.string Y)).setCell ⟨g, q, none⟩ (.string X) = W' := ⟨_, rfl⟩
          have HR9 := Lib.hid (HR.out.sw (i := k) (j := q) (by omega) (by omega) HX.out.2 HX.out.1 hW9)
          rw [hW9]
          obtain rfl := HQ.out
          exact ⟨⟨k + 1, swS dk k (k + 1), by simp, by omega, by omega, Lib.hid (upF_step hak (by have := HR.out.len; omega) HV.out), Lib.hid (.step _ _ (by omega) (by omega) HW.out), Lib.hid HR9.out.drew⟩, by simp only [intOf]; omega⟩
        · have hke : k = i - 1 := by omega
          have hlti2 : ¬ (k : Int) < (i : Int) - 1 := by omega
          have hso : SoIn dk a e := merge_one (d0 := d) (i := i) (by omega) hje (by rw [← HAM.out]; exact HS.out) HL.out HG.out (by rw [← hke]; exact HV.out)
          have HSO := Lib.hid hso
          clear hso
          go_wp2
          exact bodyPost_ret (v := .tuple #[]) (by simp [results, Tryd.results93, go_sem]) rfl ⟨rfl, dk, HW.out, HSO.out, HR.out⟩

set_option maxRecDepth 100000 in
set_option maxHeartbeats 8000000 in
theorem merge_back (w0 : World) (b g N c : Nat) (d : List ByteArray) (a m e : Nat) (w : World) (h : SR w0 b g N c d w) (hN : N ≤ 1000000) (ham : a + 1 < m) (hme : e = m + 1) (he : e ≤ N) (hs : SoIn d a m) :
    Calls Tryd.prog 93 #[.slice (some ⟨g, 0, none⟩) N c, .int .i64 a, .int .i64 m, .int .i64 e, .func (.func 21) #[] #[]] w fun e' w' => e' = .returned (.tuple #[]) ∧ ∃ d', Sw a e d d' ∧ SoIn d' a e ∧ SR w0 b g N c d' w' := by
  have H := Lib.hid h
  have HS := Lib.hid hs
  have hma : IntKind.i64.wrap ((m : Int) - (a : Int)) = ((m - a : Nat) : Int) := i64_is (by omega) (by omega)
  have hmb : (((m - a : Nat) : Int) == 1) = false := by simp; omega
  have hmc : ((m : Int) - (a : Int) == 1) = false := by simp; omega
  have hem : IntKind.i64.wrap ((e : Int) - (m : Int)) = 1 := by rw [show (e : Int) - m = 1 from by omega]; rfl
  have HME := Lib.hid hme
  have hme1 : m + 1 ≤ e := by omega
  have hme2 : e ≤ m + 1 := by omega
  clear h hs hme
  go_enter Tryd.func93, Tryd.ntmps93
  go_wp2
  go_loopw [14, 15] (fun v1 v2 W => ∃ (i j : Nat), v1 = .int .i64 i ∧ v2 = .int .i64 j ∧ a ≤ i ∧ i ≤ j ∧ j ≤ m ∧ Hid (∀ k, a ≤ k → k < i → compareM (gS d k) (gS d m) ≤ 0) ∧ Hid (∀ k, j ≤ k → k < m → compareM (gS d m) (gS d k) < 0) ∧ Hid (SR w0 b g N c d W)) (fun v1 v2 _ => (intOf v2).toNat - (intOf v1).toNat)
  case atStart => exact ⟨a, m, rfl, rfl, by omega, by omega, by omega, Lib.hid fun k _ _ => by omega, Lib.hid fun k _ _ => by omega, H⟩
  case round =>
    obtain ⟨i, j, rfl, rfl, hai, hij, hjm, HL, HG, HR⟩ := hrel
    clear H
    by_cases hlt : i < j
    · have hmN : m < N := by omega
      have hmi : (m : Int) < N := by omega
      have hlti : (i : Int) < j := by omega
      obtain ⟨q, hq⟩ : ∃ q, (i + j) / 2 = q := ⟨_, rfl⟩
      have hqz : ((i : Int) + (j : Int)) / 2 = (q : Int) := by omega
      have hqN : q < N := by omega
      have hqi : (q : Int) < N := by omega
      have c1 := HR.out.cell (j := m) (by omega)
      have c2 := HR.out.cell (j := q) (by omega)
      have s1 := HR.out.gsz (j := m) (by omega)
      have s2 := HR.out.gsz (j := q) (by omega)
      obtain ⟨X, hX⟩ : ∃ X, gS d m = X := ⟨_, rfl⟩
      obtain ⟨Y, hY⟩ : ∃ Y, gS d q = Y := ⟨_, rfl⟩
      rw [hX] at c1 s1
      rw [hY] at c2 s2
      obtain ⟨V, hV⟩ : ∃ V, compareM X Y = V := ⟨_, rfl⟩
      have HCV := Lib.hid hV
      have HXY := Lib.hid (show compareM (gS d m) (gS d q) = V from by rw [hX, hY]; exact hV)
      have HQ := Lib.hid hq
      have HQZ := Lib.hid hqz
      clear hV hX hY hq hqz
      by_cases hl : V < 0
      · go_wp2
        rw [HQZ.out]
        obtain ⟨S, hne, f, hf1, hf2⟩ := grown_class wr
        have q1 : ∀ u, (f u).cell? ⟨g, m, none⟩ = some (.string X) := fun u => cell_keep (hf2 u) c1
        have q2 : ∀ u, (f u).cell? ⟨g, q, none⟩ = some (.string Y) := fun u => cell_keep (hf2 u) c2
        have HF1 := Lib.hid hf1
        have HF2 := Lib.hid hf2
        clear hf1 hf2
        refine region_quiet_f f (by kernel_rfl) (HF1.out _ (below_drew1 (Below.refl _ _))) ?_
        repeat (go_big_quiet_step ((go_at_call 21; refine (compare_v X Y V HCV.out (by omega) (by omega) _).mono ?_; rintro e w5 ⟨rfl, hB⟩; exact ⟨rfl, HF1.out _ (below_then (HF2.out _) (HF2.out _).size hB)⟩)))
        refine wpQuiet_nil ?_
        rintro W5 ⟨u, rfl⟩
        have HR5 := Lib.hid (HR.out.on (HF2.out u))
        generalize f u = W5 at *
        go_wp2
        obtain rfl := HQ.out
        refine ⟨⟨i, (i + j) / 2, rfl, by simp <;> omega, hai, by omega, by omega, HL, Lib.hid fun k h1 h2 => ?_, HR5⟩, by simp only [intOf]; omega⟩
        exact (cmpM_all _ _ _).2.1 (by rw [HXY.out]; exact hl) (HS.out.le (by omega) h1 (by omega))
      · go_wp2
        rw [HQZ.out]
        obtain ⟨S, hne, f, hf1, hf2⟩ := grown_class wr
        have q1 : ∀ u, (f u).cell? ⟨g, m, none⟩ = some (.string X) := fun u => cell_keep (hf2 u) c1
        have q2 : ∀ u, (f u).cell? ⟨g, q, none⟩ = some (.string Y) := fun u => cell_keep (hf2 u) c2
        have HF1 := Lib.hid hf1
        have HF2 := Lib.hid hf2
        clear hf1 hf2
        refine region_quiet_f f (by kernel_rfl) (HF1.out _ (below_drew1 (Below.refl _ _))) ?_
        repeat (go_big_quiet_step ((go_at_call 21; refine (compare_v X Y V HCV.out (by omega) (by omega) _).mono ?_; rintro e w5 ⟨rfl, hB⟩; exact ⟨rfl, HF1.out _ (below_then (HF2.out _) (HF2.out _).size hB)⟩)))
        refine wpQuiet_nil ?_
        rintro W5 ⟨u, rfl⟩
        have HR5 := Lib.hid (HR.out.on (HF2.out u))
        generalize f u = W5 at *
        go_wp2
        rotate_left
        · exfalso
          rename_i hx
          simp at hx
          omega
        obtain rfl := HQ.out
        refine ⟨⟨(i + j) / 2 + 1, j, by simp <;> omega, rfl, by omega, by omega, hjm, Lib.hid fun k h1 h2 => ?_, HG, HR5⟩, by simp only [intOf]; omega⟩
        exact le_tr (HS.out.le (by omega) (by omega : k ≤ (i + j) / 2) (by omega)) (not_lt (by rw [HXY.out]; omega))
    · have hije : i = j := by omega
      subst hije
      have hlti : ¬ (i : Int) < i := by omega
      go_wp2
      go_loopw [17] (fun v W => ∃ (k : Nat) (dk : List ByteArray), v = .int .i64 k ∧ i ≤ k ∧ k ≤ m ∧ Hid (∀ p, gS dk p = downF (gS d) m k p) ∧ Hid (Sw a e d dk) ∧ Hid (SR w0 b g N c dk W)) (fun v _ => (intOf v).toNat)
      case atStart => exact ⟨m, d, rfl, by omega, by omega, Lib.hid fun p => (downF_start _ _ _).symm, Lib.hid (.refl d), HR⟩
      case round =>
        clear HR
        obtain ⟨k, dk, rfl, hik, hkm, HV, HW, HR⟩ := hrel
        by_cases hlt2 : i < k
        · obtain ⟨p, rfl⟩ : ∃ p, k = p + 1 := ⟨k - 1, by omega⟩
          obtain ⟨q, hq⟩ : ∃ q, p + 1 = q := ⟨_, rfl⟩
          have hiq : (i : Int) < q := by omega
          have hqi : (q : Int) < N := by omega
          have hpi : (p : Int) < N := by omega
          have hwp : IntKind.i64.wrap ((q : Int) - 1) = (p : Int) := i64_is (by omega) (by omega)
          have ejn : ((p + 1 : Nat) : Int) = q := by omega
          rw [ejn]
          have c1 := HR.out.cell (j := q) (by omega)
          have c2 := HR.out.cell (j := p) (by omega)
          have f1 := HR.out.fz
          obtain ⟨X, hX⟩ : ∃ X, gS dk q = X := ⟨_, rfl⟩
          obtain ⟨Y, hY⟩ : ∃ Y, gS dk p = Y := ⟨_, rfl⟩
          rw [hX] at c1
          rw [hY] at c2
          have c3 : (wr.setCell ⟨g, q, none⟩ (.string Y)).cell? ⟨g, p, none⟩ = some (.string Y) := by rw [World.cell?_setCell_other _ _ _ _ (by simp <;> omega)]; exact c2
          have HX := Lib.hid (And.intro hX hY)
          clear hX hY
          have HQ := Lib.hid hq
          clear hq ejn
          go_wp2
          go_region
          all_goals go_wp2
          obtain ⟨W9, hW9⟩ : ∃ W', (wr.setCell ⟨g, q, none⟩ (.string Y)).setCell ⟨g, p, none⟩ (.string X) = W' := ⟨_, rfl⟩
          have HR9 := Lib.hid (HR.out.sw (i := q) (j := p) (by omega) (by omega) HX.out.2 HX.out.1 hW9)
          rw [hW9]
          obtain rfl := HQ.out
          exact ⟨⟨p, swS dk (p + 1) p, by simp, by omega, by omega, Lib.hid (downF_step (by omega) (by have := HR.out.len; omega) HV.out), Lib.hid (.step _ _ (by omega) (by omega) HW.out), Lib.hid HR9.out.drew⟩, by simp only [intOf]; omega⟩
        · have hke : k = i := by omega
          have hlti2 : ¬ (i : Int) < (k : Int) := by omega
          have hso : SoIn dk a e := by rw [HME.out]; exact merge_last (d0 := d) (i := i) hai hjm HS.out HL.out HG.out (by rw [← hke]; exact HV.out)
          have HSO := Lib.hid hso
          clear hso
          go_wp2
          exact bodyPost_ret (v := .tuple #[]) (by simp [results, Tryd.results93, go_sem]) rfl ⟨rfl, dk, HW.out, HSO.out, HR.out⟩
end Go.Proofs.YtmbdiimenmnfjaaDoor
/- Walks: the library's merging in place of strings by Compare. -/
namespace Go.Proofs.YtmbdiimenmnfjaaDoor
open Go.RowKit Go.Deep
open Go.BigFrame
set_option linter.unusedVariables false
set_option linter.unusedSimpArgs false

theorem rot_id {f : Nat → ByteArray} {s m e : Nat} (h : ¬ (s < m ∧ m < e)) (h1 : s ≤ m) (h2 : m ≤ e) (k : Nat) : f k = rotF f s m e k := by
  unfold rotF
  repeat' split
  all_goals first | rfl | (congr 1; omega) | omega

set_option maxRecDepth 100000 in
set_option maxHeartbeats 16000000 in
theorem symMerge_any (w0 : World) (b g N c : Nat) (hN : N ≤ 1000000) : ∀ (z a m e : Nat) (d : List ByteArray) (w : World), e - a = z → SR w0 b g N c d w → a < m → m < e → e ≤ N → SoIn d a m → SoIn d m e →
    Calls Tryd.prog 93 #[.slice (some ⟨g, 0, none⟩) N c, .int .i64 a, .int .i64 m, .int .i64 e, .func (.func 21) #[] #[]] w fun e' w' => e' = .returned (.tuple #[]) ∧ ∃ d', Sw a e d d' ∧ SoIn d' a e ∧ SR w0 b g N c d' w' := by
  intro z
  induction z using Nat.strongRecOn with
  | _ z ih =>
  intro a m e d w hz h ham hme he hsl hsr
  by_cases hm1 : m = a + 1
  · exact merge_front w0 b g N c d a m e w h hN hm1 hme he hsr
  by_cases he1 : e = m + 1
  · exact merge_back w0 b g N c d a m e w h hN (by omega) he1 he hsl
  have IH := Lib.hid ih
  have H := Lib.hid h
  have HSL := Lib.hid hsl
  have HSR := Lib.hid hsr
  have HZ := Lib.hid hz
  have hl := h.len
  have hma : IntKind.i64.wrap ((m : Int) - (a : Int)) = ((m - a : Nat) : Int) := i64_is (by omega) (by omega)
  have hmb : (((m - a : Nat) : Int) == 1) = false := by simp; omega
  have hmc : ((m : Int) - (a : Int) == 1) = false := by simp; omega
  have hea : IntKind.i64.wrap ((e : Int) - (m : Int)) = ((e - m : Nat) : Int) := i64_is (by omega) (by omega)
  have heb : (((e - m : Nat) : Int) == 1) = false := by simp; omega
  have hec : ((e : Int) - (m : Int) == 1) = false := by simp; omega
  clear ih h hsl hsr hz
  obtain ⟨mid, hmid⟩ : ∃ mid, (a + e) / 2 = mid := ⟨_, rfl⟩
  have HMZ : Hid (((a : Int) + (e : Int)) / 2 = (mid : Int)) := Lib.hid (by omega)
  obtain ⟨nn, hnn⟩ : ∃ nn, mid + m = nn := ⟨_, rfl⟩
  have hwn : IntKind.i64.wrap ((mid : Int) + (m : Int)) = (nn : Int) := i64_is (by omega) (by omega)
  have hwp : IntKind.i64.wrap ((nn : Int) - 1) = ((nn - 1 : Nat) : Int) := i64_is (by omega) (by omega)
  have ham1 : a ≤ mid := by omega
  have ham3 : a < mid := by omega
  have hmid2 : mid < e := by omega
  obtain ⟨s0, hs0⟩ : ∃ s0, (if mid < m then mid + m - e else a) = s0 := ⟨_, rfl⟩
  obtain ⟨r0, hr0⟩ : ∃ r0, (if mid < m then mid else m) = r0 := ⟨_, rfl⟩
  have hrng : s0 ≤ r0 ∧ ∀ c, s0 ≤ c → c < r0 → a ≤ c ∧ c < m ∧ m ≤ nn - 1 - c ∧ nn - 1 - c < e := by
    constructor
    · split at hs0 <;> split at hr0 <;> omega
    · intro c h1 h2
      split at hs0 <;> split at hr0 <;> omega
  have HS0 := Lib.hid hs0
  have HR0 := Lib.hid hr0
  have HRNG := Lib.hid hrng
  have HNN := Lib.hid hnn
  have HMID := Lib.hid hmid
  have hsr0 := hrng.1
  have hr0b : r0 ≤ m ∧ r0 ≤ mid := by split at hr0 <;> omega
  have hnb : nn ≤ 2000000 := by omega
  have hn1 : 1 ≤ nn := by omega
  obtain ⟨p, hp⟩ : ∃ p, nn - 1 = p := ⟨_, rfl⟩
  rw [hp] at hwp
  have HP := Lib.hid hp
  have hpm : m ≤ p := by omega
  clear hs0 hr0 hrng hnn hmid hp
  go_enter Tryd.func93, Tryd.ntmps93
  go_upto_region 25 with (fail)
  rw [HMZ.out]
  go_upto_if 140 with (fail)
  go_cut [20, 21] (fun v1 v2 wc => v1 = .int .i64 s0 ∧ v2 = .int .i64 r0 ∧ Hid (SR w0 b g N c d wc))
  case first =>
    by_cases hmm : mid < m
    · have hmi : (mid : Int) < m := by omega
      have hws : IntKind.i64.wrap ((nn : Int) - (e : Int)) = (s0 : Int) := i64_is (by have h1 := HS0.out; rw [if_pos hmm] at h1; have h2 := HNN.out; have h3 := HMID.out; omega) (by have h1 := HS0.out; rw [if_pos hmm] at h1; omega)
      have HR0' : Hid (mid = r0) := Lib.hid (by have := HR0.out; rw [if_pos hmm] at this; exact this)
      go_wp2
      go_meet
      case rel => exact ⟨rfl, by rw [HR0'.out], H⟩
    · have hmi : ¬ (mid : Int) < m := by omega
      have HR0' : Hid (m = r0) := Lib.hid (by have := HR0.out; rw [if_neg hmm] at this; exact this)
      have HS0' : Hid (a = s0) := Lib.hid (by have := HS0.out; rw [if_neg hmm] at this; exact this)
      go_wp2
      go_meet
      case rel => exact ⟨by rw [HS0'.out], by rw [HR0'.out], H⟩
  case rest =>
  obtain ⟨rfl, rfl, H1⟩ := hcut
  clear H
  go_wp2
  go_loopw [20, 21] (fun v1 v2 W => ∃ (s r : Nat), v1 = .int .i64 s ∧ v2 = .int .i64 r ∧ s0 ≤ s ∧ s ≤ r ∧ r ≤ r0 ∧ Hid (∀ c, s0 ≤ c → c < s → compareM (gS d c) (gS d (nn - 1 - c)) ≤ 0) ∧ Hid (∀ c, r ≤ c → c < r0 → compareM (gS d (nn - 1 - c)) (gS d c) < 0) ∧ Hid (SR w0 b g N c d W)) (fun v1 v2 _ => (intOf v2).toNat - (intOf v1).toNat)
  case atStart => exact ⟨s0, r0, rfl, rfl, by omega, by omega, by omega, Lib.hid fun k _ _ => by omega, Lib.hid fun k _ _ => by omega, H1⟩
  case round =>
    obtain ⟨s, r, rfl, rfl, hss, hsr, hrr, HL, HG, HR⟩ := hrel
    clear H1
    by_cases hlt : s < r
    · have hrq := HRNG.out.2 ((s + r) / 2) (by omega) (by omega)
      have hlti : (s : Int) < r := by omega
      obtain ⟨q, hq⟩ : ∃ q, (s + r) / 2 = q := ⟨_, rfl⟩
      have hqz : ((s : Int) + (r : Int)) / 2 = (q : Int) := by omega
      have hqN : q < N := by omega
      have hqi : (q : Int) < N := by omega
      obtain ⟨pq, hpq⟩ : ∃ pq, p - q = pq := ⟨_, rfl⟩
      rw [hq, HP.out, hpq] at hrq
      have hwpq : IntKind.i64.wrap ((p : Int) - (q : Int)) = (pq : Int) := i64_is (by omega) (by omega)
      have hpqi : (pq : Int) < N := by omega
      have HPQ := Lib.hid hpq
      clear hpq
      have c1 := HR.out.cell (j := pq) (by omega)
      have c2 := HR.out.cell (j := q) (by omega)
      have s1 := HR.out.gsz (j := pq) (by omega)
      have s2 := HR.out.gsz (j := q) (by omega)
      obtain ⟨X, hX⟩ : ∃ X, gS d pq = X := ⟨_, rfl⟩
      obtain ⟨Y, hY⟩ : ∃ Y, gS d q = Y := ⟨_, rfl⟩
      rw [hX] at c1 s1
      rw [hY] at c2 s2
      obtain ⟨V, hV⟩ : ∃ V, compareM X Y = V := ⟨_, rfl⟩
      have HCV := Lib.hid hV
      have HXY := Lib.hid (show compareM (gS d pq) (gS d q) = V from by rw [hX, hY]; exact hV)
      have HQ := Lib.hid hq
      have HQZ := Lib.hid hqz
      clear hV hX hY hq hqz
      by_cases hl : V < 0
      · go_wp2
        rw [HQZ.out]
        obtain ⟨S, hne, f, hf1, hf2⟩ := grown_class wr
        have q1 : ∀ u, (f u).cell? ⟨g, pq, none⟩ = some (.string X) := fun u => cell_keep (hf2 u) c1
        have q2 : ∀ u, (f u).cell? ⟨g, q, none⟩ = some (.string Y) := fun u => cell_keep (hf2 u) c2
        have HF1 := Lib.hid hf1
        have HF2 := Lib.hid hf2
        clear hf1 hf2
        refine region_quiet_f f (by kernel_rfl) (HF1.out _ (below_drew1 (Below.refl _ _))) ?_
        repeat (go_big_quiet_step ((go_at_call 21; refine (compare_v X Y V HCV.out (by omega) (by omega) _).mono ?_; rintro e w5 ⟨rfl, hB⟩; exact ⟨rfl, HF1.out _ (below_then (HF2.out _) (HF2.out _).size hB)⟩)))
        refine wpQuiet_nil ?_
        rintro W5 ⟨u, rfl⟩
        have HR5 := Lib.hid (HR.out.on (HF2.out u))
        generalize f u = W5 at *
        go_wp2
        refine ⟨⟨s, q, rfl, rfl, hss, by have := HQ.out; omega, by have := HQ.out; omega, HL, Lib.hid fun k h1 h2 => ?_, HR5⟩, by simp only [intOf]; have := HQ.out; omega⟩
        have hk := HRNG.out.2 k (by have := HQ.out; omega) h2
        have e1 : nn - 1 - k ≤ pq := by have := HPQ.out; have := HP.out; omega
        exact (cmpM_all _ _ _).2.2 (HSR.out.le hk.2.2.1 e1 (by omega)) ((cmpM_all _ _ _).2.1 (by rw [HXY.out]; exact hl) (HSL.out.le (by omega) h1 hk.2.1))
      · go_wp2
        rw [HQZ.out]
        obtain ⟨S, hne, f, hf1, hf2⟩ := grown_class wr
        have q1 : ∀ u, (f u).cell? ⟨g, pq, none⟩ = some (.string X) := fun u => cell_keep (hf2 u) c1
        have q2 : ∀ u, (f u).cell? ⟨g, q, none⟩ = some (.string Y) := fun u => cell_keep (hf2 u) c2
        have HF1 := Lib.hid hf1
        have HF2 := Lib.hid hf2
        clear hf1 hf2
        refine region_quiet_f f (by kernel_rfl) (HF1.out _ (below_drew1 (Below.refl _ _))) ?_
        repeat (go_big_quiet_step ((go_at_call 21; refine (compare_v X Y V HCV.out (by omega) (by omega) _).mono ?_; rintro e w5 ⟨rfl, hB⟩; exact ⟨rfl, HF1.out _ (below_then (HF2.out _) (HF2.out _).size hB)⟩)))
        refine wpQuiet_nil ?_
        rintro W5 ⟨u, rfl⟩
        have HR5 := Lib.hid (HR.out.on (HF2.out u))
        generalize f u = W5 at *
        go_wp2
        rotate_left
        · exfalso
          rename_i hx
          simp at hx
          omega
        refine ⟨⟨q + 1, r, by simp <;> omega, rfl, by have := HQ.out; omega, by have := HQ.out; omega, hrr, Lib.hid fun k h1 h2 => ?_, HG, HR5⟩, by simp only [intOf]; have := HQ.out; omega⟩
        have hk := HRNG.out.2 k h1 (by have := HQ.out; omega)
        have e1 : pq ≤ nn - 1 - k := by have := HPQ.out; have := HP.out; omega
        exact le_tr (HSL.out.le hk.1 (by omega : k ≤ q) (by omega)) (le_tr (not_lt (by rw [HXY.out]; omega)) (HSR.out.le (by omega) e1 hk.2.2.2))
    · have hsre : s = r := by omega
      subst hsre
      have hlti : ¬ (s : Int) < s := by omega
      have hcr := cut_range (a := a) (m := m) (b := e) (mid := mid) (start := s) (r0 := r0) (s0 := s0) ham hme HMID.out.symm hss hrr HS0.out.symm HR0.out.symm
      rw [HNN.out] at hcr
      obtain ⟨en, hen⟩ : ∃ en, nn - s = en := ⟨_, rfl⟩
      rw [hen] at hcr
      have hwe : IntKind.i64.wrap ((nn : Int) - (s : Int)) = (en : Int) := i64_is (by omega) (by omega)
      have HCUT : Hid (Cut d a m e mid s r0 s0) := Lib.hid ⟨hss, hrr, by rw [HNN.out]; exact HL.out, by rw [HNN.out]; exact HG.out⟩
      have HEN : Hid (mid + m - s = en) := Lib.hid (by rw [HNN.out]; exact hen)
      obtain ⟨k1, k2, k3, k4, k5⟩ := hcr
      have k6 : mid ≤ en := by have := HEN.out; omega
      clear hen
      go_upto_region 39 with (fail)
      by_cases h1 : s < m
      · have h1i : (s : Int) < m := by omega
        by_cases h2 : m < en
        · have h2i : (m : Int) < en := by omega
          go_upto_region 41 with (go_at_call 99; refine (rotate_any w0 b g N c d s m en (.func (.func 21) #[] #[]) _ HR.out hN h1 h2 (by omega)).mono ?_; rintro e' w2 ⟨rfl, d1, hv, hs, hr⟩; (have HV2 := Lib.hid hv); (have HW1 := Lib.hid (hs.wide (a' := a) (b' := e) (by omega) (by omega))); (have HR1 := Lib.hid hr); clear hv hs hr)
          have hparts := cut_parts (d1 := d1) ham hme HMID.out.symm HCUT.out HS0.out.symm HR0.out.symm HSL.out HSR.out (by rw [HEN.out]; exact HV2.out)
          rw [HEN.out] at hparts
          have HPA := Lib.hid hparts
          have l1 := (HR1).out.len
          clear hparts
          by_cases g1 : a < s
          · have g1i : (a : Int) < s := by omega
            by_cases g2 : s < mid
            · have g2i : (s : Int) < mid := by omega
              go_upto_region 43 with (go_at_call 93; refine (IH.out (mid - a) (by have := HZ.out; omega) a s mid d1 _ rfl (HR1).out g1 g2 (by omega) HPA.out.2.1 HPA.out.2.2.1).mono ?_; rintro e' w2 ⟨rfl, d2, hw, hs, hr⟩; (have HW2 := Lib.hid hw); (have HS2 := Lib.hid hs); (have HR2 := Lib.hid hr); clear hw hs hr)
              have hr1 : SoIn d2 mid en := fun i j q1 q2 q3 => by
                rw [(HW2.out).out (by omega) (Or.inr q1), (HW2.out).out (by omega) (Or.inr (by omega))]
                exact HPA.out.2.2.2.1 i j q1 q2 q3
              have hr2 : SoIn d2 en e := fun i j q1 q2 q3 => by
                rw [(HW2.out).out (by omega) (Or.inr (by omega)), (HW2.out).out (by omega) (Or.inr (by omega))]
                exact HPA.out.2.2.2.2 i j q1 q2 q3
              have HE1 := Lib.hid hr1
              have HE2 := Lib.hid hr2
              have HFIN : Hid (∀ d3, Sw mid e d2 d3 → SoIn d3 mid e → Sw a e d d3 ∧ SoIn d3 a e) := Lib.hid fun d3 q1 q2 =>
                ⟨((HW1.out).trans (Sw.wide (a' := a) (b' := e) (HW2.out) (by omega) (by omega))).trans (q1.wide (by omega) (by omega)), join_parts (d1 := d1) ham1 (by omega) (by omega) HPA.out.1 (HW2.out) (HS2.out) q1 q2⟩
              clear hr1 hr2
              by_cases t1 : mid < en
              · have t1i : (mid : Int) < en := by omega
                by_cases t2 : en < e
                · have t2i : (en : Int) < e := by omega
                  go_wp2_with (go_at_call 93; refine (IH.out (e - mid) (by have := HZ.out; omega) mid en e d2 _ rfl (HR2).out t1 t2 he HE1.out HE2.out).mono ?_; rintro e' w3 ⟨rfl, d3, hw, hs, hr⟩; (have HQ3 := Lib.hid (HFIN.out d3 hw hs)); (have HR3 := Lib.hid hr); clear hw hs hr)
                  go_end0
                  exact ⟨rfl, d3, HQ3.out.1, HQ3.out.2, HR3.out⟩
                · have t2i : ¬ (en : Int) < e := by omega
                  have hee : en = e := by omega
                  have HQ3 := Lib.hid (HFIN.out d2 (.refl _) (by have := HE1.out; rwa [hee] at this))
                  clear hee
                  go_wp2
                  go_end0
                  exact ⟨rfl, d2, HQ3.out.1, HQ3.out.2, (HR2).out⟩
              · have t1i : ¬ (mid : Int) < en := by omega
                have hee : en = mid := by omega
                have HQ3 := Lib.hid (HFIN.out d2 (.refl _) (by have := HE2.out; rwa [hee] at this))
                clear hee
                go_wp2
                go_end0
                exact ⟨rfl, d2, HQ3.out.1, HQ3.out.2, (HR2).out⟩
            · have g2i : ¬ (s : Int) < mid := by omega
              have hse : s = mid := by omega
              have HS2 : Hid (SoIn d1 a mid) := Lib.hid (by have := HPA.out.2.1; rwa [hse] at this)
              clear hse
              go_upto_region 43 with (fail)
              have hr1 : SoIn d1 mid en := fun i j q1 q2 q3 => by
                rw [(Sw.refl (a := a) (b := mid) d1).out (by omega) (Or.inr q1), (Sw.refl (a := a) (b := mid) d1).out (by omega) (Or.inr (by omega))]
                exact HPA.out.2.2.2.1 i j q1 q2 q3
              have hr2 : SoIn d1 en e := fun i j q1 q2 q3 => by
                rw [(Sw.refl (a := a) (b := mid) d1).out (by omega) (Or.inr (by omega)), (Sw.refl (a := a) (b := mid) d1).out (by omega) (Or.inr (by omega))]
                exact HPA.out.2.2.2.2 i j q1 q2 q3
              have HE1 := Lib.hid hr1
              have HE2 := Lib.hid hr2
              have HFIN : Hid (∀ d3, Sw mid e d1 d3 → SoIn d3 mid e → Sw a e d d3 ∧ SoIn d3 a e) := Lib.hid fun d3 q1 q2 =>
                ⟨((HW1.out).trans (Sw.wide (a' := a) (b' := e) (Sw.refl (a := a) (b := mid) d1) (by omega) (by omega))).trans (q1.wide (by omega) (by omega)), join_parts (d1 := d1) ham1 (by omega) (by omega) HPA.out.1 (Sw.refl (a := a) (b := mid) d1) (HS2.out) q1 q2⟩
              clear hr1 hr2
              by_cases t1 : mid < en
              · have t1i : (mid : Int) < en := by omega
                by_cases t2 : en < e
                · have t2i : (en : Int) < e := by omega
                  go_wp2_with (go_at_call 93; refine (IH.out (e - mid) (by have := HZ.out; omega) mid en e d1 _ rfl (HR1).out t1 t2 he HE1.out HE2.out).mono ?_; rintro e' w3 ⟨rfl, d3, hw, hs, hr⟩; (have HQ3 := Lib.hid (HFIN.out d3 hw hs)); (have HR3 := Lib.hid hr); clear hw hs hr)
                  go_end0
                  exact ⟨rfl, d3, HQ3.out.1, HQ3.out.2, HR3.out⟩
                · have t2i : ¬ (en : Int) < e := by omega
                  have hee : en = e := by omega
                  have HQ3 := Lib.hid (HFIN.out d1 (.refl _) (by have := HE1.out; rwa [hee] at this))
                  clear hee
                  go_wp2
                  go_end0
                  exact ⟨rfl, d1, HQ3.out.1, HQ3.out.2, (HR1).out⟩
              · have t1i : ¬ (mid : Int) < en := by omega
                have hee : en = mid := by omega
                have HQ3 := Lib.hid (HFIN.out d1 (.refl _) (by have := HE2.out; rwa [hee] at this))
                clear hee
                go_wp2
                go_end0
                exact ⟨rfl, d1, HQ3.out.1, HQ3.out.2, (HR1).out⟩
          · have g1i : ¬ (a : Int) < s := by omega
            have hse : s = a := by omega
            have HS2 : Hid (SoIn d1 a mid) := Lib.hid (by have := HPA.out.2.2.1; rwa [hse] at this)
            clear hse
            go_upto_region 43 with (fail)
            have hr1 : SoIn d1 mid en := fun i j q1 q2 q3 => by
              rw [(Sw.refl (a := a) (b := mid) d1).out (by omega) (Or.inr q1), (Sw.refl (a := a) (b := mid) d1).out (by omega) (Or.inr (by omega))]
              exact HPA.out.2.2.2.1 i j q1 q2 q3
            have hr2 : SoIn d1 en e := fun i j q1 q2 q3 => by
              rw [(Sw.refl (a := a) (b := mid) d1).out (by omega) (Or.inr (by omega)), (Sw.refl (a := a) (b := mid) d1).out (by omega) (Or.inr (by omega))]
              exact HPA.out.2.2.2.2 i j q1 q2 q3
            have HE1 := Lib.hid hr1
            have HE2 := Lib.hid hr2
            have HFIN : Hid (∀ d3, Sw mid e d1 d3 → SoIn d3 mid e → Sw a e d d3 ∧ SoIn d3 a e) := Lib.hid fun d3 q1 q2 =>
              ⟨((HW1.out).trans (Sw.wide (a' := a) (b' := e) (Sw.refl (a := a) (b := mid) d1) (by omega) (by omega))).trans (q1.wide (by omega) (by omega)), join_parts (d1 := d1) ham1 (by omega) (by omega) HPA.out.1 (Sw.refl (a := a) (b := mid) d1) (HS2.out) q1 q2⟩
            clear hr1 hr2
            by_cases t1 : mid < en
            · have t1i : (mid : Int) < en := by omega
              by_cases t2 : en < e
              · have t2i : (en : Int) < e := by omega
                go_wp2_with (go_at_call 93; refine (IH.out (e - mid) (by have := HZ.out; omega) mid en e d1 _ rfl (HR1).out t1 t2 he HE1.out HE2.out).mono ?_; rintro e' w3 ⟨rfl, d3, hw, hs, hr⟩; (have HQ3 := Lib.hid (HFIN.out d3 hw hs)); (have HR3 := Lib.hid hr); clear hw hs hr)
                go_end0
                exact ⟨rfl, d3, HQ3.out.1, HQ3.out.2, HR3.out⟩
              · have t2i : ¬ (en : Int) < e := by omega
                have hee : en = e := by omega
                have HQ3 := Lib.hid (HFIN.out d1 (.refl _) (by have := HE1.out; rwa [hee] at this))
                clear hee
                go_wp2
                go_end0
                exact ⟨rfl, d1, HQ3.out.1, HQ3.out.2, (HR1).out⟩
            · have t1i : ¬ (mid : Int) < en := by omega
              have hee : en = mid := by omega
              have HQ3 := Lib.hid (HFIN.out d1 (.refl _) (by have := HE2.out; rwa [hee] at this))
              clear hee
              go_wp2
              go_end0
              exact ⟨rfl, d1, HQ3.out.1, HQ3.out.2, (HR1).out⟩
        · have h2i : ¬ (m : Int) < en := by omega
          have HV2 : Hid (∀ k, gS d k = rotF (gS d) s m en k) := Lib.hid (rot_id (fun hq => h2 hq.2) k1 k5)
          go_upto_region 41 with (fail)
          have hparts := cut_parts (d1 := d) ham hme HMID.out.symm HCUT.out HS0.out.symm HR0.out.symm HSL.out HSR.out (by rw [HEN.out]; exact HV2.out)
          rw [HEN.out] at hparts
          have HPA := Lib.hid hparts
          have l1 := (HR).out.len
          clear hparts
          by_cases g1 : a < s
          · have g1i : (a : Int) < s := by omega
            by_cases g2 : s < mid
            · have g2i : (s : Int) < mid := by omega
              go_upto_region 43 with (go_at_call 93; refine (IH.out (mid - a) (by have := HZ.out; omega) a s mid d _ rfl (HR).out g1 g2 (by omega) HPA.out.2.1 HPA.out.2.2.1).mono ?_; rintro e' w2 ⟨rfl, d2, hw, hs, hr⟩; (have HW2 := Lib.hid hw); (have HS2 := Lib.hid hs); (have HR2 := Lib.hid hr); clear hw hs hr)
              have hr1 : SoIn d2 mid en := fun i j q1 q2 q3 => by
                rw [(HW2.out).out (by omega) (Or.inr q1), (HW2.out).out (by omega) (Or.inr (by omega))]
                exact HPA.out.2.2.2.1 i j q1 q2 q3
              have hr2 : SoIn d2 en e := fun i j q1 q2 q3 => by
                rw [(HW2.out).out (by omega) (Or.inr (by omega)), (HW2.out).out (by omega) (Or.inr (by omega))]
                exact HPA.out.2.2.2.2 i j q1 q2 q3
              have HE1 := Lib.hid hr1
              have HE2 := Lib.hid hr2
              have HFIN : Hid (∀ d3, Sw mid e d2 d3 → SoIn d3 mid e → Sw a e d d3 ∧ SoIn d3 a e) := Lib.hid fun d3 q1 q2 =>
                ⟨((Sw.refl (a := a) (b := e) d).trans (Sw.wide (a' := a) (b' := e) (HW2.out) (by omega) (by omega))).trans (q1.wide (by omega) (by omega)), join_parts (d1 := d) ham1 (by omega) (by omega) HPA.out.1 (HW2.out) (HS2.out) q1 q2⟩
              clear hr1 hr2
              by_cases t1 : mid < en
              · have t1i : (mid : Int) < en := by omega
                by_cases t2 : en < e
                · have t2i : (en : Int) < e := by omega
                  go_wp2_with (go_at_call 93; refine (IH.out (e - mid) (by have := HZ.out; omega) mid en e d2 _ rfl (HR2).out t1 t2 he HE1.out HE2.out).mono ?_; rintro e' w3 ⟨rfl, d3, hw, hs, hr⟩; (have HQ3 := Lib.hid (HFIN.out d3 hw hs)); (have HR3 := Lib.hid hr); clear hw hs hr)
                  go_end0
                  exact ⟨rfl, d3, HQ3.out.1, HQ3.out.2, HR3.out⟩
                · have t2i : ¬ (en : Int) < e := by omega
                  have hee : en = e := by omega
                  have HQ3 := Lib.hid (HFIN.out d2 (.refl _) (by have := HE1.out; rwa [hee] at this))
                  clear hee
                  go_wp2
                  go_end0
                  exact ⟨rfl, d2, HQ3.out.1, HQ3.out.2, (HR2).out⟩
              · have t1i : ¬ (mid : Int) < en := by omega
                have hee : en = mid := by omega
                have HQ3 := Lib.hid (HFIN.out d2 (.refl _) (by have := HE2.out; rwa [hee] at this))
                clear hee
                go_wp2
                go_end0
                exact ⟨rfl, d2, HQ3.out.1, HQ3.out.2, (HR2).out⟩
            · have g2i : ¬ (s : Int) < mid := by omega
              have hse : s = mid := by omega
              have HS2 : Hid (SoIn d a mid) := Lib.hid (by have := HPA.out.2.1; rwa [hse] at this)
              clear hse
              go_upto_region 43 with (fail)
              have hr1 : SoIn d mid en := fun i j q1 q2 q3 => by
                rw [(Sw.refl (a := a) (b := mid) d).out (by omega) (Or.inr q1), (Sw.refl (a := a) (b := mid) d).out (by omega) (Or.inr (by omega))]
                exact HPA.out.2.2.2.1 i j q1 q2 q3
              have hr2 : SoIn d en e := fun i j q1 q2 q3 => by
                rw [(Sw.refl (a := a) (b := mid) d).out (by omega) (Or.inr (by omega)), (Sw.refl (a := a) (b := mid) d).out (by omega) (Or.inr (by omega))]
                exact HPA.out.2.2.2.2 i j q1 q2 q3
              have HE1 := Lib.hid hr1
              have HE2 := Lib.hid hr2
              have HFIN : Hid (∀ d3, Sw mid e d d3 → SoIn d3 mid e → Sw a e d d3 ∧ SoIn d3 a e) := Lib.hid fun d3 q1 q2 =>
                ⟨((Sw.refl (a := a) (b := e) d).trans (Sw.wide (a' := a) (b' := e) (Sw.refl (a := a) (b := mid) d) (by omega) (by omega))).trans (q1.wide (by omega) (by omega)), join_parts (d1 := d) ham1 (by omega) (by omega) HPA.out.1 (Sw.refl (a := a) (b := mid) d) (HS2.out) q1 q2⟩
              clear hr1 hr2
              by_cases t1 : mid < en
              · have t1i : (mid : Int) < en := by omega
                by_cases t2 : en < e
                · have t2i : (en : Int) < e := by omega
                  go_wp2_with (go_at_call 93; refine (IH.out (e - mid) (by have := HZ.out; omega) mid en e d _ rfl (HR).out t1 t2 he HE1.out HE2.out).mono ?_; rintro e' w3 ⟨rfl, d3, hw, hs, hr⟩; (have HQ3 := Lib.hid (HFIN.out d3 hw hs)); (have HR3 := Lib.hid hr); clear hw hs hr)
                  go_end0
                  exact ⟨rfl, d3, HQ3.out.1, HQ3.out.2, HR3.out⟩
                · have t2i : ¬ (en : Int) < e := by omega
                  have hee : en = e := by omega
                  have HQ3 := Lib.hid (HFIN.out d (.refl _) (by have := HE1.out; rwa [hee] at this))
                  clear hee
                  go_wp2
                  go_end0
                  exact ⟨rfl, d, HQ3.out.1, HQ3.out.2, (HR).out⟩
              · have t1i : ¬ (mid : Int) < en := by omega
                have hee : en = mid := by omega
                have HQ3 := Lib.hid (HFIN.out d (.refl _) (by have := HE2.out; rwa [hee] at this))
                clear hee
                go_wp2
                go_end0
                exact ⟨rfl, d, HQ3.out.1, HQ3.out.2, (HR).out⟩
          · have g1i : ¬ (a : Int) < s := by omega
            have hse : s = a := by omega
            have HS2 : Hid (SoIn d a mid) := Lib.hid (by have := HPA.out.2.2.1; rwa [hse] at this)
            clear hse
            go_upto_region 43 with (fail)
            have hr1 : SoIn d mid en := fun i j q1 q2 q3 => by
              rw [(Sw.refl (a := a) (b := mid) d).out (by omega) (Or.inr q1), (Sw.refl (a := a) (b := mid) d).out (by omega) (Or.inr (by omega))]
              exact HPA.out.2.2.2.1 i j q1 q2 q3
            have hr2 : SoIn d en e := fun i j q1 q2 q3 => by
              rw [(Sw.refl (a := a) (b := mid) d).out (by omega) (Or.inr (by omega)), (Sw.refl (a := a) (b := mid) d).out (by omega) (Or.inr (by omega))]
              exact HPA.out.2.2.2.2 i j q1 q2 q3
            have HE1 := Lib.hid hr1
            have HE2 := Lib.hid hr2
            have HFIN : Hid (∀ d3, Sw mid e d d3 → SoIn d3 mid e → Sw a e d d3 ∧ SoIn d3 a e) := Lib.hid fun d3 q1 q2 =>
              ⟨((Sw.refl (a := a) (b := e) d).trans (Sw.wide (a' := a) (b' := e) (Sw.refl (a := a) (b := mid) d) (by omega) (by omega))).trans (q1.wide (by omega) (by omega)), join_parts (d1 := d) ham1 (by omega) (by omega) HPA.out.1 (Sw.refl (a := a) (b := mid) d) (HS2.out) q1 q2⟩
            clear hr1 hr2
            by_cases t1 : mid < en
            · have t1i : (mid : Int) < en := by omega
              by_cases t2 : en < e
              · have t2i : (en : Int) < e := by omega
                go_wp2_with (go_at_call 93; refine (IH.out (e - mid) (by have := HZ.out; omega) mid en e d _ rfl (HR).out t1 t2 he HE1.out HE2.out).mono ?_; rintro e' w3 ⟨rfl, d3, hw, hs, hr⟩; (have HQ3 := Lib.hid (HFIN.out d3 hw hs)); (have HR3 := Lib.hid hr); clear hw hs hr)
                go_end0
                exact ⟨rfl, d3, HQ3.out.1, HQ3.out.2, HR3.out⟩
              · have t2i : ¬ (en : Int) < e := by omega
                have hee : en = e := by omega
                have HQ3 := Lib.hid (HFIN.out d (.refl _) (by have := HE1.out; rwa [hee] at this))
                clear hee
                go_wp2
                go_end0
                exact ⟨rfl, d, HQ3.out.1, HQ3.out.2, (HR).out⟩
            · have t1i : ¬ (mid : Int) < en := by omega
              have hee : en = mid := by omega
              have HQ3 := Lib.hid (HFIN.out d (.refl _) (by have := HE2.out; rwa [hee] at this))
              clear hee
              go_wp2
              go_end0
              exact ⟨rfl, d, HQ3.out.1, HQ3.out.2, (HR).out⟩
      · have h1i : ¬ (s : Int) < m := by omega
        have HV2 : Hid (∀ k, gS d k = rotF (gS d) s m en k) := Lib.hid (rot_id (fun hq => h1 hq.1) k1 k5)
        go_upto_region 41 with (fail)
        have hparts := cut_parts (d1 := d) ham hme HMID.out.symm HCUT.out HS0.out.symm HR0.out.symm HSL.out HSR.out (by rw [HEN.out]; exact HV2.out)
        rw [HEN.out] at hparts
        have HPA := Lib.hid hparts
        have l1 := (HR).out.len
        clear hparts
        by_cases g1 : a < s
        · have g1i : (a : Int) < s := by omega
          by_cases g2 : s < mid
          · have g2i : (s : Int) < mid := by omega
            go_upto_region 43 with (go_at_call 93; refine (IH.out (mid - a) (by have := HZ.out; omega) a s mid d _ rfl (HR).out g1 g2 (by omega) HPA.out.2.1 HPA.out.2.2.1).mono ?_; rintro e' w2 ⟨rfl, d2, hw, hs, hr⟩; (have HW2 := Lib.hid hw); (have HS2 := Lib.hid hs); (have HR2 := Lib.hid hr); clear hw hs hr)
            have hr1 : SoIn d2 mid en := fun i j q1 q2 q3 => by
              rw [(HW2.out).out (by omega) (Or.inr q1), (HW2.out).out (by omega) (Or.inr (by omega))]
              exact HPA.out.2.2.2.1 i j q1 q2 q3
            have hr2 : SoIn d2 en e := fun i j q1 q2 q3 => by
              rw [(HW2.out).out (by omega) (Or.inr (by omega)), (HW2.out).out (by omega) (Or.inr (by omega))]
              exact HPA.out.2.2.2.2 i j q1 q2 q3
            have HE1 := Lib.hid hr1
            have HE2 := Lib.hid hr2
            have HFIN : Hid (∀ d3, Sw mid e d2 d3 → SoIn d3 mid e → Sw a e d d3 ∧ SoIn d3 a e) := Lib.hid fun d3 q1 q2 =>
              ⟨((Sw.refl (a := a) (b := e) d).trans (Sw.wide (a' := a) (b' := e) (HW2.out) (by omega) (by omega))).trans (q1.wide (by omega) (by omega)), join_parts (d1 := d) ham1 (by omega) (by omega) HPA.out.1 (HW2.out) (HS2.out) q1 q2⟩
            clear hr1 hr2
            by_cases t1 : mid < en
            · have t1i : (mid : Int) < en := by omega
              by_cases t2 : en < e
              · have t2i : (en : Int) < e := by omega
                go_wp2_with (go_at_call 93; refine (IH.out (e - mid) (by have := HZ.out; omega) mid en e d2 _ rfl (HR2).out t1 t2 he HE1.out HE2.out).mono ?_; rintro e' w3 ⟨rfl, d3, hw, hs, hr⟩; (have HQ3 := Lib.hid (HFIN.out d3 hw hs)); (have HR3 := Lib.hid hr); clear hw hs hr)
                go_end0
                exact ⟨rfl, d3, HQ3.out.1, HQ3.out.2, HR3.out⟩
              · have t2i : ¬ (en : Int) < e := by omega
                have hee : en = e := by omega
                have HQ3 := Lib.hid (HFIN.out d2 (.refl _) (by have := HE1.out; rwa [hee] at this))
                clear hee
                go_wp2
                go_end0
                exact ⟨rfl, d2, HQ3.out.1, HQ3.out.2, (HR2).out⟩
            · have t1i : ¬ (mid : Int) < en := by omega
              have hee : en = mid := by omega
              have HQ3 := Lib.hid (HFIN.out d2 (.refl _) (by have := HE2.out; rwa [hee] at this))
              clear hee
              go_wp2
              go_end0
              exact ⟨rfl, d2, HQ3.out.1, HQ3.out.2, (HR2).out⟩
          · have g2i : ¬ (s : Int) < mid := by omega
            have hse : s = mid := by omega
            have HS2 : Hid (SoIn d a mid) := Lib.hid (by have := HPA.out.2.1; rwa [hse] at this)
            clear hse
            go_upto_region 43 with (fail)
            have hr1 : SoIn d mid en := fun i j q1 q2 q3 => by
              rw [(Sw.refl (a := a) (b := mid) d).out (by omega) (Or.inr q1), (Sw.refl (a := a) (b := mid) d).out (by omega) (Or.inr (by omega))]
              exact HPA.out.2.2.2.1 i j q1 q2 q3
            have hr2 : SoIn d en e := fun i j q1 q2 q3 => by
              rw [(Sw.refl (a := a) (b := mid) d).out (by omega) (Or.inr (by omega)), (Sw.refl (a := a) (b := mid) d).out (by omega) (Or.inr (by omega))]
              exact HPA.out.2.2.2.2 i j q1 q2 q3
            have HE1 := Lib.hid hr1
            have HE2 := Lib.hid hr2
            have HFIN : Hid (∀ d3, Sw mid e d d3 → SoIn d3 mid e → Sw a e d d3 ∧ SoIn d3 a e) := Lib.hid fun d3 q1 q2 =>
              ⟨((Sw.refl (a := a) (b := e) d).trans (Sw.wide (a' := a) (b' := e) (Sw.refl (a := a) (b := mid) d) (by omega) (by omega))).trans (q1.wide (by omega) (by omega)), join_parts (d1 := d) ham1 (by omega) (by omega) HPA.out.1 (Sw.refl (a := a) (b := mid) d) (HS2.out) q1 q2⟩
            clear hr1 hr2
            by_cases t1 : mid < en
            · have t1i : (mid : Int) < en := by omega
              by_cases t2 : en < e
              · have t2i : (en : Int) < e := by omega
                go_wp2_with (go_at_call 93; refine (IH.out (e - mid) (by have := HZ.out; omega) mid en e d _ rfl (HR).out t1 t2 he HE1.out HE2.out).mono ?_; rintro e' w3 ⟨rfl, d3, hw, hs, hr⟩; (have HQ3 := Lib.hid (HFIN.out d3 hw hs)); (have HR3 := Lib.hid hr); clear hw hs hr)
                go_end0
                exact ⟨rfl, d3, HQ3.out.1, HQ3.out.2, HR3.out⟩
              · have t2i : ¬ (en : Int) < e := by omega
                have hee : en = e := by omega
                have HQ3 := Lib.hid (HFIN.out d (.refl _) (by have := HE1.out; rwa [hee] at this))
                clear hee
                go_wp2
                go_end0
                exact ⟨rfl, d, HQ3.out.1, HQ3.out.2, (HR).out⟩
            · have t1i : ¬ (mid : Int) < en := by omega
              have hee : en = mid := by omega
              have HQ3 := Lib.hid (HFIN.out d (.refl _) (by have := HE2.out; rwa [hee] at this))
              clear hee
              go_wp2
              go_end0
              exact ⟨rfl, d, HQ3.out.1, HQ3.out.2, (HR).out⟩
        · have g1i : ¬ (a : Int) < s := by omega
          have hse : s = a := by omega
          have HS2 : Hid (SoIn d a mid) := Lib.hid (by have := HPA.out.2.2.1; rwa [hse] at this)
          clear hse
          go_upto_region 43 with (fail)
          have hr1 : SoIn d mid en := fun i j q1 q2 q3 => by
            rw [(Sw.refl (a := a) (b := mid) d).out (by omega) (Or.inr q1), (Sw.refl (a := a) (b := mid) d).out (by omega) (Or.inr (by omega))]
            exact HPA.out.2.2.2.1 i j q1 q2 q3
          have hr2 : SoIn d en e := fun i j q1 q2 q3 => by
            rw [(Sw.refl (a := a) (b := mid) d).out (by omega) (Or.inr (by omega)), (Sw.refl (a := a) (b := mid) d).out (by omega) (Or.inr (by omega))]
            exact HPA.out.2.2.2.2 i j q1 q2 q3
          have HE1 := Lib.hid hr1
          have HE2 := Lib.hid hr2
          have HFIN : Hid (∀ d3, Sw mid e d d3 → SoIn d3 mid e → Sw a e d d3 ∧ SoIn d3 a e) := Lib.hid fun d3 q1 q2 =>
            ⟨((Sw.refl (a := a) (b := e) d).trans (Sw.wide (a' := a) (b' := e) (Sw.refl (a := a) (b := mid) d) (by omega) (by omega))).trans (q1.wide (by omega) (by omega)), join_parts (d1 := d) ham1 (by omega) (by omega) HPA.out.1 (Sw.refl (a := a) (b := mid) d) (HS2.out) q1 q2⟩
          clear hr1 hr2
          by_cases t1 : mid < en
          · have t1i : (mid : Int) < en := by omega
            by_cases t2 : en < e
            · have t2i : (en : Int) < e := by omega
              go_wp2_with (go_at_call 93; refine (IH.out (e - mid) (by have := HZ.out; omega) mid en e d _ rfl (HR).out t1 t2 he HE1.out HE2.out).mono ?_; rintro e' w3 ⟨rfl, d3, hw, hs, hr⟩; (have HQ3 := Lib.hid (HFIN.out d3 hw hs)); (have HR3 := Lib.hid hr); clear hw hs hr)
              go_end0
              exact ⟨rfl, d3, HQ3.out.1, HQ3.out.2, HR3.out⟩
            · have t2i : ¬ (en : Int) < e := by omega
              have hee : en = e := by omega
              have HQ3 := Lib.hid (HFIN.out d (.refl _) (by have := HE1.out; rwa [hee] at this))
              clear hee
              go_wp2
              go_end0
              exact ⟨rfl, d, HQ3.out.1, HQ3.out.2, (HR).out⟩
          · have t1i : ¬ (mid : Int) < en := by omega
            have hee : en = mid := by omega
            have HQ3 := Lib.hid (HFIN.out d (.refl _) (by have := HE2.out; rwa [hee] at this))
            clear hee
            go_wp2
            go_end0
            exact ⟨rfl, d, HQ3.out.1, HQ3.out.2, (HR).out⟩
end Go.Proofs.YtmbdiimenmnfjaaDoor
/- Walks: the library's stable sorting of strings; Sort; the document's Sort; lists that are equal. -/
namespace Go.Proofs.YtmbdiimenmnfjaaDoor
open Go.RowKit Go.Deep
open Go.BigFrame
set_option linter.unusedVariables false
set_option linter.unusedSimpArgs false

set_option maxRecDepth 100000 in
set_option maxHeartbeats 8000000 in
theorem stable_any (w0 : World) (b g N c : Nat) (d : List ByteArray) (w : World) (h : SR w0 b g N c d w) (hN : N ≤ 30) :
    Calls Tryd.prog 85 #[.slice (some ⟨g, 0, none⟩) N c, .int .i64 N, (.func (.func 21) #[] #[])] w fun e' w' => e' = .returned (.tuple #[]) ∧ ∃ d', Sw 0 N d d' ∧ SoIn d' 0 N ∧ SR w0 b g N c d' w' := by
  have H := Lib.hid h
  clear h
  go_enter Tryd.func85, Tryd.ntmps85
  go_wp2
  go_loopw [7, 8] (fun v1 v2 W => ∃ (k : Nat) (dk : List ByteArray), k ≤ 1 ∧ v1 = .int .i64 ((20 * k : Nat) : Int) ∧ v2 = .int .i64 ((20 * k + 20 : Nat) : Int) ∧ 20 * k ≤ N ∧ Hid (SoIn dk 0 (20 * k)) ∧ Hid (Sw 0 N d dk) ∧ Hid (SR w0 b g N c dk W)) (fun v1 _ _ => 40 - (intOf v1).toNat)
  case atStart => exact ⟨0, d, by omega, by simp, by simp, by omega, Lib.hid fun p q _ _ _ => by omega, Lib.hid (.refl d), H⟩
  case round =>
    obtain ⟨k, dk, hk, rfl, rfl, hkN, HO, HW, HR⟩ := hrel
    clear H
    by_cases hlt : 20 * k + 20 ≤ N
    · obtain rfl : k = 0 := by omega
      have hlti : (20 : Int) ≤ N := by omega
      go_wp2_with (go_at_call 92; refine (insertion_any w0 b g N c dk 0 20 _ HR.out (by omega) (by omega) (by omega)).mono ?_; rintro e' w2 ⟨rfl, d2, hw, hs, hr⟩; (have HW2 := Lib.hid hw); (have HS2 := Lib.hid hs); (have HR2 := Lib.hid hr); clear hw hs hr)
      exact ⟨⟨1, d2, by omega, by simp, by simp, by omega, HS2, Lib.hid (HW.out.trans (HW2.out.wide (by omega) (by omega))), HR2⟩, by simp only [intOf]; omega⟩
    · by_cases hk0 : k = 0
      · subst hk0
        have hlti : ¬ (20 : Int) ≤ N := by omega
        have hl2 : ¬ (20 : Int) < N := by omega
        go_wp2_with (go_at_call 92; refine (insertion_any w0 b g N c dk 0 N _ HR.out (by omega) (by omega) (by omega)).mono ?_; rintro e' w2 ⟨rfl, d2, hw, hs, hr⟩; (have HW2 := Lib.hid hw); (have HS2 := Lib.hid hs); (have HR2 := Lib.hid hr); clear hw hs hr)
        go_loopw [6] (fun v W => v = .int .i64 20 ∧ Hid (SR w0 b g N c d2 W)) (fun _ _ => 0)
        case atStart => exact ⟨rfl, HR2⟩
        case round =>
          obtain ⟨rfl, HR3⟩ := hrel
          go_wp2
          go_end0
          exact ⟨rfl, d2, HW.out.trans HW2.out, HS2.out, HR3.out⟩
      · obtain rfl : k = 1 := by omega
        have hlti : ¬ (40 : Int) ≤ N := by omega
        go_wp2_with (go_at_call 92; refine (insertion_any w0 b g N c dk 20 N _ HR.out (by omega) (by omega) (by omega)).mono ?_; rintro e' w2 ⟨rfl, d2, hw, hs, hr⟩; (have HW2 := Lib.hid hw); (have HS2 := Lib.hid hs); (have HR2 := Lib.hid hr); clear hw hs hr)
        have hln := HR.out.len
        have hso1 : SoIn d2 0 20 := fun p q q1 q2 q3 => by
          rw [HW2.out.out (by omega) (Or.inl (by omega)), HW2.out.out (by omega) (Or.inl (by omega))]
          exact HO.out p q q1 q2 (by omega)
        have HS1 := Lib.hid hso1
        have HW3 := Lib.hid (HW.out.trans (HW2.out.wide (a' := 0) (b' := N) (by omega) (by omega)))
        clear hso1 HW2 HW HO HR hln
        go_loopw [6] (fun v W => ∃ d3, ((v = .int .i64 20 ∧ Hid (SoIn d3 0 20) ∧ Hid (SoIn d3 20 N)) ∨ (v = .int .i64 40 ∧ Hid (SoIn d3 0 N))) ∧ Hid (Sw 0 N d d3) ∧ Hid (SR w0 b g N c d3 W)) (fun v _ => 40 - (intOf v).toNat)
        case atStart => exact ⟨d2, Or.inl ⟨rfl, HS1, HS2⟩, HW3, HR2⟩
        case round =>
          clear HS1 HS2 HW3 HR2
          obtain ⟨d3, hd, HW, HR⟩ := hrel
          rcases hd with ⟨rfl, HS1, HS2⟩ | ⟨rfl, HS1⟩
          · by_cases h20 : 20 < N
            · have h20i : (20 : Int) < N := by omega
              go_wp2
              go_loopw [7, 8] (fun v1 v2 W => v1 = .int .i64 0 ∧ v2 = .int .i64 40 ∧ Hid (SR w0 b g N c d3 W)) (fun _ _ _ => 0)
              case atStart => exact ⟨rfl, rfl, HR⟩
              case round =>
                clear HR
                obtain ⟨rfl, rfl, HR⟩ := hrel
                go_wp2_with (go_at_call 93; refine (symMerge_any w0 b g N c (by omega) (N - 0) 0 20 N d3 _ rfl HR.out (by omega) h20 (by omega) HS1.out HS2.out).mono ?_; rintro e' w4 ⟨rfl, d4, hw, hs, hr⟩; (have HW4 := Lib.hid hw); (have HS4 := Lib.hid hs); (have HR4 := Lib.hid hr); clear hw hs hr)
                exact ⟨⟨d4, Or.inr ⟨rfl, HS4⟩, Lib.hid (HW.out.trans HW4.out), HR4⟩, by simp only [intOf]; omega⟩
            · have h20i : ¬ (20 : Int) < N := by omega
              have hso : SoIn d3 0 N := fun p q q1 q2 q3 => HS1.out p q q1 q2 (by omega)
              have HSO := Lib.hid hso
              clear hso
              go_wp2
              go_end0
              exact ⟨rfl, d3, HW.out, HSO.out, HR.out⟩
          · have h40i : ¬ (40 : Int) < N := by omega
            go_wp2
            go_end0
            exact ⟨rfl, d3, HW.out, HS1.out, HR.out⟩
end Go.Proofs.YtmbdiimenmnfjaaDoor
/- Walks: Sort; the document's Sort; lists that are equal. -/
namespace Go.Proofs.YtmbdiimenmnfjaaDoor
open Go.RowKit Go.Deep
open Go.BigFrame
set_option linter.unusedVariables false
set_option linter.unusedSimpArgs false

theorem stable_none (v : Value) (w : World) : Calls Tryd.prog 85 #[v, .int .i64 0, (.func (.func 21) #[] #[])] w fun e' w' => e' = .returned (.tuple #[]) ∧ w' = w := by
  go_enter Tryd.func85, Tryd.ntmps85
  go_wp2
  go_loopw [7, 8] (fun v1 v2 W => v1 = .int .i64 0 ∧ v2 = .int .i64 20 ∧ W = w) (fun _ _ _ => 0)
  case atStart => exact ⟨rfl, rfl, rfl⟩
  case round =>
    obtain ⟨rfl, rfl, rfl⟩ := hrel
    go_wp2_with (go_at_call 92; refine (insertion_none v (.func (.func 21) #[] #[]) 0 0 _ (by omega) (by omega)).mono ?_; rintro e' w2 ⟨rfl, rfl⟩)
    go_loopw [6] (fun v W => v = .int .i64 20 ∧ W = w2) (fun _ _ => 0)
    case atStart => exact ⟨rfl, rfl⟩
    case round =>
      obtain ⟨rfl, rfl⟩ := hrel
      go_wp2
      go_end0
      exact ⟨rfl, rfl⟩

/-- A row that is sorted in place. -/
structure SV (w0 : World) (A : Option Addr) (N c : Nat) (d : List ByteArray) (W : World) : Prop where
  bel : Below w0.heap.size w0 W
  len : d.length = N
  row : 0 < N → ∃ g, A = some ⟨g, 0, none⟩ ∧ SR w0 w0.heap.size g N c d W
theorem SR.rds {w0 W : World} {b g N c : Nat} {d : List ByteArray} (h : SR w0 b g N c d W) (hN : N ≤ 1000000) : RdS W (some ⟨g, 0, none⟩) N d := ⟨h.len, by omega, fun j hj => ⟨_, rfl, by rw [Addr.add_lit, Nat.zero_add]; exact h.cell hj⟩⟩
theorem SV.rds {w0 W : World} {A : Option Addr} {N c : Nat} {d : List ByteArray} (h : SV w0 A N c d W) (hN : N ≤ 1000000) : RdS W A N d := by
  by_cases h0 : 0 < N
  · obtain ⟨g, rfl, hr⟩ := h.row h0
    exact hr.rds hN
  · exact ⟨h.len, by omega, fun j hj => by omega⟩
theorem row_form {w W : World} {v : Value} {N : Nat} {l : List ByteArray} (h : W.ownsRow w.heap.size 9 1 v N (strV l)) (hB : Below w.heap.size w W) (hz : ∀ x ∈ l, x.size ≤ 400) : ∃ A c, v = .slice A N c ∧ N ≤ c ∧ SV w A N c l W := by
  have hl : l.length = N := by have := h.1; simpa [strV] using this
  by_cases h0 : 0 < N
  · obtain ⟨A, c, rfl, hnc⟩ := own_is_slice h
    refine ⟨A, c, rfl, hnc, hB, hl, fun _ => ?_⟩
    have hf := h.2
    rcases hf with ⟨h1, h2⟩ | ⟨g, cap, cur, h1, h2, h3, h4, h5, h6, h7⟩
    · simp only [Value.slice.injEq] at h1; omega
    · simp only [Value.slice.injEq] at h1
      obtain ⟨rfl, -, rfl⟩ := h1
      exact ⟨g, rfl, h, hB, hz⟩
  · obtain ⟨A, c, rfl, hnc⟩ := own_is_slice h
    exact ⟨A, c, rfl, hnc, hB, hl, fun h1 => absurd h1 h0⟩

set_option maxRecDepth 100000 in
set_option maxHeartbeats 8000000 in
theorem sortStable_any (w0 : World) (A : Option Addr) (N c : Nat) (d : List ByteArray) (w : World) (h : SV w0 A N c d w) (hN : N ≤ 30) :
    Calls Tryd.prog 67 #[.slice A N c, (.func (.func 21) #[] #[])] w fun e' w' => e' = .returned (.tuple #[]) ∧ ∃ d', d'.Perm d ∧ SoIn d' 0 N ∧ SV w0 A N c d' w' := by
  by_cases h0 : 0 < N
  · obtain ⟨g, rfl, hr⟩ := h.row h0
    have hl := h.len
    go_enter Tryd.func67, Tryd.ntmps67
    go_wp2_with (go_at_call 85; refine (stable_any w0 w0.heap.size g N c d _ hr hN).mono ?_; rintro e' w2 ⟨rfl, d2, hw, hs, hr2⟩)
    go_end0
    exact ⟨rfl, d2, hw.perm (by omega), hs, hr2.bel, hr2.len, fun _ => ⟨g, rfl, hr2⟩⟩
  · obtain rfl : N = 0 := by omega
    go_enter Tryd.func67, Tryd.ntmps67
    go_wp2_with (go_at_call 85; refine (stable_none _ _).mono ?_; rintro e' w2 ⟨rfl, rfl⟩)
    go_end0
    exact ⟨rfl, d, List.Perm.refl _, fun p q _ _ _ => by omega, h⟩

theorem clone_any (A : Option Addr) (c : Nat) (l : List ByteArray) (w : World) (hR : RdS w A l.length l) (hN : l.length ≤ 1000) (hz : ∀ x ∈ l, x.size ≤ 400) :
    Calls Tryd.prog 66 #[.slice A l.length c] w fun e w' => ∃ A' c', e = .returned (.slice A' l.length c') ∧ l.length ≤ c' ∧ SV w A' l.length c' l w' := by
  by_cases h0 : 0 < l.length
  · obtain ⟨ad, rfl, hc⟩ := hR.at_ 0 h0
    obtain ⟨b, off, sp⟩ := ad
    have hsp : sp = none := by
      cases sp with
      | none => rfl
      | some x =>
        exfalso
        unfold World.cell? at hc
        split at hc
        · simp [Addr.add] at hc
        · cases hc
    subst hsp
    refine (Tryd.slices_Clone_string b off l.length c l w (Nat.le_refl _) (by omega) fun j hj => ?_).mono ?_
    · obtain ⟨ad, e, h⟩ := hR.at_ j hj
      cases e
      rw [Addr.add_lit] at h
      exact h
    · rintro e w' ⟨v', rfl, hown, -, hB⟩
      rw [List.take_length] at hown
      obtain ⟨A', c', rfl, hnc, hsv⟩ := row_form hown hB hz
      exact ⟨A', c', rfl, hnc, hsv⟩
  · have hl : l = [] := List.eq_nil_of_length_eq_zero (by omega)
    subst hl
    cases A with
    | none =>
      refine (Tryd.slices_Clone_string_nil 0 c w).mono ?_
      rintro e w' ⟨rfl, rfl⟩
      exact ⟨none, 0, rfl, Nat.le_refl _, Below.refl _ _, rfl, fun h => absurd h (Nat.lt_irrefl 0)⟩
    | some a =>
      refine (Tryd.slices_Clone_string_zero a c w).mono ?_
      rintro e w' ⟨v', rfl, hown, -, hB⟩
      obtain ⟨A', c', rfl, hnc, hsv⟩ := row_form (l := []) hown hB hz
      exact ⟨A', c', rfl, hnc, hsv⟩

/-- What Sort hands back. -/
structure Got (w : World) (l : List ByteArray) (A : Option Addr) (c : Nat) (d : List ByteArray) (W : World) : Prop where
  cap : l.length ≤ c
  perm : d.Perm l
  so : SoIn d 0 l.length
  sv : SV w A l.length c d W

set_option maxRecDepth 100000 in
set_option maxHeartbeats 8000000 in
theorem sort_any (A : Option Addr) (n c : Nat) (l : List ByteArray) (hn : l.length = n) (w : World) (hR : RdS w A n l) (hN : n ≤ 30) (hz : ∀ x ∈ l, x.size ≤ 400) :
    Calls Tryd.prog 42 #[.slice A n c] w fun e w' => ∃ A' c' d', e = .returned (.slice A' n c') ∧ Got w l A' c' d' w' := by
  subst hn
  have HR := Lib.hid hR
  have HZ := Lib.hid hz
  clear hR hz
  go_enter Tryd.func42, Tryd.ntmps42
  go_wp2_with (first
    | ((have hgd := HS1); clear hgd; go_at_call 67; refine (sortStable_any w A1 l.length c1 l _ HS1.out hN).mono ?_; rintro e w2 ⟨rfl, d2, hp, hs, hv⟩; (have HS2 : Hid (Got w l A1 c1 d2 w2) := Lib.hid ⟨HC1.out, hp, hs, hv⟩); clear hp hs hv)
    | (go_at_call 66; refine (clone_any A c l _ HR.out (by omega) HZ.out).mono ?_; rintro e w1 ⟨A1, c1, rfl, hc, hv⟩; (have HS1 := Lib.hid hv); (have HC1 := Lib.hid hc); clear hc hv))
  go_ret
  exact ⟨A1, c1, d2, rfl, HS2.out⟩

theorem rcompare_v (X Y : ByteArray) (V : Int) (h : compareM X Y = V) (hX : X.size ≤ 400) (hY : Y.size ≤ 400) (w : World) : Calls Tryd.prog 22 #[.string X, .string Y] w fun e w' => e = .returned (.int .i64 V) ∧ Below w.heap.size w w' := by
  subst h
  exact rcompare_any X Y (by omega) (by omega) w

set_option maxRecDepth 100000 in
set_option maxHeartbeats 8000000 in
theorem rsort_any (A : Option Addr) (n c : Nat) (l : List ByteArray) (hn : l.length = n) (hA : A = none → c = 0) (w : World) (hR : RdS w A n l) (hc : n ≤ c) (hN : n ≤ 30) (hz : ∀ x ∈ l, x.size ≤ 400) :
    Calls Tryd.prog 43 #[.slice A n c] w fun e w' => ∃ A' c' d', e = .returned (.slice A' n c') ∧ Got w l A' c' d' w' := by
  subst hn
  obtain ⟨N, hNN⟩ : ∃ N, l.length = N := ⟨_, rfl⟩
  have HR := Lib.hid hR
  have HZ := Lib.hid hz
  have HA := Lib.hid hA
  have HNN := Lib.hid hNN
  rw [hNN] at hc hN
  clear hR hz hA
  go_enter Tryd.func43, Tryd.ntmps43
  rw [hNN]
  clear hNN
  go_upto_region 2 with (at_builtin; refine wpList_appS rfl _ _ rfl w.heap.size _ 0 [] rfl (own_noneS (Nat.le_refl _)) A N c l rfl (by have := HR.out.below (one_alloc w (.cells #[] 9)); rwa [HNN.out] at this) HA.out (by omega) (by simp) ?_; intro v1 w1 hown hgrow; (have HO1 : Hid (w1.ownsRow w.heap.size 9 1 v1 N (strV l)) := Lib.hid (by have h1 := hown; rw [List.nil_append, Nat.zero_add] at h1; exact h1)); (have HB1 := Lib.hid ((one_alloc w (.cells #[] 9)).grown hgrow (by simp) (fun kk hk => ((own_noneS (w0 := w) (Nat.le_refl _)).lt kk hk).1))); clear hown hgrow)
  obtain ⟨A1, c1, rfl, hc1, hsv⟩ := row_form HO1.out HB1.out HZ.out
  have HS1 := Lib.hid hsv
  clear hsv
  by_cases h0 : 0 < N
  · obtain ⟨g, rfl, hr⟩ := HS1.out.row h0
    have H := Lib.hid hr
    clear hr
    go_wp2
    go_loopw [4] (fun v W => ∃ (i : Nat) (dk : List ByteArray), v = .int .i64 i ∧ 1 ≤ i ∧ i ≤ N ∧ Hid (SoIn dk 0 i) ∧ Hid (Sw 0 N l dk) ∧ Hid (SR w w.heap.size g N c1 dk W)) (fun v _ => N - (intOf v).toNat)
    case atStart => exact ⟨1, l, by simp, by omega, by omega, Lib.hid fun p q _ _ _ => by omega, Lib.hid (.refl l), H⟩
    case round =>
      obtain ⟨i, dk, rfl, hai, hie, HO, HS, HR2⟩ := hrel
      clear H
      by_cases hlt : i < N
      · have hlti : (i : Int) < N := by omega
        go_wp2
        go_loopw [5] (fun v W => ∃ (j : Nat) (dj : List ByteArray), v = .int .i64 j ∧ j ≤ i ∧ Hid (InsI dj 0 i j) ∧ Hid (Sw 0 N l dj) ∧ Hid (SR w w.heap.size g N c1 dj W)) (fun v _ => (intOf v).toNat)
        case atStart => exact ⟨i, dk, rfl, by omega, Lib.hid (InsI.start HO.out), HS, HR2⟩
        case round =>
          clear HO HS HR2 HR
          obtain ⟨j, dj, rfl, hji, HI, HS, HR⟩ := hrel
          by_cases hja : 0 < j
          · obtain ⟨p, rfl⟩ : ∃ p, j = p + 1 := ⟨j - 1, by omega⟩
            obtain ⟨q, hq⟩ : ∃ q, p + 1 = q := ⟨_, rfl⟩
            have c1' := HR.out.cell (j := q) (by omega)
            have c2' := HR.out.cell (j := p) (by omega)
            have s1 := HR.out.gsz (j := q) (by omega)
            have s2 := HR.out.gsz (j := p) (by omega)
            obtain ⟨X, hX⟩ : ∃ X, gS dj q = X := ⟨_, rfl⟩
            obtain ⟨Y, hY⟩ : ∃ Y, gS dj p = Y := ⟨_, rfl⟩
            rw [hX] at c1' s1
            rw [hY] at c2' s2
            obtain ⟨V, hV⟩ : ∃ V, compareM Y X = V := ⟨_, rfl⟩
            have HCV := Lib.hid hV
            have HX := Lib.hid (And.intro hX hY)
            have HQ := Lib.hid hq
            have hqi : (q : Int) < N := by omega
            have hpi : (p : Int) < N := by omega
            have hqd : decide (0 < q) = true := decide_eq_true (by omega)
            have hwp : IntKind.i64.wrap ((q : Int) - 1) = (p : Int) := i64_is (by omega) (by omega)
            have ejn : ((p + 1 : Nat) : Int) = q := by omega
            rw [ejn]
            clear hV hX hY hq ejn
            by_cases hl : 0 < V
            · go_wp2
              obtain ⟨S, hne, f, hf1, hf2⟩ := grown_class wr
              have q1 : ∀ u, (f u).cell? ⟨g, q, none⟩ = some (.string X) := fun u => cell_keep (hf2 u) c1'
              have q2 : ∀ u, (f u).cell? ⟨g, p, none⟩ = some (.string Y) := fun u => cell_keep (hf2 u) c2'
              have HF1 := Lib.hid hf1
              have HF2 := Lib.hid hf2
              clear hf1 hf2
              refine region_quiet_f f (by kernel_rfl) (HF1.out _ (below_drew1 (Below.refl _ _))) ?_
              repeat (go_big_quiet_step ((go_at_call 22; refine (rcompare_v Y X V HCV.out (by omega) (by omega) _).mono ?_; rintro e w5 ⟨rfl, hB⟩; exact ⟨rfl, HF1.out _ (below_then (HF2.out _) (HF2.out _).size hB)⟩)))
              refine wpQuiet_nil ?_
              rintro W5 ⟨u, rfl⟩
              have HR5 := Lib.hid (HR.out.on (HF2.out u))
              generalize f u = W5 at *
              have g1 := (HR5.out.cell (j := q) (by omega)).trans (by rw [HX.out.1])
              have g2 := (HR5.out.cell (j := p) (by omega)).trans (by rw [HX.out.2])
              have g3 := HR5.out.fz
              have c3 : (W5.setCell ⟨g, q, none⟩ (.string Y)).cell? ⟨g, p, none⟩ = some (.string Y) := by rw [World.cell?_setCell_other _ _ _ _ (by have := HQ.out; simp <;> omega)]; exact g2
              clear q1 q2 c1' c2'
              go_wp2
              obtain ⟨W9, hW9⟩ : ∃ W', (W5.setCell ⟨g, q, none⟩ (.string Y)).setCell ⟨g, p, none⟩ (.string X) = W' := ⟨_, rfl⟩
              have HR9 := Lib.hid (HR5.out.sw (i := q) (j := p) (by omega) (by omega) HX.out.2 HX.out.1 hW9)
              rw [hW9]
              obtain rfl := HQ.out
              have hlq : compareM (gS dj (p + 1)) (gS dj (p + 1 - 1)) < 0 := by
                rw [Nat.add_sub_cancel, HX.out.1, HX.out.2]
                have h1 := HCV.out
                have h2 := cmpM_swap Y X
                omega
              exact ⟨⟨p, swS dj (p + 1) p, by simp, by omega, Lib.hid (InsI.step HI.out (j := p + 1) (by omega) hji (by have := HR.out.len; omega) hlq), Lib.hid (.step _ _ (by omega) (by omega) HS.out), HR9⟩, by simp only [intOf]; omega⟩
            · go_wp2
              obtain ⟨S, hne, f, hf1, hf2⟩ := grown_class wr
              have q1 : ∀ u, (f u).cell? ⟨g, q, none⟩ = some (.string X) := fun u => cell_keep (hf2 u) c1'
              have q2 : ∀ u, (f u).cell? ⟨g, p, none⟩ = some (.string Y) := fun u => cell_keep (hf2 u) c2'
              have HF1 := Lib.hid hf1
              have HF2 := Lib.hid hf2
              clear hf1 hf2
              refine region_quiet_f f (by kernel_rfl) (HF1.out _ (below_drew1 (Below.refl _ _))) ?_
              repeat (go_big_quiet_step ((go_at_call 22; refine (rcompare_v Y X V HCV.out (by omega) (by omega) _).mono ?_; rintro e w5 ⟨rfl, hB⟩; exact ⟨rfl, HF1.out _ (below_then (HF2.out _) (HF2.out _).size hB)⟩)))
              refine wpQuiet_nil ?_
              rintro W5 ⟨u, rfl⟩
              have HR5 := Lib.hid (HR.out.on (HF2.out u))
              generalize f u = W5 at *
              have hnl : ¬ compareM (gS dj (p + 1)) (gS dj (p + 1 - 1)) < 0 := by
                rw [Nat.add_sub_cancel, HQ.out, HX.out.1, HX.out.2]
                have h1 := HCV.out
                have h2 := cmpM_swap Y X
                omega
              have HSO := Lib.hid (InsI.stop HI.out (by omega) hji (Or.inr hnl))
              clear hnl
              go_wp2
              exact ⟨⟨i + 1, dj, by simp, by omega, by omega, HSO, HS, HR5⟩, by simp only [intOf]; omega⟩
          · have hje : j = 0 := by omega
            subst hje
            have HSO := Lib.hid (InsI.stop HI.out (by omega) hji (Or.inl rfl))
            go_wp2
            go_quiet (fail)
            go_wp2
            exact ⟨⟨i + 1, dj, by simp, by omega, by omega, HSO, HS, Lib.hid (HR.out.on (below_drewN (Below.refl _ _) _))⟩, by simp only [intOf]; omega⟩
      · have hlti : ¬ (i : Int) < N := by omega
        have hin : i = N := by omega
        have hgot : Got w l (some ⟨g, 0, none⟩) c1 dk wr := ⟨by rw [HNN.out]; exact hc1, HS.out.perm (by rw [HNN.out]; exact Nat.le_refl _), by rw [HNN.out, ← hin]; exact HO.out, by rw [HNN.out]; exact ⟨HR2.out.bel, HR2.out.len, fun _ => ⟨g, rfl, HR2.out⟩⟩⟩
        have HG := Lib.hid hgot
        clear hgot hin
        go_wp2
        go_ret
        exact ⟨some ⟨g, 0, none⟩, c1, rfl, dk, HG.out⟩
  · obtain rfl : N = 0 := by omega
    have hgot : Got w l A1 c1 l w1 := ⟨by rw [HNN.out]; exact hc1, List.Perm.refl _, fun p q _ _ _ => by have := HNN.out; omega, by rw [HNN.out]; exact HS1.out⟩
    have HG := Lib.hid hgot
    clear hgot
    go_wp2
    go_loopw [4] (fun v W => v = .int .i64 1 ∧ W = w1) (fun _ _ => 0)
    case atStart => exact ⟨rfl, rfl⟩
    case round =>
      obtain ⟨rfl, rfl⟩ := hrel
      go_wp2
      go_ret
      exact ⟨A1, c1, l, rfl, HG.out⟩

set_option maxRecDepth 100000 in
set_option maxHeartbeats 8000000 in
theorem same_lists (A1 A2 : Option Addr) (n c1 c2 : Nat) (d : List ByteArray) (w : World) (h1 : RdS w A1 n d) (h2 : RdS w A2 n d) :
    Calls Tryd.prog 41 #[.slice A1 n c1, .slice A2 n c2] w fun e w' => e = .returned (.bool true) ∧ Below w.heap.size w w' := by
  have hm := h1.max
  have H1 := Lib.hid h1
  have H2 := Lib.hid h2
  clear h1 h2
  go_enter Tryd.func41, Tryd.ntmps41
  go_wp2
  go_loopw [5] (fun v W => ∃ i : Nat, v = .int .i64 i ∧ i ≤ n ∧ Hid (Below w.heap.size w W)) (fun v _ => n - (intOf v).toNat)
  case atStart => exact ⟨0, rfl, by omega, Lib.hid (Below.refl _ _)⟩
  case round =>
    obtain ⟨i, rfl, hi, HB⟩ := hrel
    by_cases hlt : i < n
    · have hlti : (i : Int) < n := by omega
      obtain ⟨a1, e1, k1⟩ := (H1.out.below HB.out).at_ i hlt
      obtain ⟨a2, e2, k2⟩ := (H2.out.below HB.out).at_ i hlt
      subst e1 e2
      obtain ⟨X, hX⟩ : ∃ X, d.getD i ByteArray.empty = X := ⟨_, rfl⟩
      rw [hX] at k1 k2
      have hxx : (X.toList == X.toList) = true := by simp
      have hxn : (X.toList != X.toList) = false := by simp
      clear hX
      go_wp2
      go_quiet (fail)
      go_wp2
      exact ⟨⟨i + 1, by simp, by omega, Lib.hid (below_then HB.out HB.out.size (below_drewN (Below.refl _ _) _))⟩, by simp only [intOf]; omega⟩
    · have hlti : ¬ (i : Int) < n := by omega
      go_wp2
      go_ret
      exact ⟨rfl, HB.out⟩
end Go.Proofs.YtmbdiimenmnfjaaDoor
