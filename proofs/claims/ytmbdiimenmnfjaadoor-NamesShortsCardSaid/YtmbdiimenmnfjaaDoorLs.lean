/- The upper case: plain facts. -/
import Derived.Test.YtmbdiimenmnfjaaDoorGa
import Derived.Test.YtmbdiimenmnfjaaDoorGd
import Derived.Test.YtmbdiimenmnfjaaDoorGb
import Derived.Test.YtmbdiimenmnfjaaDoorGc
import Derived.Test.YtmbdiimenmnfjaaDoorPNamesNamesx48
import Derived.Test.YtmbdiimenmnfjaaDoorPNamesNamesx41
import Derived.Test.YtmbdiimenmnfjaaDoorPNamesNamesx50
import Derived.Test.YtmbdiimenmnfjaaDoorPNamesNamesx57
import Derived.Laws.Concat
import Derived.Test.YtmbdiimenmnfjaaDoorPNamesUnitsx51
import Derived.Test.YtmbdiimenmnfjaaDoorTie
import Derived.Test.YtmbdiimenmnfjaaDoorCards
import Derived.Test.YtmbdiimenmnfjaaDoorGf
import Derived.Deep.DeepHandedRow
import Derived.Deep.DeepWitnessRowRef
import Derived.ProofKit
import Derived.SizedLaws
import Derived.Lib.LaidTab
import Derived.Lib.LaidIn
import Derived.Carry
import Derived.Stop.LaidErr
import Derived.SliceStrings
import Derived.Laws.AppendOwnNone
namespace Go.Proofs.YtmbdiimenmnfjaaDoor
open Go.RowKit
set_option linter.unusedVariables false
set_option maxRecDepth 100000

theorem upL_big (u : Int) (h : 1153 < u) : ∀ l, (∀ r ∈ l, r ∈ rowsL) → upL u l = u
  | [], _ => rfl
  | r :: rs, hr => by
    simp only [upL]
    rw [if_neg, upL_big u h rs fun x hx => hr x (List.mem_cons_of_mem _ hx)]
    intro hh
    have hm := hr r (List.mem_cons_self ..)
    simp only [rowsL, List.mem_cons, List.not_mem_nil, or_false] at hm
    unfold hitR at hh
    rcases hm with rfl | rfl | rfl | rfl | rfl | rfl | rfl | rfl | rfl | rfl | rfl | rfl | rfl <;> simp only at hh <;> omega
theorem upM_big (u : Int) (h : 1153 < u) : upM u = u := upL_big u h rowsL fun r hr => hr
end Go.Proofs.YtmbdiimenmnfjaaDoor
/- What several laws share. -/
namespace Go.Proofs.YtmbdiimenmnfjaaDoor
open Go.RowKit Go.Deep
set_option linter.unusedVariables false

theorem getU_up {s : ByteArray} {r : List Int} (h : getU s = some r) : getU (upS r) = some (r.map upM) := by
  have hp := getU_props h
  exact getU_text hp.1.map_up (by rw [List.length_map]; exact hp.2.2)
end Go.Proofs.YtmbdiimenmnfjaaDoor
/- Bytes of parts and of sums. -/
namespace Go.Proofs.YtmbdiimenmnfjaaDoor
open Go.RowKit Go.Deep
set_option linter.unusedVariables false

theorem bts_take (s : ByteArray) (n : Nat) : bts (s.extract 0 n) = (bts s).take n := by
  unfold bts
  rw [ByteArray.data_extract, Array.toList_extract, List.extract_eq_take_drop, List.drop_zero, Nat.sub_zero, List.map_take]
theorem bts_append (x y : ByteArray) : bts (x ++ y) = bts x ++ bts y := by
  unfold bts
  rw [ByteArray.data_append, Array.toList_append, List.map_append]
theorem bts_at {s : ByteArray} {k : Nat} {c : UInt8} (h : s.data.toList[k]? = some c) : (bts s)[k]? = some (c.toNat : Int) := by
  unfold bts
  rw [List.getElem?_map, h]; rfl
end Go.Proofs.YtmbdiimenmnfjaaDoor
/- The document's Units: what was printed of it is the model. -/
namespace Go.Proofs.YtmbdiimenmnfjaaDoor
open Go.RowKit Go.Deep
open Go.Proofs.YtmbdiimenmnfjaaDoor.PNamesNames
open Go.Proofs.YtmbdiimenmnfjaaDoorW.PrintWords (rd bt Drawn0 Kd)
set_option linter.unusedVariables false
set_option linter.unusedSimpArgs false

theorem w64 (x : Int) (h0 : -4611686018427387904 ≤ x) (h1 : x ≤ 4611686018427387904) : wrap64 x = x := by unfold wrap64; omega
theorem bt_bts (s : ByteArray) (i : Nat) (h : i < s.size) : bt s (i : Int) = (bts s).getD i 0 := by
  rw [bts_get s i h]
  unfold bt
  rw [dif_pos (by simpa using h)]
  rfl
/-- A byte that goes on, as a number; -1 if it is none. -/
def contV (s : List Int) (i : Nat) : Int := match contM s i with
  | some x => x
  | none => -1
theorem contV_bd (s : List Int) (i : Nat) : -1 ≤ contV s i ∧ contV s i ≤ 63 := by
  unfold contV
  cases h : contM s i with
  | none => simp
  | some x => have := contM_bd h; simp only; omega
theorem more_f (s : ByteArray) (i : Nat) (hi : i ≤ 1000000000) : archivoltref05_more.f s (i : Int) = some (contV (bts s) i) := by
  unfold archivoltref05_more.f contV contM
  by_cases h : i < s.size
  · have hb := bts_bd s i
    rw [if_neg (by omega), if_pos (by omega), if_pos (by omega), bt_bts s i h, bts_len]
    by_cases h1 : (bts s).getD i 0 < 128
    · rw [if_pos h1, if_neg (by omega)]
    · rw [if_neg h1]
      by_cases h2 : (bts s).getD i 0 ≥ 192
      · rw [if_pos h2, if_neg (by omega)]
      · rw [if_neg h2, if_pos (by omega), w64 ((bts s).getD i 0) (by omega) (by omega), w64 _ (by omega) (by omega)]
  · rw [if_pos (by omega), if_neg (by rw [bts_len]; omega)]
/-- The code point as numbers. -/
def pointR (b x y z : Int) : Int × Int :=
  if 194 ≤ b ∧ b < 224 ∧ 0 ≤ x then ((b - 192) * 64 + x, 2)
  else if 224 ≤ b ∧ b < 240 ∧ 0 ≤ x ∧ 0 ≤ y ∧ 2048 ≤ (b - 224) * 4096 + x * 64 + y then ((b - 224) * 4096 + x * 64 + y, 3)
  else if 240 ≤ b ∧ b < 248 ∧ 0 ≤ x ∧ 0 ≤ y ∧ 0 ≤ z ∧ 65536 ≤ (b - 240) * 262144 + x * 4096 + y * 64 + z ∧ (b - 240) * 262144 + x * 4096 + y * 64 + z ≤ 1114111 then ((b - 240) * 262144 + x * 4096 + y * 64 + z, 4)
  else (0, 0)
theorem j2_f (k : Nat) (b x y z : Int) (q : Bool) (hb : 0 ≤ b ∧ b ≤ 255) (hx : -1 ≤ x ∧ x ≤ 63) (hy : -1 ≤ y ∧ y ≤ 63) (hz : -1 ≤ z ∧ z ≤ 63) :
    archivoltref05_first.j2 (k + 1) b x y z q = some (if q = true ∧ 65536 ≤ (b - 240) * 262144 + x * 4096 + y * 64 + z ∧ (b - 240) * 262144 + x * 4096 + y * 64 + z ≤ 1114111 then ((b - 240) * 262144 + x * 4096 + y * 64 + z, 4) else (0, 0)) := by
  have e : wrap64 ((wrap64 ((wrap64 ((wrap64 ((wrap64 (b - 240)) * 262144)) + (wrap64 (x * 4096)))) + (wrap64 (y * 64)))) + z) = (b - 240) * 262144 + x * 4096 + y * 64 + z := by
    rw [w64 (b - 240) (by omega) (by omega), w64 ((b - 240) * 262144) (by omega) (by omega), w64 (x * 4096) (by omega) (by omega), w64 ((b - 240) * 262144 + x * 4096) (by omega) (by omega), w64 (y * 64) (by omega) (by omega), w64 ((b - 240) * 262144 + x * 4096 + y * 64) (by omega) (by omega), w64 _ (by omega) (by omega)]
  rw [archivoltref05_first.j2]
  rw [e]
  cases q with
  | false => simp
  | true =>
    by_cases h1 : (b - 240) * 262144 + x * 4096 + y * 64 + z ≥ 65536
    · by_cases h2 : (b - 240) * 262144 + x * 4096 + y * 64 + z ≤ 1114111
      · rw [if_pos rfl, if_pos h1, if_pos h2, if_pos ⟨rfl, h1, h2⟩]
      · rw [if_pos rfl, if_pos h1, if_neg h2, if_neg (fun h => h2 h.2.2)]
    · rw [if_pos rfl, if_neg h1, if_neg (fun h => h1 h.2.1)]
theorem j1_f (k : Nat) (b x y z : Int) (q : Bool) (hb : 0 ≤ b ∧ b ≤ 255) (hx : -1 ≤ x ∧ x ≤ 63) (hy : -1 ≤ y ∧ y ≤ 63) (hz : -1 ≤ z ∧ z ≤ 63) :
    archivoltref05_first.j1 (k + 2) b x y z q = some (if q = true then (if 2048 ≤ (b - 224) * 4096 + x * 64 + y then ((b - 224) * 4096 + x * 64 + y, 3) else (0, 0)) else if 240 ≤ b ∧ b < 248 ∧ 0 ≤ x ∧ 0 ≤ y ∧ 0 ≤ z ∧ 65536 ≤ (b - 240) * 262144 + x * 4096 + y * 64 + z ∧ (b - 240) * 262144 + x * 4096 + y * 64 + z ≤ 1114111 then ((b - 240) * 262144 + x * 4096 + y * 64 + z, 4) else (0, 0)) := by
  have e : wrap64 ((wrap64 ((wrap64 ((wrap64 (b - 224)) * 4096)) + (wrap64 (x * 64)))) + y) = (b - 224) * 4096 + x * 64 + y := by
    rw [w64 (b - 224) (by omega) (by omega), w64 ((b - 224) * 4096) (by omega) (by omega), w64 (x * 64) (by omega) (by omega), w64 ((b - 224) * 4096 + x * 64) (by omega) (by omega), w64 _ (by omega) (by omega)]
  rw [archivoltref05_first.j1]
  rw [e]
  cases q with
  | true =>
    rw [if_pos rfl, if_pos rfl]
    by_cases h : (b - 224) * 4096 + x * 64 + y ≥ 2048
    · rw [if_pos h, if_pos h]
    · rw [if_neg h, if_neg h]
  | false =>
    have hf : ¬ (false = true) := by decide
    rw [if_neg hf, if_neg hf]
    have hj := fun q => j2_f k b x y z q hb hx hy hz
    simp only [hj]
    by_cases h1 : b ≥ 240
    · by_cases h2 : b < 248
      · by_cases h3 : x ≥ 0
        · by_cases h4 : y ≥ 0
          · rw [if_pos h1, if_pos h2, if_pos h3, if_pos h4]
            by_cases h5 : z ≥ 0
            · rw [decide_eq_true h5]
              congr 1
              by_cases h6 : 65536 ≤ (b - 240) * 262144 + x * 4096 + y * 64 + z ∧ (b - 240) * 262144 + x * 4096 + y * 64 + z ≤ 1114111
              · rw [if_pos ⟨rfl, h6⟩, if_pos ⟨h1, h2, h3, h4, h5, h6⟩]
              · rw [if_neg (fun h => h6 h.2), if_neg (fun h => h6 h.2.2.2.2.2)]
            · rw [decide_eq_false h5, if_neg (fun h => hf h.1), if_neg (fun h => h5 h.2.2.2.2.1)]
          · rw [if_pos h1, if_pos h2, if_pos h3, if_neg h4, if_neg (fun h => hf h.1), if_neg (fun h => h4 h.2.2.2.1)]
        · rw [if_pos h1, if_pos h2, if_neg h3, if_neg (fun h => hf h.1), if_neg (fun h => h3 h.2.2.1)]
      · rw [if_pos h1, if_neg h2, if_neg (fun h => hf h.1), if_neg (fun h => h2 h.2.1)]
    · rw [if_neg h1, if_neg (fun h => hf h.1), if_neg (fun h => h1 h.1)]
theorem j0_f (k : Nat) (b x y z : Int) (q : Bool) (hb : 0 ≤ b ∧ b ≤ 255) (hx : -1 ≤ x ∧ x ≤ 63) (hy : -1 ≤ y ∧ y ≤ 63) (hz : -1 ≤ z ∧ z ≤ 63) (hq : q = decide (194 ≤ b ∧ b < 224 ∧ 0 ≤ x)) :
    archivoltref05_first.j0 (k + 3) b x y z q = some (pointR b x y z) := by
  rw [archivoltref05_first.j0]
  have hf : ¬ (false = true) := by decide
  have hj := fun q => j1_f k b x y z q hb hx hy hz
  cases q with
  | true =>
    have h := of_decide_eq_true hq.symm
    rw [if_pos rfl, w64 (b - 192) (by omega) (by omega), w64 ((b - 192) * 64) (by omega) (by omega), w64 _ (by omega) (by omega)]
    unfold pointR
    rw [if_pos h]
  | false =>
    have h := of_decide_eq_false hq.symm
    rw [if_neg hf]
    simp only [hj]
    unfold pointR
    rw [if_neg h]
    by_cases h1 : b ≥ 224
    · by_cases h2 : b < 240
      · have h240 : ¬ (240 ≤ b ∧ b < 248 ∧ 0 ≤ x ∧ 0 ≤ y ∧ 0 ≤ z ∧ 65536 ≤ (b - 240) * 262144 + x * 4096 + y * 64 + z ∧ (b - 240) * 262144 + x * 4096 + y * 64 + z ≤ 1114111) := fun h => by omega
        by_cases h3 : x ≥ 0
        · rw [if_pos h1, if_pos h2, if_pos h3]
          by_cases h4 : y ≥ 0
          · rw [decide_eq_true h4, if_pos rfl]
            congr 1
            by_cases h5 : 2048 ≤ (b - 224) * 4096 + x * 64 + y
            · rw [if_pos h5, if_pos ⟨h1, h2, h3, h4, h5⟩]
            · rw [if_neg h5, if_neg (fun h => h5 h.2.2.2.2), if_neg h240]
          · rw [decide_eq_false h4, if_neg hf, if_neg h240, if_neg (fun h => h4 h.2.2.2.1)]
        · rw [if_pos h1, if_pos h2, if_neg h3, if_neg hf, if_neg h240, if_neg (fun h => h3 h.2.2.1)]
      · rw [if_pos h1, if_neg h2, if_neg hf, if_neg (fun h : 224 ≤ b ∧ b < 240 ∧ 0 ≤ x ∧ 0 ≤ y ∧ 2048 ≤ (b - 224) * 4096 + x * 64 + y => h2 h.2.1)]
    · rw [if_neg h1, if_neg hf, if_neg (fun h : 224 ≤ b ∧ b < 240 ∧ 0 ≤ x ∧ 0 ≤ y ∧ 2048 ≤ (b - 224) * 4096 + x * 64 + y => h1 h.1)]
theorem contM_drop (s : List Int) (i j : Nat) (hi : i ≤ s.length) : contM (s.drop i) j = contM s (i + j) := by
  unfold contM
  have e : (s.drop i).getD j 0 = s.getD (i + j) 0 := by simp [List.getD_eq_getElem?_getD]
  rw [e, List.length_drop]
  by_cases h : j < s.length - i
  · have h' : i + j < s.length := by omega
    simp only [h, h', true_and]
  · have h' : ¬ i + j < s.length := by omega
    simp only [h, h', false_and, if_false]
theorem contV_nonneg {s : List Int} {i : Nat} (h : 0 ≤ contV s i) : contM s i = some (contV s i) := by
  unfold contV at h ⊢
  cases hx : contM s i with
  | none => rw [hx] at h; simp at h
  | some x => rfl
theorem contV_neg {s : List Int} {i : Nat} (h : ¬ 0 ≤ contV s i) : contM s i = none := by
  unfold contV at h
  cases hx : contM s i with
  | none => rfl
  | some x => rw [hx] at h; have := contM_bd hx; simp only at h; omega
/-- What is said of a code point. -/
def pairP : Option (Int × Nat) → Int × Int
  | some (c, n) => (c, n)
  | none => (0, 0)
theorem goM_1 (s : List Int) (c : Int) : goM s 1 1 c = if 0 ≤ contV s 1 then some (c * 64 + contV s 1) else none := by
  unfold goM
  by_cases h : 0 ≤ contV s 1
  · rw [contV_nonneg h, if_pos h]; rfl
  · rw [contV_neg h, if_neg h]
theorem goM_2 (s : List Int) (c : Int) : goM s 2 1 c = if 0 ≤ contV s 1 ∧ 0 ≤ contV s 2 then some ((c * 64 + contV s 1) * 64 + contV s 2) else none := by
  unfold goM
  by_cases h : 0 ≤ contV s 1
  · rw [contV_nonneg h]
    simp only
    unfold goM
    by_cases h2 : 0 ≤ contV s 2
    · rw [contV_nonneg h2, if_pos ⟨h, h2⟩]; rfl
    · rw [contV_neg h2, if_neg (fun q => h2 q.2)]
  · rw [contV_neg h, if_neg (fun q => h q.1)]
theorem goM_3 (s : List Int) (c : Int) : goM s 3 1 c = if 0 ≤ contV s 1 ∧ 0 ≤ contV s 2 ∧ 0 ≤ contV s 3 then some (((c * 64 + contV s 1) * 64 + contV s 2) * 64 + contV s 3) else none := by
  unfold goM
  by_cases h : 0 ≤ contV s 1
  · rw [contV_nonneg h]
    simp only
    unfold goM
    by_cases h2 : 0 ≤ contV s 2
    · rw [contV_nonneg h2]
      simp only
      unfold goM
      by_cases h3 : 0 ≤ contV s 3
      · rw [contV_nonneg h3, if_pos ⟨h, h2, h3⟩]; rfl
      · rw [contV_neg h3, if_neg (fun q => h3 q.2.2)]
    · rw [contV_neg h2, if_neg (fun q => h2 q.2.1)]
  · rw [contV_neg h, if_neg (fun q => h q.1)]
theorem point_R (s : List Int) (h0 : 128 ≤ s.getD 0 0) : pairP (pointM s) = pointR (s.getD 0 0) (contV s 1) (contV s 2) (contV s 3) := by
  obtain ⟨b, hb⟩ : ∃ b, s.getD 0 0 = b := ⟨_, rfl⟩
  obtain ⟨x, hx⟩ : ∃ x, contV s 1 = x := ⟨_, rfl⟩
  obtain ⟨y, hy⟩ : ∃ y, contV s 2 = y := ⟨_, rfl⟩
  obtain ⟨z, hz⟩ : ∃ z, contV s 3 = z := ⟨_, rfl⟩
  have bx := contV_bd s 1
  have by_ := contV_bd s 2
  have bz := contV_bd s 3
  unfold pointM pointC
  simp only [Nat.reduceSub]
  rw [goM_1, goM_2, goM_3]
  rw [hb] at h0 ⊢
  rw [hx] at bx ⊢
  rw [hy] at by_ ⊢
  rw [hz] at bz ⊢
  clear hb hx hy hz
  rw [if_neg (by omega)]
  unfold pointR
  by_cases q1 : 192 ≤ b ∧ b < 224
  · rw [if_pos q1]
    by_cases q2 : 0 ≤ x
    · rw [if_pos q2]
      simp only [pickP]
      by_cases q3 : 194 ≤ b
      · rw [if_neg (by omega), if_pos ⟨q3, q1.2, q2⟩]; rfl
      · rw [if_pos (by omega), if_neg (fun h => q3 h.1), if_neg (fun h => by omega), if_neg (fun h => by omega)]; rfl
    · rw [if_neg q2, if_neg (fun h => q2 h.2.2), if_neg (fun h => by omega), if_neg (fun h => by omega)]; rfl
  · rw [if_neg q1, if_neg (show ¬ (194 ≤ b ∧ b < 224 ∧ 0 ≤ x) from fun h => q1 ⟨by omega, h.2.1⟩)]
    by_cases q2 : 224 ≤ b ∧ b < 240
    · rw [if_pos q2]
      by_cases q3 : 0 ≤ x ∧ 0 ≤ y
      · rw [if_pos q3]
        simp only [pickP]
        have e : ((b - 224) * 64 + x) * 64 + y = (b - 224) * 4096 + x * 64 + y := by omega
        rw [e]
        by_cases q4 : 2048 ≤ (b - 224) * 4096 + x * 64 + y
        · rw [if_neg (by omega), if_pos ⟨q2.1, q2.2, q3.1, q3.2, q4⟩]; rfl
        · rw [if_pos (by omega), if_neg (fun h => q4 h.2.2.2.2), if_neg (fun h => by omega)]; rfl
      · rw [if_neg q3, if_neg (fun h => q3 ⟨h.2.2.1, h.2.2.2.1⟩), if_neg (fun h => by omega)]; rfl
    · rw [if_neg q2, if_neg (show ¬ (224 ≤ b ∧ b < 240 ∧ 0 ≤ x ∧ 0 ≤ y ∧ 2048 ≤ (b - 224) * 4096 + x * 64 + y) from fun h => q2 ⟨h.1, h.2.1⟩)]
      by_cases q3 : 240 ≤ b ∧ b < 248
      · rw [if_pos q3]
        by_cases q4 : 0 ≤ x ∧ 0 ≤ y ∧ 0 ≤ z
        · rw [if_pos q4]
          simp only [pickP]
          have e : (((b - 240) * 64 + x) * 64 + y) * 64 + z = (b - 240) * 262144 + x * 4096 + y * 64 + z := by omega
          rw [e]
          by_cases q5 : 65536 ≤ (b - 240) * 262144 + x * 4096 + y * 64 + z ∧ (b - 240) * 262144 + x * 4096 + y * 64 + z ≤ 1114111
          · rw [if_neg (by omega), if_pos ⟨q3.1, q3.2, q4.1, q4.2.1, q4.2.2, q5⟩]; rfl
          · rw [if_pos (by omega), if_neg (fun h => q5 h.2.2.2.2.2)]; rfl
        · rw [if_neg q4, if_neg (fun h => q4 ⟨h.2.2.1, h.2.2.2.1, h.2.2.2.2.1⟩)]; rfl
      · rw [if_neg q3, if_neg (fun h => q3 ⟨h.1, h.2.1⟩)]; rfl
theorem first_f (s : ByteArray) (i k : Nat) (hs : s.size ≤ 1000000) (hi : i < s.size) : archivoltref05_first.f (k + 3) s (i : Int) = some (pairP (pointM ((bts s).drop i))) := by
  have hb := bts_bd s i
  have hl : i < (bts s).length := by rw [bts_len]; exact hi
  have e0 : ((bts s).drop i).getD 0 0 = (bts s).getD i 0 := by simp [List.getD_eq_getElem?_getD]
  have ec : ∀ j, contV ((bts s).drop i) j = contV (bts s) (i + j) := fun j => by unfold contV; rw [contM_drop _ _ _ (by omega)]
  unfold archivoltref05_first.f
  rw [if_pos (by omega), if_pos (by omega), bt_bts s i hi, w64 _ (by omega) (by omega)]
  by_cases h : (bts s).getD i 0 < 128
  · rw [if_pos h]
    have : pointM ((bts s).drop i) = some ((bts s).getD i 0, 1) := by unfold pointM; rw [e0, if_pos h]
    rw [this]; rfl
  · rw [if_neg h, point_R _ (by rw [e0]; omega), e0, ec, ec, ec]
    have w1 : wrap64 ((i : Int) + 1) = ((i + 1 : Nat) : Int) := by rw [w64 _ (by omega) (by omega)]; rfl
    have w2 : wrap64 ((i : Int) + 2) = ((i + 2 : Nat) : Int) := by rw [w64 _ (by omega) (by omega)]; rfl
    have w3 : wrap64 ((i : Int) + 3) = ((i + 3 : Nat) : Int) := by rw [w64 _ (by omega) (by omega)]; rfl
    rw [w1, w2, w3, more_f s (i + 1) (by omega), more_f s (i + 2) (by omega), more_f s (i + 3) (by omega)]
    simp only [Option.bind_some]
    obtain ⟨b, hbb⟩ : ∃ b, (bts s).getD i 0 = b := ⟨_, rfl⟩
    rw [hbb] at hb h ⊢
    have hj := fun q hq => j0_f k b (contV (bts s) (i + 1)) (contV (bts s) (i + 2)) (contV (bts s) (i + 3)) q hb (contV_bd _ _) (contV_bd _ _) (contV_bd _ _) hq
    by_cases q1 : b ≥ 194
    · by_cases q2 : b < 224
      · rw [if_pos q1, if_pos q2]
        exact hj _ (by rw [decide_eq_decide]; exact ⟨fun h => ⟨q1, q2, h⟩, fun h => h.2.2⟩)
      · rw [if_pos q1, if_neg q2]
        exact hj _ (by rw [decide_eq_false]; exact fun h => q2 h.2.1)
    · rw [if_neg q1]
      exact hj _ (by rw [decide_eq_false]; exact fun h => q1 h.1)
/-- What the units of bytes come to. -/
def finU (acc : List Int) : Option (List Int) → List Int × Int
  | none => ([], 4)
  | some r => if (acc ++ r).length > 4096 then ([], 4) else (acc ++ r, 0)
theorem units_l (s : ByteArray) (hs : s.size ≤ 1000000) : ∀ (f K i : Nat) (acc : List Int) (last : Int), i ≤ s.size → s.size - i < f → 2 * f + 5 ≤ K → acc.length ≤ 2 * i →
    archivoltref05_Units.l0 K s acc last (i : Int) = some (finU acc (unitsF f ((bts s).drop i) last))
  | 0, K, i, acc, last, h1, h2, h3, h4 => by omega
  | f + 1, K, i, acc, last, h1, h2, h3, h4 => by
    obtain ⟨K, rfl⟩ : ∃ k, K = k + 2 := ⟨K - 2, by omega⟩
    rw [archivoltref05_Units.l0]
    unfold unitsF
    have hbl := bts_len s
    by_cases hi : i < s.size
    · have hne : ¬ (bts s).drop i = [] := fun e => by have := congrArg List.length e; rw [List.length_drop] at this; simp at this; omega
      obtain ⟨k3, rfl⟩ : ∃ k, K = k + 2 := ⟨K - 2, by omega⟩
      rw [if_pos (by omega), if_neg hne, show k3 + 2 + 1 = k3 + 3 from rfl, first_f s i k3 hs hi]
      cases hp : pointM ((bts s).drop i) with
      | none =>
        simp only [pairP, Option.bind_some, stepU, if_true, finU]
        rw [archivoltref05_Units.j1]
        rfl
      | some cn =>
        obtain ⟨c, n⟩ := cn
        have hb := pointM_bd hne (getD_nonneg (fun x hx => bts_range s x (mem_drop' hx)) 0) hp
        rw [List.length_drop, hbl] at hb
        simp only [pairP, Option.bind_some, stepU]
        rw [if_neg (by omega)]
        have ehi : archivoltref05_high.f last = some (decide (55296 ≤ last ∧ last < 56320)) := by
          unfold archivoltref05_high.f
          by_cases h : last ≥ 55296
          · rw [if_pos h]; congr 1; rw [decide_eq_decide]; omega
          · rw [if_neg h]; congr 1; symm; rw [decide_eq_false]; omega
        have elo : archivoltref05_low.f c = some (decide (56320 ≤ c ∧ c < 57344)) := by
          unfold archivoltref05_low.f
          by_cases h : c ≥ 56320
          · rw [if_pos h]; congr 1; rw [decide_eq_decide]; omega
          · rw [if_neg h]; congr 1; symm; rw [decide_eq_false]; omega
        have hj : ∀ q : Bool, q = decide (55296 ≤ last ∧ last < 56320 ∧ 56320 ≤ c ∧ c < 57344) → archivoltref05_Units.j1 (k3 + 3) s acc (i : Int) q c (n : Int) =
            some (finU acc (if 55296 ≤ last ∧ last < 56320 ∧ 56320 ≤ c ∧ c < 57344 then none else (unitsF f (((bts s).drop i).drop n) c).map (encU c ++ ·))) := by
          intro q hq
          rw [archivoltref05_Units.j1]
          cases q with
          | true =>
            rw [if_pos rfl, if_pos (of_decide_eq_true hq.symm)]; rfl
          | false =>
            rw [if_neg (by decide), if_neg (of_decide_eq_false hq.symm), List.drop_drop]
            have ew : wrap64 ((i : Int) + n) = ((i + n : Nat) : Int) := by rw [w64 _ (by omega) (by omega)]; rfl
            have hfin : ∀ o : Option (List Int), finU acc (o.map (encU c ++ ·)) = finU (acc ++ encU c) o := fun o => by
              cases o with
              | none => rfl
              | some r => simp only [Option.map_some, finU, List.append_assoc]
            rw [hfin, ew]
            by_cases hc : c < 65536
            · rw [if_pos hc, if_pos (by omega)]
              have e1 : IntKind.u16.wrap c = c := by simp [IntKind.wrap, IntKind.bits, IntKind.signed]; omega
              rw [e1, units_l s hs f (k3 + 2) (i + n) (acc ++ [c]) c (by omega) (by omega) (by omega) (by simp; omega), encU_1 hc]
            · rw [if_neg hc]
              simp only [Option.bind_some, List.length_cons, List.length_nil]
              rw [if_pos (by omega)]
              have t1 : Int.tdiv (wrap64 (c - 65536)) 1024 = (c - 65536) / 1024 := by rw [w64 _ (by omega) (by omega), Int.tdiv_eq_ediv_of_nonneg (by omega)]
              have t2 : Int.tmod (wrap64 (c - 65536)) 1024 = (c - 65536) % 1024 := by rw [w64 _ (by omega) (by omega), Int.tmod_eq_emod_of_nonneg (by omega)]
              rw [t1, t2, w64 ((c - 65536) / 1024) (by omega) (by omega), w64 (55296 + (c - 65536) / 1024) (by omega) (by omega), w64 (56320 + (c - 65536) % 1024) (by omega) (by omega)]
              have e1 : IntKind.u16.wrap (55296 + (c - 65536) / 1024) = 55296 + (c - 65536) / 1024 := by simp [IntKind.wrap, IntKind.bits, IntKind.signed]; omega
              have e2 : IntKind.u16.wrap (56320 + (c - 65536) % 1024) = 56320 + (c - 65536) % 1024 := by simp [IntKind.wrap, IntKind.bits, IntKind.signed]; omega
              rw [e1, e2, ← encU_2 (show 65536 ≤ c by omega), units_l s hs f (k3 + 2) (i + n) (acc ++ encU c) c (by omega) (by omega) (by omega) (by have := encU_len c; rw [List.length_append]; omega)]
        rw [ehi, elo]
        simp only [Option.bind_some]
        by_cases hh : 55296 ≤ last ∧ last < 56320
        · rw [decide_eq_true hh, if_pos rfl]
          exact hj _ (by rw [decide_eq_decide]; exact ⟨fun h => ⟨hh.1, hh.2, h⟩, fun h => h.2.2⟩)
        · rw [decide_eq_false hh, if_neg (by decide)]
          exact hj _ (by symm; rw [decide_eq_false]; exact fun h => hh ⟨h.1, h.2.1⟩)
    · have hnil : (bts s).drop i = [] := List.drop_eq_nil_of_le (by omega)
      rw [if_neg (by omega), hnil, if_pos rfl]
      simp only [finU, List.append_nil]
      by_cases h : acc.length > 4096
      · rw [if_pos (by omega), if_pos h]
      · rw [if_neg (by omega), if_neg h]
/-- What the document's 'Units' says. -/
def refU (s : ByteArray) : List Int × Int := match getU s with
  | some r => (r, 0)
  | none => ([], 4)
theorem units_f (s : ByteArray) (hs : s.size ≤ 1000000) (K : Nat) (hK : 2 * s.size + 20 ≤ K) : archivoltref05_Units.f K s = some (refU s) := by
  unfold archivoltref05_Units.f
  have h := units_l s hs (s.size + 1) K 0 [] 0 (by omega) (by omega) (by omega) (by simp)
  have h' : archivoltref05_Units.l0 K s [] 0 0 = some (finU [] (unitsM (bts s))) := by
    unfold unitsM
    rw [bts_len]
    exact h
  rw [h']
  congr 1
  unfold refU getU readM
  cases hu : unitsM (bts s) with
  | none => rfl
  | some l =>
    simp only [finU, List.nil_append]
    by_cases q : l.length > 4096
    · rw [if_pos q]
      have : decide (l.length ≤ 4096) = false := by simp; omega
      rw [this]
    · rw [if_neg q]
      have : decide (l.length ≤ 4096) = true := by simp; omega
      rw [this]

theorem rd_of_C {w : World} {k : IntKind} {A : Option Addr} {n : Nat} {xs : List Int} (h : (Kd.int k).C w A n xs) (hn : n ≤ 9223372036854775807) (hl : xs.length = n) : Rd w k A n xs := by
  refine ⟨hl, hn, fun j hj => ?_⟩
  obtain ⟨ad, hA, hc⟩ := Kd.at_int h (j : Int) (by omega) (by omega)
  refine ⟨ad, hA, ?_⟩
  simpa [rd] using hc
/-- The document's 'Units', whatever the string. -/
theorem runits_any (s : ByteArray) (hs : s.size ≤ 100000) (w : World) :
    Calls Tryd.prog 34 #[.string s] w fun e w' => (∃ A c, e = .returned (.agg #[.slice A (refU s).1.length c, .int .i64 (refU s).2]) ∧ (refU s).1.length ≤ c ∧ Rd w' .u16 A (refU s).1.length (refU s).1) ∧ Below w.heap.size w w' :=
  (archivoltref05_Units.calls _ s (refU s).1 (refU s).2 w (units_f s (by omega) _ (Nat.le_refl _))).mono fun e w' ⟨v, he, hR, hB⟩ => by
    obtain ⟨A, c, rfl, hc, hC⟩ := Kd.R_reads hR
    refine ⟨⟨A, c, he, hc, rd_of_C hC ?_ rfl⟩, hB⟩
    unfold refU
    cases hg : getU s with
    | none => simp
    | some r => have := (getU_props hg).2.2; simp only; omega
end Go.Proofs.YtmbdiimenmnfjaaDoor
/- Walk: the document's Up, one range of units after the other. -/
namespace Go.Proofs.YtmbdiimenmnfjaaDoor
open Go.RowKit Go.Deep
set_option linter.unusedVariables false
set_option linter.unusedSimpArgs false
set_option maxRecDepth 100000

theorem u16_in (x : Int) (h0 : 0 ≤ x) (h1 : x ≤ 65535) : IntKind.u16.wrap x = x := by simp [IntKind.wrap, IntKind.bits, IntKind.signed]; omega

theorem rup_0 (u : Int) (h0 : 0 ≤ u) (h1 : u ≤ 96) (w : World) : Calls Tryd.prog 36 #[.int .u16 u] w fun e w' => e = .returned (.int .u16 (upM u)) ∧ w' = w := by
  have hm : upM u = u := by
    unfold upM
    simp only [rowsL, upL]
    rw [if_neg (by simp only [hitR]; omega), if_neg (by simp only [hitR]; omega), if_neg (by simp only [hitR]; omega), if_neg (by simp only [hitR]; omega), if_neg (by simp only [hitR]; omega), if_neg (by simp only [hitR]; omega), if_neg (by simp only [hitR]; omega), if_neg (by simp only [hitR]; omega), if_neg (by simp only [hitR]; omega), if_neg (by simp only [hitR]; omega), if_neg (by simp only [hitR]; omega), if_neg (by simp only [hitR]; omega), if_neg (by simp only [hitR]; omega)]
  rw [hm]
  have g97 : ¬ 97 ≤ u := by omega
  have g224 : ¬ 224 ≤ u := by omega
  have g248 : ¬ 248 ≤ u := by omega
  have g945 : ¬ 945 ≤ u := by omega
  have g963 : ¬ 963 ≤ u := by omega
  have g1072 : ¬ 1072 ≤ u := by omega
  have g257 : ¬ 257 ≤ u := by omega
  have g331 : ¬ 331 ≤ u := by omega
  have g1121 : ¬ 1121 ≤ u := by omega
  have g314 : ¬ 314 ≤ u := by omega
  have g1104 : ¬ 1104 ≤ u := by omega
  have l122 : u ≤ 122 := by omega
  have l246 : u ≤ 246 := by omega
  have l254 : u ≤ 254 := by omega
  have l961 : u ≤ 961 := by omega
  have l969 : u ≤ 969 := by omega
  have l1103 : u ≤ 1103 := by omega
  have l311 : u ≤ 311 := by omega
  have l375 : u ≤ 375 := by omega
  have l1153 : u ≤ 1153 := by omega
  have l328 : u ≤ 328 := by omega
  have l1119 : u ≤ 1119 := by omega
  have e255 : ¬ u = 255 := by omega
  have e962 : ¬ u = 962 := by omega
  obtain ⟨q, hq⟩ : ∃ q : Bool, decide (u % 2 = 1) = q := ⟨_, rfl⟩
  clear h0 h1 hm
  go_enter Tryd.func36, Tryd.ntmps36
  go_wp2
  all_goals (go_ret; exact ⟨rfl, rfl⟩)

theorem rup_1 (u : Int) (h0 : 97 ≤ u) (h1 : u ≤ 122) (w : World) : Calls Tryd.prog 36 #[.int .u16 u] w fun e w' => e = .returned (.int .u16 (upM u)) ∧ w' = w := by
  have hm : upM u = u - 32 := by
    unfold upM
    simp only [rowsL, upL]
    rw [if_pos (by simp only [hitR]; omega)]
    rfl
  rw [hm]
  have g97 : 97 ≤ u := by omega
  have g224 : ¬ 224 ≤ u := by omega
  have g248 : ¬ 248 ≤ u := by omega
  have g945 : ¬ 945 ≤ u := by omega
  have g963 : ¬ 963 ≤ u := by omega
  have g1072 : ¬ 1072 ≤ u := by omega
  have g257 : ¬ 257 ≤ u := by omega
  have g331 : ¬ 331 ≤ u := by omega
  have g1121 : ¬ 1121 ≤ u := by omega
  have g314 : ¬ 314 ≤ u := by omega
  have g1104 : ¬ 1104 ≤ u := by omega
  have l122 : u ≤ 122 := by omega
  have l246 : u ≤ 246 := by omega
  have l254 : u ≤ 254 := by omega
  have l961 : u ≤ 961 := by omega
  have l969 : u ≤ 969 := by omega
  have l1103 : u ≤ 1103 := by omega
  have l311 : u ≤ 311 := by omega
  have l375 : u ≤ 375 := by omega
  have l1153 : u ≤ 1153 := by omega
  have l328 : u ≤ 328 := by omega
  have l1119 : u ≤ 1119 := by omega
  have e255 : ¬ u = 255 := by omega
  have e962 : ¬ u = 962 := by omega
  obtain ⟨q, hq⟩ : ∃ q : Bool, decide (u % 2 = 1) = q := ⟨_, rfl⟩
  have hw : IntKind.u16.wrap (u - 32) = u - 32 := u16_in _ (by omega) (by omega)
  clear h0 h1 hm
  go_enter Tryd.func36, Tryd.ntmps36
  go_wp2
  all_goals (go_ret; exact ⟨rfl, rfl⟩)

theorem rup_2 (u : Int) (h0 : 123 ≤ u) (h1 : u ≤ 223) (w : World) : Calls Tryd.prog 36 #[.int .u16 u] w fun e w' => e = .returned (.int .u16 (upM u)) ∧ w' = w := by
  have hm : upM u = u := by
    unfold upM
    simp only [rowsL, upL]
    rw [if_neg (by simp only [hitR]; omega), if_neg (by simp only [hitR]; omega), if_neg (by simp only [hitR]; omega), if_neg (by simp only [hitR]; omega), if_neg (by simp only [hitR]; omega), if_neg (by simp only [hitR]; omega), if_neg (by simp only [hitR]; omega), if_neg (by simp only [hitR]; omega), if_neg (by simp only [hitR]; omega), if_neg (by simp only [hitR]; omega), if_neg (by simp only [hitR]; omega), if_neg (by simp only [hitR]; omega), if_neg (by simp only [hitR]; omega)]
  rw [hm]
  have g97 : 97 ≤ u := by omega
  have g224 : ¬ 224 ≤ u := by omega
  have g248 : ¬ 248 ≤ u := by omega
  have g945 : ¬ 945 ≤ u := by omega
  have g963 : ¬ 963 ≤ u := by omega
  have g1072 : ¬ 1072 ≤ u := by omega
  have g257 : ¬ 257 ≤ u := by omega
  have g331 : ¬ 331 ≤ u := by omega
  have g1121 : ¬ 1121 ≤ u := by omega
  have g314 : ¬ 314 ≤ u := by omega
  have g1104 : ¬ 1104 ≤ u := by omega
  have l122 : ¬ u ≤ 122 := by omega
  have l246 : u ≤ 246 := by omega
  have l254 : u ≤ 254 := by omega
  have l961 : u ≤ 961 := by omega
  have l969 : u ≤ 969 := by omega
  have l1103 : u ≤ 1103 := by omega
  have l311 : u ≤ 311 := by omega
  have l375 : u ≤ 375 := by omega
  have l1153 : u ≤ 1153 := by omega
  have l328 : u ≤ 328 := by omega
  have l1119 : u ≤ 1119 := by omega
  have e255 : ¬ u = 255 := by omega
  have e962 : ¬ u = 962 := by omega
  obtain ⟨q, hq⟩ : ∃ q : Bool, decide (u % 2 = 1) = q := ⟨_, rfl⟩
  clear h0 h1 hm
  go_enter Tryd.func36, Tryd.ntmps36
  go_wp2
  all_goals (go_ret; exact ⟨rfl, rfl⟩)

theorem rup_3 (u : Int) (h0 : 224 ≤ u) (h1 : u ≤ 246) (w : World) : Calls Tryd.prog 36 #[.int .u16 u] w fun e w' => e = .returned (.int .u16 (upM u)) ∧ w' = w := by
  have hm : upM u = u - 32 := by
    unfold upM
    simp only [rowsL, upL]
    rw [if_neg (by simp only [hitR]; omega), if_pos (by simp only [hitR]; omega)]
    rfl
  rw [hm]
  have g97 : 97 ≤ u := by omega
  have g224 : 224 ≤ u := by omega
  have g248 : ¬ 248 ≤ u := by omega
  have g945 : ¬ 945 ≤ u := by omega
  have g963 : ¬ 963 ≤ u := by omega
  have g1072 : ¬ 1072 ≤ u := by omega
  have g257 : ¬ 257 ≤ u := by omega
  have g331 : ¬ 331 ≤ u := by omega
  have g1121 : ¬ 1121 ≤ u := by omega
  have g314 : ¬ 314 ≤ u := by omega
  have g1104 : ¬ 1104 ≤ u := by omega
  have l122 : ¬ u ≤ 122 := by omega
  have l246 : u ≤ 246 := by omega
  have l254 : u ≤ 254 := by omega
  have l961 : u ≤ 961 := by omega
  have l969 : u ≤ 969 := by omega
  have l1103 : u ≤ 1103 := by omega
  have l311 : u ≤ 311 := by omega
  have l375 : u ≤ 375 := by omega
  have l1153 : u ≤ 1153 := by omega
  have l328 : u ≤ 328 := by omega
  have l1119 : u ≤ 1119 := by omega
  have e255 : ¬ u = 255 := by omega
  have e962 : ¬ u = 962 := by omega
  obtain ⟨q, hq⟩ : ∃ q : Bool, decide (u % 2 = 1) = q := ⟨_, rfl⟩
  have hw : IntKind.u16.wrap (u - 32) = u - 32 := u16_in _ (by omega) (by omega)
  clear h0 h1 hm
  go_enter Tryd.func36, Tryd.ntmps36
  go_wp2
  all_goals (go_ret; exact ⟨rfl, rfl⟩)

theorem rup_4 (u : Int) (h0 : 247 ≤ u) (h1 : u ≤ 247) (w : World) : Calls Tryd.prog 36 #[.int .u16 u] w fun e w' => e = .returned (.int .u16 (upM u)) ∧ w' = w := by
  have hm : upM u = u := by
    unfold upM
    simp only [rowsL, upL]
    rw [if_neg (by simp only [hitR]; omega), if_neg (by simp only [hitR]; omega), if_neg (by simp only [hitR]; omega), if_neg (by simp only [hitR]; omega), if_neg (by simp only [hitR]; omega), if_neg (by simp only [hitR]; omega), if_neg (by simp only [hitR]; omega), if_neg (by simp only [hitR]; omega), if_neg (by simp only [hitR]; omega), if_neg (by simp only [hitR]; omega), if_neg (by simp only [hitR]; omega), if_neg (by simp only [hitR]; omega), if_neg (by simp only [hitR]; omega)]
  rw [hm]
  have g97 : 97 ≤ u := by omega
  have g224 : 224 ≤ u := by omega
  have g248 : ¬ 248 ≤ u := by omega
  have g945 : ¬ 945 ≤ u := by omega
  have g963 : ¬ 963 ≤ u := by omega
  have g1072 : ¬ 1072 ≤ u := by omega
  have g257 : ¬ 257 ≤ u := by omega
  have g331 : ¬ 331 ≤ u := by omega
  have g1121 : ¬ 1121 ≤ u := by omega
  have g314 : ¬ 314 ≤ u := by omega
  have g1104 : ¬ 1104 ≤ u := by omega
  have l122 : ¬ u ≤ 122 := by omega
  have l246 : ¬ u ≤ 246 := by omega
  have l254 : u ≤ 254 := by omega
  have l961 : u ≤ 961 := by omega
  have l969 : u ≤ 969 := by omega
  have l1103 : u ≤ 1103 := by omega
  have l311 : u ≤ 311 := by omega
  have l375 : u ≤ 375 := by omega
  have l1153 : u ≤ 1153 := by omega
  have l328 : u ≤ 328 := by omega
  have l1119 : u ≤ 1119 := by omega
  have e255 : ¬ u = 255 := by omega
  have e962 : ¬ u = 962 := by omega
  obtain ⟨q, hq⟩ : ∃ q : Bool, decide (u % 2 = 1) = q := ⟨_, rfl⟩
  clear h0 h1 hm
  go_enter Tryd.func36, Tryd.ntmps36
  go_wp2
  all_goals (go_ret; exact ⟨rfl, rfl⟩)

theorem rup_5 (u : Int) (h0 : 248 ≤ u) (h1 : u ≤ 254) (w : World) : Calls Tryd.prog 36 #[.int .u16 u] w fun e w' => e = .returned (.int .u16 (upM u)) ∧ w' = w := by
  have hm : upM u = u - 32 := by
    unfold upM
    simp only [rowsL, upL]
    rw [if_neg (by simp only [hitR]; omega), if_neg (by simp only [hitR]; omega), if_pos (by simp only [hitR]; omega)]
    rfl
  rw [hm]
  have g97 : 97 ≤ u := by omega
  have g224 : 224 ≤ u := by omega
  have g248 : 248 ≤ u := by omega
  have g945 : ¬ 945 ≤ u := by omega
  have g963 : ¬ 963 ≤ u := by omega
  have g1072 : ¬ 1072 ≤ u := by omega
  have g257 : ¬ 257 ≤ u := by omega
  have g331 : ¬ 331 ≤ u := by omega
  have g1121 : ¬ 1121 ≤ u := by omega
  have g314 : ¬ 314 ≤ u := by omega
  have g1104 : ¬ 1104 ≤ u := by omega
  have l122 : ¬ u ≤ 122 := by omega
  have l246 : ¬ u ≤ 246 := by omega
  have l254 : u ≤ 254 := by omega
  have l961 : u ≤ 961 := by omega
  have l969 : u ≤ 969 := by omega
  have l1103 : u ≤ 1103 := by omega
  have l311 : u ≤ 311 := by omega
  have l375 : u ≤ 375 := by omega
  have l1153 : u ≤ 1153 := by omega
  have l328 : u ≤ 328 := by omega
  have l1119 : u ≤ 1119 := by omega
  have e255 : ¬ u = 255 := by omega
  have e962 : ¬ u = 962 := by omega
  obtain ⟨q, hq⟩ : ∃ q : Bool, decide (u % 2 = 1) = q := ⟨_, rfl⟩
  have hw : IntKind.u16.wrap (u - 32) = u - 32 := u16_in _ (by omega) (by omega)
  clear h0 h1 hm
  go_enter Tryd.func36, Tryd.ntmps36
  go_wp2
  all_goals (go_ret; exact ⟨rfl, rfl⟩)

theorem rup_6 (u : Int) (h0 : 255 ≤ u) (h1 : u ≤ 255) (w : World) : Calls Tryd.prog 36 #[.int .u16 u] w fun e w' => e = .returned (.int .u16 (upM u)) ∧ w' = w := by
  have hm : upM u = 376 := by
    unfold upM
    simp only [rowsL, upL]
    rw [if_neg (by simp only [hitR]; omega), if_neg (by simp only [hitR]; omega), if_neg (by simp only [hitR]; omega), if_pos (by simp only [hitR]; omega)]
    omega
  rw [hm]
  have g97 : 97 ≤ u := by omega
  have g224 : 224 ≤ u := by omega
  have g248 : 248 ≤ u := by omega
  have g945 : ¬ 945 ≤ u := by omega
  have g963 : ¬ 963 ≤ u := by omega
  have g1072 : ¬ 1072 ≤ u := by omega
  have g257 : ¬ 257 ≤ u := by omega
  have g331 : ¬ 331 ≤ u := by omega
  have g1121 : ¬ 1121 ≤ u := by omega
  have g314 : ¬ 314 ≤ u := by omega
  have g1104 : ¬ 1104 ≤ u := by omega
  have l122 : ¬ u ≤ 122 := by omega
  have l246 : ¬ u ≤ 246 := by omega
  have l254 : ¬ u ≤ 254 := by omega
  have l961 : u ≤ 961 := by omega
  have l969 : u ≤ 969 := by omega
  have l1103 : u ≤ 1103 := by omega
  have l311 : u ≤ 311 := by omega
  have l375 : u ≤ 375 := by omega
  have l1153 : u ≤ 1153 := by omega
  have l328 : u ≤ 328 := by omega
  have l1119 : u ≤ 1119 := by omega
  have e255 : u = 255 := by omega
  have e962 : ¬ u = 962 := by omega
  obtain ⟨q, hq⟩ : ∃ q : Bool, decide (u % 2 = 1) = q := ⟨_, rfl⟩
  clear h0 h1 hm
  go_enter Tryd.func36, Tryd.ntmps36
  go_wp2
  all_goals (go_ret; exact ⟨rfl, rfl⟩)

theorem rup_7 (u : Int) (h0 : 256 ≤ u) (h1 : u ≤ 256) (w : World) : Calls Tryd.prog 36 #[.int .u16 u] w fun e w' => e = .returned (.int .u16 (upM u)) ∧ w' = w := by
  have hm : upM u = u := by
    unfold upM
    simp only [rowsL, upL]
    rw [if_neg (by simp only [hitR]; omega), if_neg (by simp only [hitR]; omega), if_neg (by simp only [hitR]; omega), if_neg (by simp only [hitR]; omega), if_neg (by simp only [hitR]; omega), if_neg (by simp only [hitR]; omega), if_neg (by simp only [hitR]; omega), if_neg (by simp only [hitR]; omega), if_neg (by simp only [hitR]; omega), if_neg (by simp only [hitR]; omega), if_neg (by simp only [hitR]; omega), if_neg (by simp only [hitR]; omega), if_neg (by simp only [hitR]; omega)]
  rw [hm]
  have g97 : 97 ≤ u := by omega
  have g224 : 224 ≤ u := by omega
  have g248 : 248 ≤ u := by omega
  have g945 : ¬ 945 ≤ u := by omega
  have g963 : ¬ 963 ≤ u := by omega
  have g1072 : ¬ 1072 ≤ u := by omega
  have g257 : ¬ 257 ≤ u := by omega
  have g331 : ¬ 331 ≤ u := by omega
  have g1121 : ¬ 1121 ≤ u := by omega
  have g314 : ¬ 314 ≤ u := by omega
  have g1104 : ¬ 1104 ≤ u := by omega
  have l122 : ¬ u ≤ 122 := by omega
  have l246 : ¬ u ≤ 246 := by omega
  have l254 : ¬ u ≤ 254 := by omega
  have l961 : u ≤ 961 := by omega
  have l969 : u ≤ 969 := by omega
  have l1103 : u ≤ 1103 := by omega
  have l311 : u ≤ 311 := by omega
  have l375 : u ≤ 375 := by omega
  have l1153 : u ≤ 1153 := by omega
  have l328 : u ≤ 328 := by omega
  have l1119 : u ≤ 1119 := by omega
  have e255 : ¬ u = 255 := by omega
  have e962 : ¬ u = 962 := by omega
  obtain ⟨q, hq⟩ : ∃ q : Bool, decide (u % 2 = 1) = q := ⟨_, rfl⟩
  clear h0 h1 hm
  go_enter Tryd.func36, Tryd.ntmps36
  go_wp2
  all_goals (go_ret; exact ⟨rfl, rfl⟩)

theorem rup_8 (u : Int) (h0 : 257 ≤ u) (h1 : u ≤ 311) (hp : u % 2 = 1) (w : World) : Calls Tryd.prog 36 #[.int .u16 u] w fun e w' => e = .returned (.int .u16 (upM u)) ∧ w' = w := by
  have hm : upM u = u - 1 := by
    unfold upM
    simp only [rowsL, upL]
    rw [if_neg (by simp only [hitR]; omega), if_neg (by simp only [hitR]; omega), if_neg (by simp only [hitR]; omega), if_neg (by simp only [hitR]; omega), if_pos (by simp only [hitR]; omega)]
    rfl
  rw [hm]
  have g97 : 97 ≤ u := by omega
  have g224 : 224 ≤ u := by omega
  have g248 : 248 ≤ u := by omega
  have g945 : ¬ 945 ≤ u := by omega
  have g963 : ¬ 963 ≤ u := by omega
  have g1072 : ¬ 1072 ≤ u := by omega
  have g257 : 257 ≤ u := by omega
  have g331 : ¬ 331 ≤ u := by omega
  have g1121 : ¬ 1121 ≤ u := by omega
  have g314 : ¬ 314 ≤ u := by omega
  have g1104 : ¬ 1104 ≤ u := by omega
  have l122 : ¬ u ≤ 122 := by omega
  have l246 : ¬ u ≤ 246 := by omega
  have l254 : ¬ u ≤ 254 := by omega
  have l961 : u ≤ 961 := by omega
  have l969 : u ≤ 969 := by omega
  have l1103 : u ≤ 1103 := by omega
  have l311 : u ≤ 311 := by omega
  have l375 : u ≤ 375 := by omega
  have l1153 : u ≤ 1153 := by omega
  have l328 : u ≤ 328 := by omega
  have l1119 : u ≤ 1119 := by omega
  have e255 : ¬ u = 255 := by omega
  have e962 : ¬ u = 962 := by omega
  have hpar : u % 2 = 1 := by omega
  have hw : IntKind.u16.wrap (u - 1) = u - 1 := u16_in _ (by omega) (by omega)
  clear h0 h1 hm
  go_enter Tryd.func36, Tryd.ntmps36
  go_wp2
  all_goals (go_ret; exact ⟨rfl, rfl⟩)

theorem rup_9 (u : Int) (h0 : 257 ≤ u) (h1 : u ≤ 311) (hp : u % 2 = 0) (w : World) : Calls Tryd.prog 36 #[.int .u16 u] w fun e w' => e = .returned (.int .u16 (upM u)) ∧ w' = w := by
  have hm : upM u = u := by
    unfold upM
    simp only [rowsL, upL]
    rw [if_neg (by simp only [hitR]; omega), if_neg (by simp only [hitR]; omega), if_neg (by simp only [hitR]; omega), if_neg (by simp only [hitR]; omega), if_neg (by simp only [hitR]; omega), if_neg (by simp only [hitR]; omega), if_neg (by simp only [hitR]; omega), if_neg (by simp only [hitR]; omega), if_neg (by simp only [hitR]; omega), if_neg (by simp only [hitR]; omega), if_neg (by simp only [hitR]; omega), if_neg (by simp only [hitR]; omega), if_neg (by simp only [hitR]; omega)]
  rw [hm]
  have g97 : 97 ≤ u := by omega
  have g224 : 224 ≤ u := by omega
  have g248 : 248 ≤ u := by omega
  have g945 : ¬ 945 ≤ u := by omega
  have g963 : ¬ 963 ≤ u := by omega
  have g1072 : ¬ 1072 ≤ u := by omega
  have g257 : 257 ≤ u := by omega
  have g331 : ¬ 331 ≤ u := by omega
  have g1121 : ¬ 1121 ≤ u := by omega
  have g314 : ¬ 314 ≤ u := by omega
  have g1104 : ¬ 1104 ≤ u := by omega
  have l122 : ¬ u ≤ 122 := by omega
  have l246 : ¬ u ≤ 246 := by omega
  have l254 : ¬ u ≤ 254 := by omega
  have l961 : u ≤ 961 := by omega
  have l969 : u ≤ 969 := by omega
  have l1103 : u ≤ 1103 := by omega
  have l311 : u ≤ 311 := by omega
  have l375 : u ≤ 375 := by omega
  have l1153 : u ≤ 1153 := by omega
  have l328 : u ≤ 328 := by omega
  have l1119 : u ≤ 1119 := by omega
  have e255 : ¬ u = 255 := by omega
  have e962 : ¬ u = 962 := by omega
  have hpar : ¬ u % 2 = 1 := by omega
  clear h0 h1 hm
  go_enter Tryd.func36, Tryd.ntmps36
  go_wp2
  all_goals (go_ret; exact ⟨rfl, rfl⟩)

theorem rup_10 (u : Int) (h0 : 312 ≤ u) (h1 : u ≤ 313) (w : World) : Calls Tryd.prog 36 #[.int .u16 u] w fun e w' => e = .returned (.int .u16 (upM u)) ∧ w' = w := by
  have hm : upM u = u := by
    unfold upM
    simp only [rowsL, upL]
    rw [if_neg (by simp only [hitR]; omega), if_neg (by simp only [hitR]; omega), if_neg (by simp only [hitR]; omega), if_neg (by simp only [hitR]; omega), if_neg (by simp only [hitR]; omega), if_neg (by simp only [hitR]; omega), if_neg (by simp only [hitR]; omega), if_neg (by simp only [hitR]; omega), if_neg (by simp only [hitR]; omega), if_neg (by simp only [hitR]; omega), if_neg (by simp only [hitR]; omega), if_neg (by simp only [hitR]; omega), if_neg (by simp only [hitR]; omega)]
  rw [hm]
  have g97 : 97 ≤ u := by omega
  have g224 : 224 ≤ u := by omega
  have g248 : 248 ≤ u := by omega
  have g945 : ¬ 945 ≤ u := by omega
  have g963 : ¬ 963 ≤ u := by omega
  have g1072 : ¬ 1072 ≤ u := by omega
  have g257 : 257 ≤ u := by omega
  have g331 : ¬ 331 ≤ u := by omega
  have g1121 : ¬ 1121 ≤ u := by omega
  have g314 : ¬ 314 ≤ u := by omega
  have g1104 : ¬ 1104 ≤ u := by omega
  have l122 : ¬ u ≤ 122 := by omega
  have l246 : ¬ u ≤ 246 := by omega
  have l254 : ¬ u ≤ 254 := by omega
  have l961 : u ≤ 961 := by omega
  have l969 : u ≤ 969 := by omega
  have l1103 : u ≤ 1103 := by omega
  have l311 : ¬ u ≤ 311 := by omega
  have l375 : u ≤ 375 := by omega
  have l1153 : u ≤ 1153 := by omega
  have l328 : u ≤ 328 := by omega
  have l1119 : u ≤ 1119 := by omega
  have e255 : ¬ u = 255 := by omega
  have e962 : ¬ u = 962 := by omega
  obtain ⟨q, hq⟩ : ∃ q : Bool, decide (u % 2 = 1) = q := ⟨_, rfl⟩
  clear h0 h1 hm
  go_enter Tryd.func36, Tryd.ntmps36
  go_wp2
  all_goals (go_ret; exact ⟨rfl, rfl⟩)

theorem rup_11 (u : Int) (h0 : 314 ≤ u) (h1 : u ≤ 328) (hp : u % 2 = 1) (w : World) : Calls Tryd.prog 36 #[.int .u16 u] w fun e w' => e = .returned (.int .u16 (upM u)) ∧ w' = w := by
  have hm : upM u = u := by
    unfold upM
    simp only [rowsL, upL]
    rw [if_neg (by simp only [hitR]; omega), if_neg (by simp only [hitR]; omega), if_neg (by simp only [hitR]; omega), if_neg (by simp only [hitR]; omega), if_neg (by simp only [hitR]; omega), if_neg (by simp only [hitR]; omega), if_neg (by simp only [hitR]; omega), if_neg (by simp only [hitR]; omega), if_neg (by simp only [hitR]; omega), if_neg (by simp only [hitR]; omega), if_neg (by simp only [hitR]; omega), if_neg (by simp only [hitR]; omega), if_neg (by simp only [hitR]; omega)]
  rw [hm]
  have g97 : 97 ≤ u := by omega
  have g224 : 224 ≤ u := by omega
  have g248 : 248 ≤ u := by omega
  have g945 : ¬ 945 ≤ u := by omega
  have g963 : ¬ 963 ≤ u := by omega
  have g1072 : ¬ 1072 ≤ u := by omega
  have g257 : 257 ≤ u := by omega
  have g331 : ¬ 331 ≤ u := by omega
  have g1121 : ¬ 1121 ≤ u := by omega
  have g314 : 314 ≤ u := by omega
  have g1104 : ¬ 1104 ≤ u := by omega
  have l122 : ¬ u ≤ 122 := by omega
  have l246 : ¬ u ≤ 246 := by omega
  have l254 : ¬ u ≤ 254 := by omega
  have l961 : u ≤ 961 := by omega
  have l969 : u ≤ 969 := by omega
  have l1103 : u ≤ 1103 := by omega
  have l311 : ¬ u ≤ 311 := by omega
  have l375 : u ≤ 375 := by omega
  have l1153 : u ≤ 1153 := by omega
  have l328 : u ≤ 328 := by omega
  have l1119 : u ≤ 1119 := by omega
  have e255 : ¬ u = 255 := by omega
  have e962 : ¬ u = 962 := by omega
  have hpar : u % 2 = 1 := by omega
  clear h0 h1 hm
  go_enter Tryd.func36, Tryd.ntmps36
  go_wp2
  all_goals (go_ret; exact ⟨rfl, rfl⟩)

theorem rup_12 (u : Int) (h0 : 314 ≤ u) (h1 : u ≤ 328) (hp : u % 2 = 0) (w : World) : Calls Tryd.prog 36 #[.int .u16 u] w fun e w' => e = .returned (.int .u16 (upM u)) ∧ w' = w := by
  have hm : upM u = u - 1 := by
    unfold upM
    simp only [rowsL, upL]
    rw [if_neg (by simp only [hitR]; omega), if_neg (by simp only [hitR]; omega), if_neg (by simp only [hitR]; omega), if_neg (by simp only [hitR]; omega), if_neg (by simp only [hitR]; omega), if_pos (by simp only [hitR]; omega)]
    rfl
  rw [hm]
  have g97 : 97 ≤ u := by omega
  have g224 : 224 ≤ u := by omega
  have g248 : 248 ≤ u := by omega
  have g945 : ¬ 945 ≤ u := by omega
  have g963 : ¬ 963 ≤ u := by omega
  have g1072 : ¬ 1072 ≤ u := by omega
  have g257 : 257 ≤ u := by omega
  have g331 : ¬ 331 ≤ u := by omega
  have g1121 : ¬ 1121 ≤ u := by omega
  have g314 : 314 ≤ u := by omega
  have g1104 : ¬ 1104 ≤ u := by omega
  have l122 : ¬ u ≤ 122 := by omega
  have l246 : ¬ u ≤ 246 := by omega
  have l254 : ¬ u ≤ 254 := by omega
  have l961 : u ≤ 961 := by omega
  have l969 : u ≤ 969 := by omega
  have l1103 : u ≤ 1103 := by omega
  have l311 : ¬ u ≤ 311 := by omega
  have l375 : u ≤ 375 := by omega
  have l1153 : u ≤ 1153 := by omega
  have l328 : u ≤ 328 := by omega
  have l1119 : u ≤ 1119 := by omega
  have e255 : ¬ u = 255 := by omega
  have e962 : ¬ u = 962 := by omega
  have hpar : ¬ u % 2 = 1 := by omega
  have hw : IntKind.u16.wrap (u - 1) = u - 1 := u16_in _ (by omega) (by omega)
  clear h0 h1 hm
  go_enter Tryd.func36, Tryd.ntmps36
  go_wp2
  all_goals (go_ret; exact ⟨rfl, rfl⟩)

theorem rup_13 (u : Int) (h0 : 329 ≤ u) (h1 : u ≤ 330) (w : World) : Calls Tryd.prog 36 #[.int .u16 u] w fun e w' => e = .returned (.int .u16 (upM u)) ∧ w' = w := by
  have hm : upM u = u := by
    unfold upM
    simp only [rowsL, upL]
    rw [if_neg (by simp only [hitR]; omega), if_neg (by simp only [hitR]; omega), if_neg (by simp only [hitR]; omega), if_neg (by simp only [hitR]; omega), if_neg (by simp only [hitR]; omega), if_neg (by simp only [hitR]; omega), if_neg (by simp only [hitR]; omega), if_neg (by simp only [hitR]; omega), if_neg (by simp only [hitR]; omega), if_neg (by simp only [hitR]; omega), if_neg (by simp only [hitR]; omega), if_neg (by simp only [hitR]; omega), if_neg (by simp only [hitR]; omega)]
  rw [hm]
  have g97 : 97 ≤ u := by omega
  have g224 : 224 ≤ u := by omega
  have g248 : 248 ≤ u := by omega
  have g945 : ¬ 945 ≤ u := by omega
  have g963 : ¬ 963 ≤ u := by omega
  have g1072 : ¬ 1072 ≤ u := by omega
  have g257 : 257 ≤ u := by omega
  have g331 : ¬ 331 ≤ u := by omega
  have g1121 : ¬ 1121 ≤ u := by omega
  have g314 : 314 ≤ u := by omega
  have g1104 : ¬ 1104 ≤ u := by omega
  have l122 : ¬ u ≤ 122 := by omega
  have l246 : ¬ u ≤ 246 := by omega
  have l254 : ¬ u ≤ 254 := by omega
  have l961 : u ≤ 961 := by omega
  have l969 : u ≤ 969 := by omega
  have l1103 : u ≤ 1103 := by omega
  have l311 : ¬ u ≤ 311 := by omega
  have l375 : u ≤ 375 := by omega
  have l1153 : u ≤ 1153 := by omega
  have l328 : ¬ u ≤ 328 := by omega
  have l1119 : u ≤ 1119 := by omega
  have e255 : ¬ u = 255 := by omega
  have e962 : ¬ u = 962 := by omega
  obtain ⟨q, hq⟩ : ∃ q : Bool, decide (u % 2 = 1) = q := ⟨_, rfl⟩
  clear h0 h1 hm
  go_enter Tryd.func36, Tryd.ntmps36
  go_wp2
  all_goals (go_ret; exact ⟨rfl, rfl⟩)

theorem rup_14 (u : Int) (h0 : 331 ≤ u) (h1 : u ≤ 375) (hp : u % 2 = 1) (w : World) : Calls Tryd.prog 36 #[.int .u16 u] w fun e w' => e = .returned (.int .u16 (upM u)) ∧ w' = w := by
  have hm : upM u = u - 1 := by
    unfold upM
    simp only [rowsL, upL]
    rw [if_neg (by simp only [hitR]; omega), if_neg (by simp only [hitR]; omega), if_neg (by simp only [hitR]; omega), if_neg (by simp only [hitR]; omega), if_neg (by simp only [hitR]; omega), if_neg (by simp only [hitR]; omega), if_pos (by simp only [hitR]; omega)]
    rfl
  rw [hm]
  have g97 : 97 ≤ u := by omega
  have g224 : 224 ≤ u := by omega
  have g248 : 248 ≤ u := by omega
  have g945 : ¬ 945 ≤ u := by omega
  have g963 : ¬ 963 ≤ u := by omega
  have g1072 : ¬ 1072 ≤ u := by omega
  have g257 : 257 ≤ u := by omega
  have g331 : 331 ≤ u := by omega
  have g1121 : ¬ 1121 ≤ u := by omega
  have g314 : 314 ≤ u := by omega
  have g1104 : ¬ 1104 ≤ u := by omega
  have l122 : ¬ u ≤ 122 := by omega
  have l246 : ¬ u ≤ 246 := by omega
  have l254 : ¬ u ≤ 254 := by omega
  have l961 : u ≤ 961 := by omega
  have l969 : u ≤ 969 := by omega
  have l1103 : u ≤ 1103 := by omega
  have l311 : ¬ u ≤ 311 := by omega
  have l375 : u ≤ 375 := by omega
  have l1153 : u ≤ 1153 := by omega
  have l328 : ¬ u ≤ 328 := by omega
  have l1119 : u ≤ 1119 := by omega
  have e255 : ¬ u = 255 := by omega
  have e962 : ¬ u = 962 := by omega
  have hpar : u % 2 = 1 := by omega
  have hw : IntKind.u16.wrap (u - 1) = u - 1 := u16_in _ (by omega) (by omega)
  clear h0 h1 hm
  go_enter Tryd.func36, Tryd.ntmps36
  go_wp2
  all_goals (go_ret; exact ⟨rfl, rfl⟩)

theorem rup_15 (u : Int) (h0 : 331 ≤ u) (h1 : u ≤ 375) (hp : u % 2 = 0) (w : World) : Calls Tryd.prog 36 #[.int .u16 u] w fun e w' => e = .returned (.int .u16 (upM u)) ∧ w' = w := by
  have hm : upM u = u := by
    unfold upM
    simp only [rowsL, upL]
    rw [if_neg (by simp only [hitR]; omega), if_neg (by simp only [hitR]; omega), if_neg (by simp only [hitR]; omega), if_neg (by simp only [hitR]; omega), if_neg (by simp only [hitR]; omega), if_neg (by simp only [hitR]; omega), if_neg (by simp only [hitR]; omega), if_neg (by simp only [hitR]; omega), if_neg (by simp only [hitR]; omega), if_neg (by simp only [hitR]; omega), if_neg (by simp only [hitR]; omega), if_neg (by simp only [hitR]; omega), if_neg (by simp only [hitR]; omega)]
  rw [hm]
  have g97 : 97 ≤ u := by omega
  have g224 : 224 ≤ u := by omega
  have g248 : 248 ≤ u := by omega
  have g945 : ¬ 945 ≤ u := by omega
  have g963 : ¬ 963 ≤ u := by omega
  have g1072 : ¬ 1072 ≤ u := by omega
  have g257 : 257 ≤ u := by omega
  have g331 : 331 ≤ u := by omega
  have g1121 : ¬ 1121 ≤ u := by omega
  have g314 : 314 ≤ u := by omega
  have g1104 : ¬ 1104 ≤ u := by omega
  have l122 : ¬ u ≤ 122 := by omega
  have l246 : ¬ u ≤ 246 := by omega
  have l254 : ¬ u ≤ 254 := by omega
  have l961 : u ≤ 961 := by omega
  have l969 : u ≤ 969 := by omega
  have l1103 : u ≤ 1103 := by omega
  have l311 : ¬ u ≤ 311 := by omega
  have l375 : u ≤ 375 := by omega
  have l1153 : u ≤ 1153 := by omega
  have l328 : ¬ u ≤ 328 := by omega
  have l1119 : u ≤ 1119 := by omega
  have e255 : ¬ u = 255 := by omega
  have e962 : ¬ u = 962 := by omega
  have hpar : ¬ u % 2 = 1 := by omega
  clear h0 h1 hm
  go_enter Tryd.func36, Tryd.ntmps36
  go_wp2
  all_goals (go_ret; exact ⟨rfl, rfl⟩)

theorem rup_16 (u : Int) (h0 : 376 ≤ u) (h1 : u ≤ 944) (w : World) : Calls Tryd.prog 36 #[.int .u16 u] w fun e w' => e = .returned (.int .u16 (upM u)) ∧ w' = w := by
  have hm : upM u = u := by
    unfold upM
    simp only [rowsL, upL]
    rw [if_neg (by simp only [hitR]; omega), if_neg (by simp only [hitR]; omega), if_neg (by simp only [hitR]; omega), if_neg (by simp only [hitR]; omega), if_neg (by simp only [hitR]; omega), if_neg (by simp only [hitR]; omega), if_neg (by simp only [hitR]; omega), if_neg (by simp only [hitR]; omega), if_neg (by simp only [hitR]; omega), if_neg (by simp only [hitR]; omega), if_neg (by simp only [hitR]; omega), if_neg (by simp only [hitR]; omega), if_neg (by simp only [hitR]; omega)]
  rw [hm]
  have g97 : 97 ≤ u := by omega
  have g224 : 224 ≤ u := by omega
  have g248 : 248 ≤ u := by omega
  have g945 : ¬ 945 ≤ u := by omega
  have g963 : ¬ 963 ≤ u := by omega
  have g1072 : ¬ 1072 ≤ u := by omega
  have g257 : 257 ≤ u := by omega
  have g331 : 331 ≤ u := by omega
  have g1121 : ¬ 1121 ≤ u := by omega
  have g314 : 314 ≤ u := by omega
  have g1104 : ¬ 1104 ≤ u := by omega
  have l122 : ¬ u ≤ 122 := by omega
  have l246 : ¬ u ≤ 246 := by omega
  have l254 : ¬ u ≤ 254 := by omega
  have l961 : u ≤ 961 := by omega
  have l969 : u ≤ 969 := by omega
  have l1103 : u ≤ 1103 := by omega
  have l311 : ¬ u ≤ 311 := by omega
  have l375 : ¬ u ≤ 375 := by omega
  have l1153 : u ≤ 1153 := by omega
  have l328 : ¬ u ≤ 328 := by omega
  have l1119 : u ≤ 1119 := by omega
  have e255 : ¬ u = 255 := by omega
  have e962 : ¬ u = 962 := by omega
  obtain ⟨q, hq⟩ : ∃ q : Bool, decide (u % 2 = 1) = q := ⟨_, rfl⟩
  clear h0 h1 hm
  go_enter Tryd.func36, Tryd.ntmps36
  go_wp2
  all_goals (go_ret; exact ⟨rfl, rfl⟩)

theorem rup_17 (u : Int) (h0 : 945 ≤ u) (h1 : u ≤ 961) (w : World) : Calls Tryd.prog 36 #[.int .u16 u] w fun e w' => e = .returned (.int .u16 (upM u)) ∧ w' = w := by
  have hm : upM u = u - 32 := by
    unfold upM
    simp only [rowsL, upL]
    rw [if_neg (by simp only [hitR]; omega), if_neg (by simp only [hitR]; omega), if_neg (by simp only [hitR]; omega), if_neg (by simp only [hitR]; omega), if_neg (by simp only [hitR]; omega), if_neg (by simp only [hitR]; omega), if_neg (by simp only [hitR]; omega), if_pos (by simp only [hitR]; omega)]
    rfl
  rw [hm]
  have g97 : 97 ≤ u := by omega
  have g224 : 224 ≤ u := by omega
  have g248 : 248 ≤ u := by omega
  have g945 : 945 ≤ u := by omega
  have g963 : ¬ 963 ≤ u := by omega
  have g1072 : ¬ 1072 ≤ u := by omega
  have g257 : 257 ≤ u := by omega
  have g331 : 331 ≤ u := by omega
  have g1121 : ¬ 1121 ≤ u := by omega
  have g314 : 314 ≤ u := by omega
  have g1104 : ¬ 1104 ≤ u := by omega
  have l122 : ¬ u ≤ 122 := by omega
  have l246 : ¬ u ≤ 246 := by omega
  have l254 : ¬ u ≤ 254 := by omega
  have l961 : u ≤ 961 := by omega
  have l969 : u ≤ 969 := by omega
  have l1103 : u ≤ 1103 := by omega
  have l311 : ¬ u ≤ 311 := by omega
  have l375 : ¬ u ≤ 375 := by omega
  have l1153 : u ≤ 1153 := by omega
  have l328 : ¬ u ≤ 328 := by omega
  have l1119 : u ≤ 1119 := by omega
  have e255 : ¬ u = 255 := by omega
  have e962 : ¬ u = 962 := by omega
  obtain ⟨q, hq⟩ : ∃ q : Bool, decide (u % 2 = 1) = q := ⟨_, rfl⟩
  have hw : IntKind.u16.wrap (u - 32) = u - 32 := u16_in _ (by omega) (by omega)
  clear h0 h1 hm
  go_enter Tryd.func36, Tryd.ntmps36
  go_wp2
  all_goals (go_ret; exact ⟨rfl, rfl⟩)

theorem rup_18 (u : Int) (h0 : 962 ≤ u) (h1 : u ≤ 962) (w : World) : Calls Tryd.prog 36 #[.int .u16 u] w fun e w' => e = .returned (.int .u16 (upM u)) ∧ w' = w := by
  have hm : upM u = 931 := by
    unfold upM
    simp only [rowsL, upL]
    rw [if_neg (by simp only [hitR]; omega), if_neg (by simp only [hitR]; omega), if_neg (by simp only [hitR]; omega), if_neg (by simp only [hitR]; omega), if_neg (by simp only [hitR]; omega), if_neg (by simp only [hitR]; omega), if_neg (by simp only [hitR]; omega), if_neg (by simp only [hitR]; omega), if_pos (by simp only [hitR]; omega)]
    omega
  rw [hm]
  have g97 : 97 ≤ u := by omega
  have g224 : 224 ≤ u := by omega
  have g248 : 248 ≤ u := by omega
  have g945 : 945 ≤ u := by omega
  have g963 : ¬ 963 ≤ u := by omega
  have g1072 : ¬ 1072 ≤ u := by omega
  have g257 : 257 ≤ u := by omega
  have g331 : 331 ≤ u := by omega
  have g1121 : ¬ 1121 ≤ u := by omega
  have g314 : 314 ≤ u := by omega
  have g1104 : ¬ 1104 ≤ u := by omega
  have l122 : ¬ u ≤ 122 := by omega
  have l246 : ¬ u ≤ 246 := by omega
  have l254 : ¬ u ≤ 254 := by omega
  have l961 : ¬ u ≤ 961 := by omega
  have l969 : u ≤ 969 := by omega
  have l1103 : u ≤ 1103 := by omega
  have l311 : ¬ u ≤ 311 := by omega
  have l375 : ¬ u ≤ 375 := by omega
  have l1153 : u ≤ 1153 := by omega
  have l328 : ¬ u ≤ 328 := by omega
  have l1119 : u ≤ 1119 := by omega
  have e255 : ¬ u = 255 := by omega
  have e962 : u = 962 := by omega
  obtain ⟨q, hq⟩ : ∃ q : Bool, decide (u % 2 = 1) = q := ⟨_, rfl⟩
  clear h0 h1 hm
  go_enter Tryd.func36, Tryd.ntmps36
  go_wp2
  all_goals (go_ret; exact ⟨rfl, rfl⟩)

theorem rup_19 (u : Int) (h0 : 963 ≤ u) (h1 : u ≤ 969) (w : World) : Calls Tryd.prog 36 #[.int .u16 u] w fun e w' => e = .returned (.int .u16 (upM u)) ∧ w' = w := by
  have hm : upM u = u - 32 := by
    unfold upM
    simp only [rowsL, upL]
    rw [if_neg (by simp only [hitR]; omega), if_neg (by simp only [hitR]; omega), if_neg (by simp only [hitR]; omega), if_neg (by simp only [hitR]; omega), if_neg (by simp only [hitR]; omega), if_neg (by simp only [hitR]; omega), if_neg (by simp only [hitR]; omega), if_neg (by simp only [hitR]; omega), if_neg (by simp only [hitR]; omega), if_pos (by simp only [hitR]; omega)]
    rfl
  rw [hm]
  have g97 : 97 ≤ u := by omega
  have g224 : 224 ≤ u := by omega
  have g248 : 248 ≤ u := by omega
  have g945 : 945 ≤ u := by omega
  have g963 : 963 ≤ u := by omega
  have g1072 : ¬ 1072 ≤ u := by omega
  have g257 : 257 ≤ u := by omega
  have g331 : 331 ≤ u := by omega
  have g1121 : ¬ 1121 ≤ u := by omega
  have g314 : 314 ≤ u := by omega
  have g1104 : ¬ 1104 ≤ u := by omega
  have l122 : ¬ u ≤ 122 := by omega
  have l246 : ¬ u ≤ 246 := by omega
  have l254 : ¬ u ≤ 254 := by omega
  have l961 : ¬ u ≤ 961 := by omega
  have l969 : u ≤ 969 := by omega
  have l1103 : u ≤ 1103 := by omega
  have l311 : ¬ u ≤ 311 := by omega
  have l375 : ¬ u ≤ 375 := by omega
  have l1153 : u ≤ 1153 := by omega
  have l328 : ¬ u ≤ 328 := by omega
  have l1119 : u ≤ 1119 := by omega
  have e255 : ¬ u = 255 := by omega
  have e962 : ¬ u = 962 := by omega
  obtain ⟨q, hq⟩ : ∃ q : Bool, decide (u % 2 = 1) = q := ⟨_, rfl⟩
  have hw : IntKind.u16.wrap (u - 32) = u - 32 := u16_in _ (by omega) (by omega)
  clear h0 h1 hm
  go_enter Tryd.func36, Tryd.ntmps36
  go_wp2
  all_goals (go_ret; exact ⟨rfl, rfl⟩)

theorem rup_20 (u : Int) (h0 : 970 ≤ u) (h1 : u ≤ 1071) (w : World) : Calls Tryd.prog 36 #[.int .u16 u] w fun e w' => e = .returned (.int .u16 (upM u)) ∧ w' = w := by
  have hm : upM u = u := by
    unfold upM
    simp only [rowsL, upL]
    rw [if_neg (by simp only [hitR]; omega), if_neg (by simp only [hitR]; omega), if_neg (by simp only [hitR]; omega), if_neg (by simp only [hitR]; omega), if_neg (by simp only [hitR]; omega), if_neg (by simp only [hitR]; omega), if_neg (by simp only [hitR]; omega), if_neg (by simp only [hitR]; omega), if_neg (by simp only [hitR]; omega), if_neg (by simp only [hitR]; omega), if_neg (by simp only [hitR]; omega), if_neg (by simp only [hitR]; omega), if_neg (by simp only [hitR]; omega)]
  rw [hm]
  have g97 : 97 ≤ u := by omega
  have g224 : 224 ≤ u := by omega
  have g248 : 248 ≤ u := by omega
  have g945 : 945 ≤ u := by omega
  have g963 : 963 ≤ u := by omega
  have g1072 : ¬ 1072 ≤ u := by omega
  have g257 : 257 ≤ u := by omega
  have g331 : 331 ≤ u := by omega
  have g1121 : ¬ 1121 ≤ u := by omega
  have g314 : 314 ≤ u := by omega
  have g1104 : ¬ 1104 ≤ u := by omega
  have l122 : ¬ u ≤ 122 := by omega
  have l246 : ¬ u ≤ 246 := by omega
  have l254 : ¬ u ≤ 254 := by omega
  have l961 : ¬ u ≤ 961 := by omega
  have l969 : ¬ u ≤ 969 := by omega
  have l1103 : u ≤ 1103 := by omega
  have l311 : ¬ u ≤ 311 := by omega
  have l375 : ¬ u ≤ 375 := by omega
  have l1153 : u ≤ 1153 := by omega
  have l328 : ¬ u ≤ 328 := by omega
  have l1119 : u ≤ 1119 := by omega
  have e255 : ¬ u = 255 := by omega
  have e962 : ¬ u = 962 := by omega
  obtain ⟨q, hq⟩ : ∃ q : Bool, decide (u % 2 = 1) = q := ⟨_, rfl⟩
  clear h0 h1 hm
  go_enter Tryd.func36, Tryd.ntmps36
  go_wp2
  all_goals (go_ret; exact ⟨rfl, rfl⟩)

theorem rup_21 (u : Int) (h0 : 1072 ≤ u) (h1 : u ≤ 1103) (w : World) : Calls Tryd.prog 36 #[.int .u16 u] w fun e w' => e = .returned (.int .u16 (upM u)) ∧ w' = w := by
  have hm : upM u = u - 32 := by
    unfold upM
    simp only [rowsL, upL]
    rw [if_neg (by simp only [hitR]; omega), if_neg (by simp only [hitR]; omega), if_neg (by simp only [hitR]; omega), if_neg (by simp only [hitR]; omega), if_neg (by simp only [hitR]; omega), if_neg (by simp only [hitR]; omega), if_neg (by simp only [hitR]; omega), if_neg (by simp only [hitR]; omega), if_neg (by simp only [hitR]; omega), if_neg (by simp only [hitR]; omega), if_pos (by simp only [hitR]; omega)]
    rfl
  rw [hm]
  have g97 : 97 ≤ u := by omega
  have g224 : 224 ≤ u := by omega
  have g248 : 248 ≤ u := by omega
  have g945 : 945 ≤ u := by omega
  have g963 : 963 ≤ u := by omega
  have g1072 : 1072 ≤ u := by omega
  have g257 : 257 ≤ u := by omega
  have g331 : 331 ≤ u := by omega
  have g1121 : ¬ 1121 ≤ u := by omega
  have g314 : 314 ≤ u := by omega
  have g1104 : ¬ 1104 ≤ u := by omega
  have l122 : ¬ u ≤ 122 := by omega
  have l246 : ¬ u ≤ 246 := by omega
  have l254 : ¬ u ≤ 254 := by omega
  have l961 : ¬ u ≤ 961 := by omega
  have l969 : ¬ u ≤ 969 := by omega
  have l1103 : u ≤ 1103 := by omega
  have l311 : ¬ u ≤ 311 := by omega
  have l375 : ¬ u ≤ 375 := by omega
  have l1153 : u ≤ 1153 := by omega
  have l328 : ¬ u ≤ 328 := by omega
  have l1119 : u ≤ 1119 := by omega
  have e255 : ¬ u = 255 := by omega
  have e962 : ¬ u = 962 := by omega
  obtain ⟨q, hq⟩ : ∃ q : Bool, decide (u % 2 = 1) = q := ⟨_, rfl⟩
  have hw : IntKind.u16.wrap (u - 32) = u - 32 := u16_in _ (by omega) (by omega)
  clear h0 h1 hm
  go_enter Tryd.func36, Tryd.ntmps36
  go_wp2
  all_goals (go_ret; exact ⟨rfl, rfl⟩)

theorem rup_22 (u : Int) (h0 : 1104 ≤ u) (h1 : u ≤ 1119) (w : World) : Calls Tryd.prog 36 #[.int .u16 u] w fun e w' => e = .returned (.int .u16 (upM u)) ∧ w' = w := by
  have hm : upM u = u - 80 := by
    unfold upM
    simp only [rowsL, upL]
    rw [if_neg (by simp only [hitR]; omega), if_neg (by simp only [hitR]; omega), if_neg (by simp only [hitR]; omega), if_neg (by simp only [hitR]; omega), if_neg (by simp only [hitR]; omega), if_neg (by simp only [hitR]; omega), if_neg (by simp only [hitR]; omega), if_neg (by simp only [hitR]; omega), if_neg (by simp only [hitR]; omega), if_neg (by simp only [hitR]; omega), if_neg (by simp only [hitR]; omega), if_pos (by simp only [hitR]; omega)]
    rfl
  rw [hm]
  have g97 : 97 ≤ u := by omega
  have g224 : 224 ≤ u := by omega
  have g248 : 248 ≤ u := by omega
  have g945 : 945 ≤ u := by omega
  have g963 : 963 ≤ u := by omega
  have g1072 : 1072 ≤ u := by omega
  have g257 : 257 ≤ u := by omega
  have g331 : 331 ≤ u := by omega
  have g1121 : ¬ 1121 ≤ u := by omega
  have g314 : 314 ≤ u := by omega
  have g1104 : 1104 ≤ u := by omega
  have l122 : ¬ u ≤ 122 := by omega
  have l246 : ¬ u ≤ 246 := by omega
  have l254 : ¬ u ≤ 254 := by omega
  have l961 : ¬ u ≤ 961 := by omega
  have l969 : ¬ u ≤ 969 := by omega
  have l1103 : ¬ u ≤ 1103 := by omega
  have l311 : ¬ u ≤ 311 := by omega
  have l375 : ¬ u ≤ 375 := by omega
  have l1153 : u ≤ 1153 := by omega
  have l328 : ¬ u ≤ 328 := by omega
  have l1119 : u ≤ 1119 := by omega
  have e255 : ¬ u = 255 := by omega
  have e962 : ¬ u = 962 := by omega
  obtain ⟨q, hq⟩ : ∃ q : Bool, decide (u % 2 = 1) = q := ⟨_, rfl⟩
  have hw : IntKind.u16.wrap (u - 80) = u - 80 := u16_in _ (by omega) (by omega)
  clear h0 h1 hm
  go_enter Tryd.func36, Tryd.ntmps36
  go_wp2
  all_goals (go_ret; exact ⟨rfl, rfl⟩)

theorem rup_23 (u : Int) (h0 : 1120 ≤ u) (h1 : u ≤ 1120) (w : World) : Calls Tryd.prog 36 #[.int .u16 u] w fun e w' => e = .returned (.int .u16 (upM u)) ∧ w' = w := by
  have hm : upM u = u := by
    unfold upM
    simp only [rowsL, upL]
    rw [if_neg (by simp only [hitR]; omega), if_neg (by simp only [hitR]; omega), if_neg (by simp only [hitR]; omega), if_neg (by simp only [hitR]; omega), if_neg (by simp only [hitR]; omega), if_neg (by simp only [hitR]; omega), if_neg (by simp only [hitR]; omega), if_neg (by simp only [hitR]; omega), if_neg (by simp only [hitR]; omega), if_neg (by simp only [hitR]; omega), if_neg (by simp only [hitR]; omega), if_neg (by simp only [hitR]; omega), if_neg (by simp only [hitR]; omega)]
  rw [hm]
  have g97 : 97 ≤ u := by omega
  have g224 : 224 ≤ u := by omega
  have g248 : 248 ≤ u := by omega
  have g945 : 945 ≤ u := by omega
  have g963 : 963 ≤ u := by omega
  have g1072 : 1072 ≤ u := by omega
  have g257 : 257 ≤ u := by omega
  have g331 : 331 ≤ u := by omega
  have g1121 : ¬ 1121 ≤ u := by omega
  have g314 : 314 ≤ u := by omega
  have g1104 : 1104 ≤ u := by omega
  have l122 : ¬ u ≤ 122 := by omega
  have l246 : ¬ u ≤ 246 := by omega
  have l254 : ¬ u ≤ 254 := by omega
  have l961 : ¬ u ≤ 961 := by omega
  have l969 : ¬ u ≤ 969 := by omega
  have l1103 : ¬ u ≤ 1103 := by omega
  have l311 : ¬ u ≤ 311 := by omega
  have l375 : ¬ u ≤ 375 := by omega
  have l1153 : u ≤ 1153 := by omega
  have l328 : ¬ u ≤ 328 := by omega
  have l1119 : ¬ u ≤ 1119 := by omega
  have e255 : ¬ u = 255 := by omega
  have e962 : ¬ u = 962 := by omega
  obtain ⟨q, hq⟩ : ∃ q : Bool, decide (u % 2 = 1) = q := ⟨_, rfl⟩
  clear h0 h1 hm
  go_enter Tryd.func36, Tryd.ntmps36
  go_wp2
  all_goals (go_ret; exact ⟨rfl, rfl⟩)

theorem rup_24 (u : Int) (h0 : 1121 ≤ u) (h1 : u ≤ 1153) (hp : u % 2 = 1) (w : World) : Calls Tryd.prog 36 #[.int .u16 u] w fun e w' => e = .returned (.int .u16 (upM u)) ∧ w' = w := by
  have hm : upM u = u - 1 := by
    unfold upM
    simp only [rowsL, upL]
    rw [if_neg (by simp only [hitR]; omega), if_neg (by simp only [hitR]; omega), if_neg (by simp only [hitR]; omega), if_neg (by simp only [hitR]; omega), if_neg (by simp only [hitR]; omega), if_neg (by simp only [hitR]; omega), if_neg (by simp only [hitR]; omega), if_neg (by simp only [hitR]; omega), if_neg (by simp only [hitR]; omega), if_neg (by simp only [hitR]; omega), if_neg (by simp only [hitR]; omega), if_neg (by simp only [hitR]; omega), if_pos (by simp only [hitR]; omega)]
    rfl
  rw [hm]
  have g97 : 97 ≤ u := by omega
  have g224 : 224 ≤ u := by omega
  have g248 : 248 ≤ u := by omega
  have g945 : 945 ≤ u := by omega
  have g963 : 963 ≤ u := by omega
  have g1072 : 1072 ≤ u := by omega
  have g257 : 257 ≤ u := by omega
  have g331 : 331 ≤ u := by omega
  have g1121 : 1121 ≤ u := by omega
  have g314 : 314 ≤ u := by omega
  have g1104 : 1104 ≤ u := by omega
  have l122 : ¬ u ≤ 122 := by omega
  have l246 : ¬ u ≤ 246 := by omega
  have l254 : ¬ u ≤ 254 := by omega
  have l961 : ¬ u ≤ 961 := by omega
  have l969 : ¬ u ≤ 969 := by omega
  have l1103 : ¬ u ≤ 1103 := by omega
  have l311 : ¬ u ≤ 311 := by omega
  have l375 : ¬ u ≤ 375 := by omega
  have l1153 : u ≤ 1153 := by omega
  have l328 : ¬ u ≤ 328 := by omega
  have l1119 : ¬ u ≤ 1119 := by omega
  have e255 : ¬ u = 255 := by omega
  have e962 : ¬ u = 962 := by omega
  have hpar : u % 2 = 1 := by omega
  have hw : IntKind.u16.wrap (u - 1) = u - 1 := u16_in _ (by omega) (by omega)
  clear h0 h1 hm
  go_enter Tryd.func36, Tryd.ntmps36
  go_wp2
  all_goals (go_ret; exact ⟨rfl, rfl⟩)

theorem rup_25 (u : Int) (h0 : 1121 ≤ u) (h1 : u ≤ 1153) (hp : u % 2 = 0) (w : World) : Calls Tryd.prog 36 #[.int .u16 u] w fun e w' => e = .returned (.int .u16 (upM u)) ∧ w' = w := by
  have hm : upM u = u := by
    unfold upM
    simp only [rowsL, upL]
    rw [if_neg (by simp only [hitR]; omega), if_neg (by simp only [hitR]; omega), if_neg (by simp only [hitR]; omega), if_neg (by simp only [hitR]; omega), if_neg (by simp only [hitR]; omega), if_neg (by simp only [hitR]; omega), if_neg (by simp only [hitR]; omega), if_neg (by simp only [hitR]; omega), if_neg (by simp only [hitR]; omega), if_neg (by simp only [hitR]; omega), if_neg (by simp only [hitR]; omega), if_neg (by simp only [hitR]; omega), if_neg (by simp only [hitR]; omega)]
  rw [hm]
  have g97 : 97 ≤ u := by omega
  have g224 : 224 ≤ u := by omega
  have g248 : 248 ≤ u := by omega
  have g945 : 945 ≤ u := by omega
  have g963 : 963 ≤ u := by omega
  have g1072 : 1072 ≤ u := by omega
  have g257 : 257 ≤ u := by omega
  have g331 : 331 ≤ u := by omega
  have g1121 : 1121 ≤ u := by omega
  have g314 : 314 ≤ u := by omega
  have g1104 : 1104 ≤ u := by omega
  have l122 : ¬ u ≤ 122 := by omega
  have l246 : ¬ u ≤ 246 := by omega
  have l254 : ¬ u ≤ 254 := by omega
  have l961 : ¬ u ≤ 961 := by omega
  have l969 : ¬ u ≤ 969 := by omega
  have l1103 : ¬ u ≤ 1103 := by omega
  have l311 : ¬ u ≤ 311 := by omega
  have l375 : ¬ u ≤ 375 := by omega
  have l1153 : u ≤ 1153 := by omega
  have l328 : ¬ u ≤ 328 := by omega
  have l1119 : ¬ u ≤ 1119 := by omega
  have e255 : ¬ u = 255 := by omega
  have e962 : ¬ u = 962 := by omega
  have hpar : ¬ u % 2 = 1 := by omega
  clear h0 h1 hm
  go_enter Tryd.func36, Tryd.ntmps36
  go_wp2
  all_goals (go_ret; exact ⟨rfl, rfl⟩)

theorem rup_26 (u : Int) (h0 : 1154 ≤ u) (h1 : u ≤ 65535) (w : World) : Calls Tryd.prog 36 #[.int .u16 u] w fun e w' => e = .returned (.int .u16 (upM u)) ∧ w' = w := by
  have hm : upM u = u := by
    unfold upM
    simp only [rowsL, upL]
    rw [if_neg (by simp only [hitR]; omega), if_neg (by simp only [hitR]; omega), if_neg (by simp only [hitR]; omega), if_neg (by simp only [hitR]; omega), if_neg (by simp only [hitR]; omega), if_neg (by simp only [hitR]; omega), if_neg (by simp only [hitR]; omega), if_neg (by simp only [hitR]; omega), if_neg (by simp only [hitR]; omega), if_neg (by simp only [hitR]; omega), if_neg (by simp only [hitR]; omega), if_neg (by simp only [hitR]; omega), if_neg (by simp only [hitR]; omega)]
  rw [hm]
  have g97 : 97 ≤ u := by omega
  have g224 : 224 ≤ u := by omega
  have g248 : 248 ≤ u := by omega
  have g945 : 945 ≤ u := by omega
  have g963 : 963 ≤ u := by omega
  have g1072 : 1072 ≤ u := by omega
  have g257 : 257 ≤ u := by omega
  have g331 : 331 ≤ u := by omega
  have g1121 : 1121 ≤ u := by omega
  have g314 : 314 ≤ u := by omega
  have g1104 : 1104 ≤ u := by omega
  have l122 : ¬ u ≤ 122 := by omega
  have l246 : ¬ u ≤ 246 := by omega
  have l254 : ¬ u ≤ 254 := by omega
  have l961 : ¬ u ≤ 961 := by omega
  have l969 : ¬ u ≤ 969 := by omega
  have l1103 : ¬ u ≤ 1103 := by omega
  have l311 : ¬ u ≤ 311 := by omega
  have l375 : ¬ u ≤ 375 := by omega
  have l1153 : ¬ u ≤ 1153 := by omega
  have l328 : ¬ u ≤ 328 := by omega
  have l1119 : ¬ u ≤ 1119 := by omega
  have e255 : ¬ u = 255 := by omega
  have e962 : ¬ u = 962 := by omega
  obtain ⟨q, hq⟩ : ∃ q : Bool, decide (u % 2 = 1) = q := ⟨_, rfl⟩
  clear h0 h1 hm
  go_enter Tryd.func36, Tryd.ntmps36
  go_wp2
  all_goals (go_ret; exact ⟨rfl, rfl⟩)

theorem rup_any (u : Int) (h0 : 0 ≤ u) (h1 : u ≤ 65535) (w : World) : Calls Tryd.prog 36 #[.int .u16 u] w fun e w' => e = .returned (.int .u16 (upM u)) ∧ w' = w := by
  by_cases b0 : u ≤ 96
  · exact rup_0 u (by omega) b0 w
  by_cases b1 : u ≤ 122
  · exact rup_1 u (by omega) b1 w
  by_cases b2 : u ≤ 223
  · exact rup_2 u (by omega) b2 w
  by_cases b3 : u ≤ 246
  · exact rup_3 u (by omega) b3 w
  by_cases b4 : u ≤ 247
  · exact rup_4 u (by omega) b4 w
  by_cases b5 : u ≤ 254
  · exact rup_5 u (by omega) b5 w
  by_cases b6 : u ≤ 255
  · exact rup_6 u (by omega) b6 w
  by_cases b7 : u ≤ 256
  · exact rup_7 u (by omega) b7 w
  by_cases b8 : u ≤ 311
  · by_cases hp : u % 2 = 1
    · exact rup_8 u (by omega) b8 hp w
    · exact rup_9 u (by omega) b8 (by omega) w
  by_cases b10 : u ≤ 313
  · exact rup_10 u (by omega) b10 w
  by_cases b11 : u ≤ 328
  · by_cases hp : u % 2 = 1
    · exact rup_11 u (by omega) b11 hp w
    · exact rup_12 u (by omega) b11 (by omega) w
  by_cases b13 : u ≤ 330
  · exact rup_13 u (by omega) b13 w
  by_cases b14 : u ≤ 375
  · by_cases hp : u % 2 = 1
    · exact rup_14 u (by omega) b14 hp w
    · exact rup_15 u (by omega) b14 (by omega) w
  by_cases b16 : u ≤ 944
  · exact rup_16 u (by omega) b16 w
  by_cases b17 : u ≤ 961
  · exact rup_17 u (by omega) b17 w
  by_cases b18 : u ≤ 962
  · exact rup_18 u (by omega) b18 w
  by_cases b19 : u ≤ 969
  · exact rup_19 u (by omega) b19 w
  by_cases b20 : u ≤ 1071
  · exact rup_20 u (by omega) b20 w
  by_cases b21 : u ≤ 1103
  · exact rup_21 u (by omega) b21 w
  by_cases b22 : u ≤ 1119
  · exact rup_22 u (by omega) b22 w
  by_cases b23 : u ≤ 1120
  · exact rup_23 u (by omega) b23 w
  by_cases b24 : u ≤ 1153
  · by_cases hp : u % 2 = 1
    · exact rup_24 u (by omega) b24 hp w
    · exact rup_25 u (by omega) b24 (by omega) w
  exact rup_26 u (by omega) (by omega) w
end Go.Proofs.YtmbdiimenmnfjaaDoor
/- Walks: the document's order, Raised, Compare, Same. -/
namespace Go.Proofs.YtmbdiimenmnfjaaDoor
open Go.RowKit Go.Deep
open Go.Proofs.YtmbdiimenmnfjaaDoor.PNamesNames
open Go.Proofs.YtmbdiimenmnfjaaDoorW.PrintWords (rd bt Drawn0 Kd)
set_option linter.unusedVariables false
set_option linter.unusedSimpArgs false

theorem order_l (x y : List Int) (hx : x.length ≤ 1000000) : ∀ (k i : Nat), i ≤ x.length → i ≤ y.length → 2 * x.length + 2 < 2 * i + k → archivoltref05_order.l0 k x y (i : Int) = some (cmpU (x.drop i) (y.drop i))
  | 0, i, h1, h2, h3 => by omega
  | 1, i, h1, h2, h3 => by omega
  | k + 2, i, h1, h2, h3 => by
    rw [archivoltref05_order.l0]
    by_cases hi : i < x.length
    · rw [if_pos (by omega)]
      by_cases hj : i < y.length
      · have e1 : decide ((i : Int) < (y.length : Int)) = true := by rw [decide_eq_true_eq]; omega
        have ex : rd x (i : Int) = x.getD i 0 := rfl
        have ey : rd y (i : Int) = y.getD i 0 := rfl
        rw [e1, archivoltref05_order.j1, if_pos rfl, if_pos (by omega), if_pos (by omega), if_pos (by omega), ex, ey, drop_cons hi, drop_cons hj]
        simp only [cmpU]
        by_cases q1 : x.getD i 0 < y.getD i 0
        · rw [if_pos q1, if_pos q1]
        · rw [if_neg q1, if_neg q1]
          by_cases q2 : x.getD i 0 > y.getD i 0
          · rw [if_pos q2, if_pos q2]
          · have ew : wrap64 ((i : Int) + 1) = ((i + 1 : Nat) : Int) := by rw [w64 _ (by omega) (by omega)]; rfl
            rw [if_neg q2, if_neg q2, ew]
            exact order_l x y hx k (i + 1) (by omega) (by omega) (by omega)
      · have e1 : decide ((i : Int) < (y.length : Int)) = false := by rw [decide_eq_false_iff_not]; omega
        rw [e1, archivoltref05_order.j1, if_neg (by decide), drop_cons hi, List.drop_eq_nil_of_le (by omega : y.length ≤ i), if_neg (by omega), if_pos (by omega)]
        rfl
    · rw [if_neg (by omega), archivoltref05_order.j1, if_neg (by decide), List.drop_eq_nil_of_le (by omega : x.length ≤ i)]
      by_cases hj : i < y.length
      · rw [if_pos (by omega), drop_cons hj]; rfl
      · rw [if_neg (by omega), if_neg (by omega), List.drop_eq_nil_of_le (by omega : y.length ≤ i)]; rfl
theorem rorder_any (A0 A1 : Option Addr) (c0 c1 : Nat) (x y : List Int) (w : World) (h0 : Rd w .u16 A0 x.length x) (h1 : Rd w .u16 A1 y.length y) (k0 : x.length ≤ c0) (k1 : y.length ≤ c1) (hl : x.length ≤ 1000000) :
    Calls Tryd.prog 53 #[.slice A0 x.length c0, .slice A1 y.length c1] w fun e w' => e = .returned (.int .i64 (cmpU x y)) ∧ Drawn w w' :=
  (archivoltref05_order.calls (2 * x.length + 3) A0 c0 x A1 c1 y (cmpU x y) w (rdC h0) k0 (rdC h1) k1 (by
    unfold archivoltref05_order.f
    exact order_l x y hl (2 * x.length + 3) 0 (by omega) (by omega) (by omega))).mono fun e w' h => ⟨h.1, drawn0 h.2⟩
theorem rorder_up (A0 A1 : Option Addr) (c0 c1 : Nat) (x y : List Int) (w : World) (h0 : Rd w .u16 A0 x.length (x.map upM)) (h1 : Rd w .u16 A1 y.length (y.map upM)) (k0 : x.length ≤ c0) (k1 : y.length ≤ c1) (hl : x.length ≤ 1000000) :
    Calls Tryd.prog 53 #[.slice A0 x.length c0, .slice A1 y.length c1] w fun e w' => e = .returned (.int .i64 (cmpU (x.map upM) (y.map upM))) ∧ Drawn w w' := by
  have := rorder_any A0 A1 c0 c1 (x.map upM) (y.map upM) w (by rw [map_len]; exact h0) (by rw [map_len]; exact h1) (by rw [map_len]; exact k0) (by rw [map_len]; exact k1) (by rw [map_len]; exact hl)
  rwa [map_len, map_len] at this
theorem runits_ok (s : ByteArray) (hs : s.size ≤ 100000) (x : List Int) (hg : getU s = some x) (w : World) :
    Calls Tryd.prog 34 #[.string s] w fun e w' => (∃ A c, e = .returned (.agg #[.slice A x.length c, .int .i64 0]) ∧ x.length ≤ c ∧ Rd w' .u16 A x.length x) ∧ Below w.heap.size w w' := by
  have h := runits_any s hs w
  have e : refU s = (x, 0) := by unfold refU; rw [hg]
  rw [e] at h
  exact h
theorem runits_no (s : ByteArray) (hs : s.size ≤ 100000) (hg : getU s = none) (w : World) :
    Calls Tryd.prog 34 #[.string s] w fun e w' => (∃ A c, e = .returned (.agg #[.slice A 0 c, .int .i64 4])) ∧ Below w.heap.size w w' := by
  have h := runits_any s hs w
  have e : refU s = ([], 4) := by unfold refU; rw [hg]
  rw [e] at h
  exact h.mono fun e w' ⟨⟨A, c, he, _⟩, hB⟩ => ⟨⟨_, _, he⟩, hB⟩

set_option maxRecDepth 100000 in
set_option maxHeartbeats 4000000 in
theorem rraised_any (A : Option Addr) (c : Nat) (xs : List Int) (hn : xs.length ≤ 40000) (hx : U16 xs) (w : World) (hR : Rd w .u16 A xs.length xs) :
    Calls Tryd.prog 39 #[.slice A xs.length c] w fun e w' => (∃ A' c', e = .returned (.slice A' xs.length c') ∧ xs.length ≤ c' ∧ Rd w' .u16 A' xs.length (xs.map upM)) ∧ Below w.heap.size w w' := by
  obtain ⟨i0, hi, hz0, hz1, hz2⟩ := info_parts info46
  have HR := Lib.hid hR
  have HX := Lib.hid hx
  clear hR hx
  go_enter Tryd.func39, Tryd.ntmps39
  go_wp2
  go_loopw [3, 4] (fun v i W => ∃ j : Nat, j ≤ xs.length ∧ i = .int .i64 j ∧ Hid (W.ownsRow w.heap.size 46 1 v j (numK .u16 ((xs.take j).map upM))) ∧ Hid (Below w.heap.size w W)) (fun _ i _ => xs.length - (intOf i).toNat)
  case atStart => exact ⟨0, by omega, rfl, Lib.hid (World.ownsRow_nil _ _ _ _), Lib.hid (Below.refl _ _)⟩
  case round =>
    obtain ⟨j, hj, rfl, HO, HB⟩ := hrel
    obtain ⟨Aq, cq, rfl, hcq⟩ := own_is_slice HO.out
    by_cases hlt : j < xs.length
    · have hlti : (j : Int) < xs.length := by omega
      obtain ⟨ad, hA, hcl⟩ := (HR.out.below HB.out).at_ j hlt
      subst hA
      obtain ⟨x, hx⟩ : ∃ x, xs.getD j 0 = x := ⟨_, rfl⟩
      have hxb := HX.out.get j
      rw [hx] at hcl hxb
      have htk : (xs.take (j + 1)).map upM = (xs.take j).map upM ++ [upM x] := by rw [List.take_add_one, ← hx, List.getD_eq_getElem?_getD, List.getElem?_eq_getElem hlt, List.map_append]; rfl
      obtain ⟨U, hU⟩ : ∃ U, upM x = U := ⟨_, rfl⟩
      rw [hU] at htk
      have HTK := Lib.hid htk
      have HU := Lib.hid hU
      have hbs := HB.out.size
      clear hx htk hU
      go_wp2_with (first
        | (go_at_call 36; refine (rup_any x (by omega) (by omega) _).mono ?_; rintro e w2 ⟨rfl, rfl⟩; rw [HU.out])
        | (at_builtin; refine wpList_append_own _ rfl _ _ 49 rfl w.heap.size 46 i0 (.int .u16 0) 1 2 Tryd.underlying49 hi hz0 hz1 hz2 rfl (by decide) _ j (numK .u16 ((xs.take j).map upM)) rfl (World.ownsRow.alloc HO.out _) ⟨_, 0, none⟩ 1 1 [.int .u16 U] rfl rfl (cell_new1 _ _ rfl _ _) (by simp [Value.oneCell']) (by simp only [maxLen]; omega) (by omega) (by simp; omega) ?_; intro v' w6 hown6 hgrow6 _; (have HQ6 := Lib.hid hown6); (have HB6 := Lib.hid ((below_al HB.out _).grown hgrow6 (by simp; omega) (fun kk hk => (HO.out.lt kk hk).1))); clear hown6 hgrow6))
      refine ⟨⟨j + 1, by omega, by simp, Lib.hid ?_, HB6⟩, by simp only [intOf]; omega⟩
      rw [HTK.out, numK_append]
      exact HQ6.out
    · have hie : j = xs.length := by omega
      subst hie
      have hlti : ¬ ((xs.length : Int) < xs.length) := by omega
      go_wp2
      go_ret
      have hO := HO.out
      rw [List.take_of_length_le (Nat.le_refl _)] at hO
      obtain ⟨A', c', e, hc', hRd, -⟩ := own_nums hO (by omega)
      cases e
      exact ⟨⟨_, _, rfl, hc', hRd⟩, HB.out⟩

theorem Rd.drew1 {w : World} {k : IntKind} {A : Option Addr} {n : Nat} {xs : List Int} (h : Rd w k A n xs) : Rd w.drew k A n xs := ⟨h.len, h.max, fun j hj => let ⟨ad, e, hc⟩ := h.at_ j hj; ⟨ad, e, hc⟩⟩
theorem two_at {W : World} {b : Nat} {u v : Value} {t : TypeId} (h : W.heap[b]? = some (.cells #[u, v] t (0, 0))) : W.cell? ⟨b, 0, none⟩ = some u ∧ W.cell? ⟨b, 1, none⟩ = some v ∧ W.frozen? ⟨b, 0, none⟩ = false ∧ b < W.heap.size :=
  ⟨by rw [cell_of_row _ _ _ _ _ _ h]; rfl, by rw [cell_of_row _ _ _ _ _ _ h]; rfl, by simp [World.frozen?, h], (Array.getElem?_eq_some_iff.1 h).1⟩

set_option maxRecDepth 100000 in
set_option maxHeartbeats 8000000 in
theorem rsame_any (a b : ByteArray) (ha : a.size ≤ 40000) (hb : b.size ≤ 40000) (w : World) : Calls Tryd.prog 24 #[.string a, .string b] w fun e w' => e = .returned (.bool (sameM a b)) ∧ Below w.heap.size w w' := by
  obtain ⟨C, hC⟩ : ∃ C, sameM a b = C := ⟨_, rfl⟩
  rw [hC]
  have HC := Lib.hid hC
  clear hC
  by_cases he : (a.toList == b.toList) = true
  · have hCt : C = true := by rw [← HC.out]; unfold sameM; rw [he]; rfl
    subst hCt
    go_enter Tryd.func24, Tryd.ntmps24
    go_wp2
    go_ret
    exact ⟨rfl, Below.refl _ _⟩
  · have he' : (a.toList == b.toList) = false := by simpa using he
    clear he
    cases hga : getU a with
    | none =>
      have hCf : C = false := by rw [← HC.out]; unfold sameM; rw [he', hga]; rfl
      subst hCf
      have hb2 : ∀ w, Calls Tryd.prog 34 #[.string b] w fun e w' => (∃ A n c q, e = .returned (.agg #[.slice A n c, .int .i64 q])) ∧ Below w.heap.size w w' := fun w => (runits_any b (by omega) w).mono fun e w' ⟨⟨A, c, he, _⟩, hB⟩ => ⟨⟨_, _, _, _, he⟩, hB⟩
      have HGA := Lib.hid hga
      have HB2 := Lib.hid hb2
      clear hga hb2
      go_enter Tryd.func24, Tryd.ntmps24
      go_upto_region 5 with (first
        | ((have hgd := HB1); clear hgd; go_at_call 34; refine (HB2.out _).mono ?_; rintro e w2 ⟨⟨A2, n2, c2, q2, rfl⟩, hB⟩; (have HX1 := Lib.hid (below_heap HX1.out hB)); (have HB3 := Lib.hid (below_then (below_al HB1.out _) (below_al HB1.out _).size hB)); clear hB)
        | (go_at_call 34; refine (runits_no a (by omega) HGA.out _).mono ?_; rintro e w1 ⟨⟨A1, c1, rfl⟩, hB⟩; (have HX1 := Lib.hid (heap_alloc_new w1 (.cells #[.slice A1 0 c1, .int .i64 4] 55))); (have HB1 := Lib.hid hB); clear hB))
      obtain ⟨B1, hB1⟩ : ∃ B1, w1.heap.size = B1 := ⟨_, rfl⟩
      obtain ⟨B2, hB2⟩ : ∃ B2, w2.heap.size = B2 := ⟨_, rfl⟩
      obtain ⟨W5, hW5⟩ : ∃ W5, w2.alloc (.cells #[.slice A2 n2 c2, .int .i64 q2] 55) = W5 := ⟨_, rfl⟩
      have k1 : W5.heap[B1]? = some (.cells #[.slice A1 0 c1, .int .i64 4] 55 (0, 0)) := by rw [← hW5, ← hB1]; exact heap_al HX1.out
      have k2 : W5.heap[B2]? = some (.cells #[.slice A2 n2 c2, .int .i64 q2] 55 (0, 0)) := by rw [← hW5, ← hB2]; exact heap_alloc_new _ _
      have HB5 : Hid (Below w.heap.size w W5) := Lib.hid (by rw [← hW5]; exact below_al HB3.out _)
      rw [hB1, hB2, hW5]
      obtain ⟨a0, a1, -, a3⟩ := two_at k1
      obtain ⟨b0, b1, -, b3⟩ := two_at k2
      clear hB1 hB2 hW5 k1 k2 HX1
      go_quiet (fail)
      go_wp2
      go_ret
      exact ⟨rfl, below_drewN HB5.out _⟩
    | some x =>
      cases hgb : getU b with
      | none =>
        have hCf : C = false := by rw [← HC.out]; unfold sameM; rw [he', hga, hgb]; rfl
        subst hCf
        have HGA := Lib.hid hga
        have HGB := Lib.hid hgb
        clear hga hgb
        go_enter Tryd.func24, Tryd.ntmps24
        go_upto_region 5 with (first
          | ((have hgd := HB1); clear hgd; go_at_call 34; refine (runits_no b (by omega) HGB.out _).mono ?_; rintro e w2 ⟨⟨A2, c2, rfl⟩, hB⟩; (have HX1 := Lib.hid (below_heap HX1.out hB)); (have HB3 := Lib.hid (below_then (below_al HB1.out _) (below_al HB1.out _).size hB)); clear hB)
          | (go_at_call 34; refine (runits_ok a (by omega) x HGA.out _).mono ?_; rintro e w1 ⟨⟨A1, c1, rfl, hc1, hR⟩, hB⟩; (have HX1 := Lib.hid (heap_alloc_new w1 (.cells #[.slice A1 x.length c1, .int .i64 0] 55))); (have HB1 := Lib.hid hB); clear hB hR))
        obtain ⟨B1, hB1⟩ : ∃ B1, w1.heap.size = B1 := ⟨_, rfl⟩
        obtain ⟨B2, hB2⟩ : ∃ B2, w2.heap.size = B2 := ⟨_, rfl⟩
        obtain ⟨W5, hW5⟩ : ∃ W5, w2.alloc (.cells #[.slice A2 0 c2, .int .i64 4] 55) = W5 := ⟨_, rfl⟩
        have k1 : W5.heap[B1]? = some (.cells #[.slice A1 x.length c1, .int .i64 0] 55 (0, 0)) := by rw [← hW5, ← hB1]; exact heap_al HX1.out
        have k2 : W5.heap[B2]? = some (.cells #[.slice A2 0 c2, .int .i64 4] 55 (0, 0)) := by rw [← hW5, ← hB2]; exact heap_alloc_new _ _
        have HB5 : Hid (Below w.heap.size w W5) := Lib.hid (by rw [← hW5]; exact below_al HB3.out _)
        rw [hB1, hB2, hW5]
        obtain ⟨a0, a1, -, a3⟩ := two_at k1
        obtain ⟨b0, b1, -, b3⟩ := two_at k2
        clear hB1 hB2 hW5 k1 k2 HX1
        go_quiet (fail)
        go_wp2
        go_ret
        exact ⟨rfl, below_drewN HB5.out _⟩
      | some y =>
        obtain ⟨r, hr⟩ : ∃ r, cmpU (x.map upM) (y.map upM) = r := ⟨_, rfl⟩
        have hCr : (r == 0) = C := by
          rw [← HC.out]; unfold sameM; rw [he', hga, hgb]
          simp only [Bool.false_or]
          rw [Bool.eq_iff_iff, beq_iff_eq, decide_eq_true_eq, ← hr, cmpU_zero]
        have hpx := getU_props hga
        have hpy := getU_props hgb
        have HR := Lib.hid hr
        have HXU := Lib.hid hpx.1
        have HYU := Lib.hid hpy.1
        have hlx : x.length ≤ 4096 := hpx.2.2
        have hly : y.length ≤ 4096 := hpy.2.2
        have HGA := Lib.hid hga
        have HGB := Lib.hid hgb
        clear hga hgb hpx hpy hr
        go_enter Tryd.func24, Tryd.ntmps24
        go_upto_region 5 with (first
          | ((have hgd := HB1); clear hgd; go_at_call 34; refine (runits_ok b (by omega) y HGB.out _).mono ?_; rintro e w2 ⟨⟨A2, c2, rfl, hc2, hR⟩, hB⟩; (have HX1 := Lib.hid (below_heap HX1.out hB)); (have HR1 := Lib.hid ((HR1.out.below (one_alloc _ _)).below hB)); (have HR2 := Lib.hid hR); (have HB3 := Lib.hid (below_then (below_al HB1.out _) (below_al HB1.out _).size hB)); clear hB hR)
          | (go_at_call 34; refine (runits_ok a (by omega) x HGA.out _).mono ?_; rintro e w1 ⟨⟨A1, c1, rfl, hc1, hR⟩, hB⟩; (have HX1 := Lib.hid (heap_alloc_new w1 (.cells #[.slice A1 x.length c1, .int .i64 0] 55))); (have HR1 := Lib.hid hR); (have HB1 := Lib.hid hB); clear hB hR))
        obtain ⟨B1, hB1⟩ : ∃ B1, w1.heap.size = B1 := ⟨_, rfl⟩
        obtain ⟨B2, hB2⟩ : ∃ B2, w2.heap.size = B2 := ⟨_, rfl⟩
        obtain ⟨W5, hW5⟩ : ∃ W5, w2.alloc (.cells #[.slice A2 y.length c2, .int .i64 0] 55) = W5 := ⟨_, rfl⟩
        have HX1' : Hid (W5.heap[B1]? = some (.cells #[.slice A1 x.length c1, .int .i64 0] 55 (0, 0))) := Lib.hid (by rw [← hW5, ← hB1]; exact heap_al HX1.out)
        have HX2 : Hid (W5.heap[B2]? = some (.cells #[.slice A2 y.length c2, .int .i64 0] 55 (0, 0))) := Lib.hid (by rw [← hW5, ← hB2]; exact heap_alloc_new _ _)
        have HB5 : Hid (Below w.heap.size w W5) := Lib.hid (by rw [← hW5]; exact below_al HB3.out _)
        have HRx : Hid (Rd W5 .u16 A1 x.length x) := Lib.hid (by rw [← hW5]; exact HR1.out.below (one_alloc _ _))
        have HRy : Hid (Rd W5 .u16 A2 y.length y) := Lib.hid (by rw [← hW5]; exact HR2.out.below (one_alloc _ _))
        rw [hB1, hB2, hW5]
        obtain ⟨a0, a1, -, a3⟩ := two_at HX1'.out
        obtain ⟨b0, b1, -, b3⟩ := two_at HX2.out
        clear hB1 hB2 hW5 HX1 HR1 HR2
        go_region_with (first
          | (go_at_call 53; refine (rorder_up A3 A4 c3 c4 x y _ HS1.out HS2.out hc3 hc4 (by omega)).mono ?_; rintro e w8 ⟨rfl, hD⟩; rw [HR.out]; (have HB8 := Lib.hid (below_drawn HB7.out hD)); clear hD)
          | ((have hgd := HS1); clear hgd; go_at_call 39; refine (rraised_any A2 c2 y (by omega) HYU.out _ HRy6.out).mono ?_; rintro e w7 ⟨⟨A4, c4, rfl, hc4, hR⟩, hB⟩; (have HS2 := Lib.hid hR); (have HS1 := Lib.hid (HS1.out.below hB)); (have HB7 := Lib.hid (below_then HB6.out HB6.out.size hB)); clear hB hR)
          | (go_at_call 39; refine (rraised_any A1 c1 x (by omega) HXU.out _ HRx.out.drew1).mono ?_; rintro e w6 ⟨⟨A3, c3, rfl, hc3, hR⟩, hB⟩; (have HS1 := Lib.hid hR); (have HRy6 := Lib.hid (HRy.out.drew1.below hB)); obtain ⟨a60, a61, -, a63⟩ := two_at (below_heap (w := W5.drew) HX1'.out hB); obtain ⟨b60, b61, -, b63⟩ := two_at (below_heap (w := W5.drew) HX2.out hB); (have HB6 := Lib.hid (below_then (below_drew1 HB5.out) (below_drew1 HB5.out).size hB)); clear hB hR))
        all_goals
          go_wp2
          go_ret
          exact ⟨rfl, HB8.out⟩
end Go.Proofs.YtmbdiimenmnfjaaDoor
/- The document's Check and IsShort: what was printed of them is the model. -/
namespace Go.Proofs.YtmbdiimenmnfjaaDoor
open Go.RowKit Go.Deep
open Go.Proofs.YtmbdiimenmnfjaaDoor.PNamesNames
open Go.Proofs.YtmbdiimenmnfjaaDoorW.PrintWords (rd bt Drawn0 Kd)
set_option linter.unusedVariables false
set_option linter.unusedSimpArgs false
set_option maxRecDepth 100000

theorem u16w (x : Int) (h0 : 0 ≤ x) (h1 : x ≤ 65535) : IntKind.u16.wrap x = x := by simp [IntKind.wrap, IntKind.bits, IntKind.signed]; omega
theorem drop_bts {s : ByteArray} {i : Nat} (h : i < s.size) : (bts s).drop i = (bts s).getD i 0 :: (bts s).drop (i + 1) := drop_cons (by rw [bts_len]; exact h)
theorem in_l (u : Int) (s : ByteArray) (hs : s.size ≤ 1000000) : ∀ (k i : Nat), i ≤ s.size → s.size < i + k → archivoltref05_in.l0 k u s (i : Int) = some (((bts s).drop i).any fun x => decide (x = u))
  | 0, i, h1, h2 => by omega
  | k + 1, i, h1, h2 => by
    unfold archivoltref05_in.l0
    by_cases hi : i < s.size
    · have hb := bts_bd s i
      have e1 : IntKind.u16.wrap ((bts s).getD i 0) = (bts s).getD i 0 := u16w _ (by omega) (by omega)
      rw [if_pos (by omega), if_pos (by omega), bt_bts s i hi, e1, drop_bts hi, List.any_cons]
      by_cases q : (bts s).getD i 0 = u
      · rw [if_pos q, decide_eq_true q]; rfl
      · have ew : wrap64 ((i : Int) + 1) = ((i + 1 : Nat) : Int) := by rw [w64 _ (by omega) (by omega)]; rfl
        rw [if_neg q, decide_eq_false q, Bool.false_or, ew]
        exact in_l u s hs k (i + 1) (by omega) (by omega)
    · rw [if_neg (by omega), List.drop_eq_nil_of_le (by rw [bts_len]; omega)]; rfl
theorem in_f (u : Int) (s : ByteArray) (hs : s.size ≤ 1000000) (k : Nat) (hk : s.size < k) : archivoltref05_in.f k u s = some ((bts s).any fun x => decide (x = u)) := by
  unfold archivoltref05_in.f
  have := in_l u s hs k 0 (by omega) (by omega)
  exact this

/-! The last unit, the last byte. -/
theorem encB_last (c : Int) (h0 : 0 ≤ c) : ∃ p b, encB c = p ++ [b] ∧ ((c < 128 ∧ b = c) ∨ (128 ≤ c ∧ 128 ≤ b)) := by
  unfold encB
  split
  · exact ⟨[], c, rfl, Or.inl ⟨by assumption, rfl⟩⟩
  split
  · exact ⟨[_], _, rfl, Or.inr ⟨by omega, by omega⟩⟩
  split
  · exact ⟨[_, _], _, rfl, Or.inr ⟨by omega, by omega⟩⟩
  · exact ⟨[_, _, _], _, rfl, Or.inr ⟨by omega, by omega⟩⟩
theorem text_last : ∀ (l : List Int) (u : Int), U16 (l ++ [u]) → ∃ p b, textM (l ++ [u]) = p ++ [b] ∧ ((u < 128 ∧ b = u) ∨ (128 ≤ u ∧ 128 ≤ b))
  | [], u, h => by
    have := h u (by simp)
    exact encB_last u this.1
  | [c], u, h => by
    have hc := h c (by simp)
    have hu := h u (by simp)
    simp only [List.cons_append, List.nil_append]
    by_cases q : pairU c u
    · rw [textM_pair c u [] q]
      unfold pairU at q
      obtain ⟨p, b, e, h1⟩ := encB_last (65536 + (c - 55296) * 1024 + u - 56320) (by omega)
      exact ⟨p, b, by rw [e]; simp [textM], Or.inr ⟨by omega, by omega⟩⟩
    · rw [textM_one c [u] (fun d r e => by cases e; exact q)]
      obtain ⟨p, b, e, h1⟩ := encB_last u hu.1
      exact ⟨encB c ++ p, b, by rw [show textM [u] = encB u from rfl, e, List.append_assoc], h1⟩
  | c :: d :: r, u, h => by
    simp only [List.cons_append]
    by_cases q : pairU c d
    · rw [textM_pair c d _ q]
      obtain ⟨p, b, e, h1⟩ := text_last r u (fun x hx => h x (by simp only [List.cons_append]; exact List.mem_cons_of_mem _ (List.mem_cons_of_mem _ hx)))
      exact ⟨_ ++ p, b, by rw [e, ← List.append_assoc], h1⟩
    · rw [textM_one c (d :: (r ++ [u])) (fun d' r' e => by cases e; exact q)]
      obtain ⟨p, b, e, h1⟩ := text_last (d :: r) u (fun x hx => h x (by simp only [List.cons_append] at hx ⊢; exact List.mem_cons_of_mem _ hx))
      simp only [List.cons_append] at e
      exact ⟨_ ++ p, b, by rw [e, ← List.append_assoc], h1⟩
theorem suffix_iff {s : ByteArray} {p : List Int} {b : Int} (h : bts s = p ++ [b]) (x : UInt8) : Lib.hasSuffix s.data.toList [x] = decide (b = x.toNat) := by
  have hne : s.data.toList ≠ [] := fun e => by unfold bts at h; rw [e] at h; simp at h
  obtain ⟨t, y, hty⟩ : ∃ t y, s.data.toList = t ++ [y] := ⟨_, _, (List.dropLast_concat_getLast hne).symm⟩
  unfold bts at h
  rw [hty, List.map_append] at h
  have hb := (List.append_inj' h rfl).2
  simp only [List.map_cons, List.map_nil, List.cons.injEq, and_true] at hb
  rw [hty, Bool.eq_iff_iff, decide_eq_true_eq]
  unfold Lib.hasSuffix
  rw [List.isSuffixOf_iff_suffix]
  constructor
  · rintro ⟨q, hq⟩
    have := (List.append_inj' hq rfl).2
    simp only [List.cons.injEq, and_true] at this
    rw [← hb, this]
  · intro e
    refine ⟨t, ?_⟩
    have : y = x := UInt8.toNat_inj.1 (by omega)
    rw [this]
theorem badL : bts ⟨#[34, 42, 47, 58, 60, 62, 63, 92, 124]⟩ = [34, 42, 47, 58, 60, 62, 63, 92, 124] := by decide
theorem bad_small : ∀ n : Nat, n < 128 → (([34, 42, 47, 58, 60, 62, 63, 92, 124] : List Int).any fun x => decide (x = (n : Int))) = decide (0 ≤ Lib.indexByte [34, 42, 47, 58, 60, 62, 63, 92, 124] (UInt8.ofNat n)) := by decide +kernel
theorem bad_in (u : Int) (h0 : 0 ≤ u) : (([34, 42, 47, 58, 60, 62, 63, 92, 124] : List Int).any fun x => decide (x = u)) = (decide (u < 128) && decide (0 ≤ Lib.indexByte [34, 42, 47, 58, 60, 62, 63, 92, 124] (UInt8.ofNat u.toNat))) := by
  rcases Int.lt_or_le u 128 with h | h
  · obtain ⟨n, rfl⟩ : ∃ n : Nat, u = n := ⟨u.toNat, by omega⟩
    rw [bad_small n (by omega), decide_eq_true h, Bool.true_and, Int.toNat_natCast]
  · rw [decide_eq_false (by omega : ¬ u < 128), Bool.false_and]
    simp
    omega
theorem check_l (l : List Int) (hu : U16 l) (hl : l.length ≤ 1000000) (e : Int) : ∀ (k i : Nat), i ≤ l.length → l.length + 12 < i + k → archivoltref05_Check.l0 k (l.length : Int) (i : Int) l e = some (if (l.drop i).any unitBad = true then 19 else 0)
  | 0, i, h1, h2 => by omega
  | k + 1, i, h1, h2 => by
    rw [archivoltref05_Check.l0]
    by_cases hi : i < l.length
    · have hb := hu.get i
      have ex : rd l (i : Int) = l.getD i 0 := rfl
      rw [if_pos (by omega), if_pos (by omega), if_pos (by omega), ex, drop_cons hi, List.any_cons]
      by_cases q : l.getD i 0 < 32
      · have : unitBad (l.getD i 0) = true := by unfold unitBad; rw [decide_eq_true q]; rfl
        rw [if_pos q, this, Bool.true_or, if_pos rfl]
      · rw [if_neg q, in_f _ _ (by decide) k (by have : (⟨#[34, 42, 47, 58, 60, 62, 63, 92, 124]⟩ : ByteArray).size = 9 := rfl; omega), badL, bad_in _ hb.1]
        simp only [Option.bind_some]
        have e1 : unitBad (l.getD i 0) = (decide (l.getD i 0 < 128) && decide (0 ≤ Lib.indexByte [34, 42, 47, 58, 60, 62, 63, 92, 124] (UInt8.ofNat (l.getD i 0).toNat))) := by unfold unitBad; rw [decide_eq_false q, Bool.false_or]
        rw [← e1]
        cases h : unitBad (l.getD i 0) with
        | true => rw [if_pos rfl, Bool.true_or, if_pos rfl]
        | false =>
          have ew : wrap64 ((i : Int) + 1) = ((i + 1 : Nat) : Int) := by rw [w64 _ (by omega) (by omega)]; rfl
          rw [if_neg (by decide), Bool.false_or, ew]
          exact check_l l hu hl e k (i + 1) (by omega) (by omega)
    · rw [if_neg (by omega), List.drop_eq_nil_of_le (by omega)]; rfl
theorem check_f (s : ByteArray) (hs : s.size ≤ 100000) (K : Nat) (hK : 2 * s.size + 40 ≤ K) : archivoltref05_Check.f K s = some (checkM s) := by
  unfold archivoltref05_Check.f
  rw [units_f s (by omega) K (by omega), Option.bind_some]
  obtain ⟨k, rfl⟩ : ∃ k, K = k + 1 := ⟨K - 1, by omega⟩
  unfold refU checkM
  cases hg : getU s with
  | none => simp
  | some l =>
    have hp := getU_props hg
    simp only [if_true]
    have h19 : ∀ (x : Int) (y : List Int) (z : Int), archivoltref05_Check.j0 (k + 1) x true y z = some 19 := fun x y z => by rw [archivoltref05_Check.j0]; rfl
    by_cases q1 : l.length < 1
    · rw [if_pos (by omega), h19, if_pos (Or.inl q1)]
    rw [if_neg (by omega)]
    by_cases q2 : 32 < l.length
    · rw [if_pos (by omega), h19, if_pos (Or.inr (Or.inl q2))]
    rw [if_neg (by omega)]
    have hnb : ∀ b : Bool, nameBad s = b → (l.length < 1 ∨ 32 < l.length ∨ nameBad s = true ↔ b = true) := fun b hb => ⟨fun h => by
      rcases h with h | h | h
      · exact absurd h q1
      · exact absurd h q2
      · rw [← hb]; exact h, fun h => Or.inr (Or.inr (hb.trans h))⟩
    by_cases q3 : s.toList = [46]
    · rw [if_pos q3, h19, if_pos ((hnb true (by unfold nameBad; simp [q3])).2 rfl)]
    rw [if_neg q3]
    by_cases q4 : s.toList = [46, 46]
    · rw [if_pos q4, h19, if_pos ((hnb true (by unfold nameBad; simp [q4])).2 rfl)]
    rw [if_neg q4]
    have e1 : wrap64 ((l.length : Int) - 1) = ((l.length - 1 : Nat) : Int) := by rw [w64 _ (by omega) (by omega)]; omega
    rw [e1, if_pos (by omega), if_pos (by omega)]
    obtain ⟨u, hu⟩ : ∃ u, l.getD (l.length - 1) 0 = u := ⟨_, rfl⟩
    have hne : l ≠ [] := fun e => by rw [e] at q1; simp at q1
    have hlast : l.getLast hne = u := by rw [← hu, List.getLast_eq_getElem, List.getD_eq_getElem?_getD, List.getElem?_eq_getElem (by omega)]; rfl
    have hsp : l = l.dropLast ++ [u] := by rw [← hlast]; exact (List.dropLast_concat_getLast hne).symm
    have ex : rd l ((l.length - 1 : Nat) : Int) = u := hu
    rw [ex, in_f _ _ (by decide) (k + 1) (by have : (⟨#[32, 46]⟩ : ByteArray).size = 2 := rfl; omega), show bts ⟨#[32, 46]⟩ = [32, 46] by decide, Option.bind_some]
    obtain ⟨p, b, hpb, hub⟩ := text_last l.dropLast u (by rw [← hsp]; exact hp.1)
    rw [← hsp, text_units (bts_range s) (getU_iff.1 hg).1] at hpb
    have hnbe : nameBad s = (([32, 46] : List Int).any fun x => decide (x = u)) := by
      unfold nameBad
      have n3 : (s.toList == [46]) = false := by simpa using q3
      have n4 : (s.toList == [46, 46]) = false := by simpa using q4
      rw [n3, n4, suffix_iff hpb, suffix_iff hpb, Bool.false_or, Bool.false_or, List.any_cons, List.any_cons, List.any_nil, Bool.or_false]
      have c1 : decide (b = ((32 : UInt8).toNat : Int)) = decide ((32 : Int) = u) := by
        rw [decide_eq_decide]
        have : ((32 : UInt8).toNat : Int) = 32 := rfl
        omega
      have c2 : decide (b = ((46 : UInt8).toNat : Int)) = decide ((46 : Int) = u) := by
        rw [decide_eq_decide]
        have : ((46 : UInt8).toNat : Int) = 46 := rfl
        omega
      rw [c1, c2]
    rw [← hnbe]
    cases hq : nameBad s with
    | true => rw [h19, if_pos (Or.inr (Or.inr rfl))]
    | false =>
      rw [archivoltref05_Check.j0, if_neg (by decide), if_neg (by rintro (h | h | h); exact q1 h; exact q2 h; exact absurd h (by decide))]
      have := check_l l hp.1 (by omega) 0 k 0 (by omega) (by omega)
      exact this
theorem rcheck_any (s : ByteArray) (hs : s.size ≤ 100000) (w : World) : Calls Tryd.prog 16 #[.string s] w fun e w' => e = .returned (.int .i64 (checkM s)) ∧ Below w.heap.size w w' :=
  (archivoltref05_Check.calls _ s (checkM s) w (check_f s hs _ (Nat.le_refl _))).mono fun e w' h => h

/-! Short names. -/
theorem charsL : bts ⟨#[33, 35, 36, 37, 38, 39, 40, 41, 45, 64, 94, 95, 123, 125, 126]⟩ = [33, 35, 36, 37, 38, 39, 40, 41, 45, 64, 94, 95, 123, 125, 126] := by decide
def inC (u : Int) : Bool := ([33, 35, 36, 37, 38, 39, 40, 41, 45, 64, 94, 95, 123, 125, 126] : List Int).any fun x => decide (x = u)
theorem char_small : ∀ n : Nat, n < 128 → (if (n : Int) ≥ 65 then (if (n : Int) ≤ 90 then true else (if (n : Int) ≥ 48 then (if (n : Int) ≤ 57 then true else inC n) else inC n)) else (if (n : Int) ≥ 48 then (if (n : Int) ≤ 57 then true else inC n) else inC n)) = decide ((n : Int) ∈ charL) := by decide +kernel
theorem character_f (u : Int) (h0 : 0 ≤ u) (k : Nat) (hk : 20 ≤ k) : archivoltref05_character.f k u = some (decide (u ∈ charL)) := by
  have hin : archivoltref05_in.f k u (⟨#[33, 35, 36, 37, 38, 39, 40, 41, 45, 64, 94, 95, 123, 125, 126]⟩ : ByteArray) = some (inC u) := by
    rw [in_f _ _ (by decide) k (by have : (⟨#[33, 35, 36, 37, 38, 39, 40, 41, 45, 64, 94, 95, 123, 125, 126]⟩ : ByteArray).size = 15 := rfl; omega), charsL]; rfl
  have e : archivoltref05_character.f k u = some (if u ≥ 65 then (if u ≤ 90 then true else (if u ≥ 48 then (if u ≤ 57 then true else inC u) else inC u)) else (if u ≥ 48 then (if u ≤ 57 then true else inC u) else inC u)) := by
    unfold archivoltref05_character.f
    rw [hin]
    simp only [Option.bind_some]
    split
    · split
      · rfl
      · split
        · split <;> rfl
        · rfl
    · split
      · split <;> rfl
      · rfl
  rw [e]
  congr 1
  rcases Int.lt_or_le u 128 with h | h
  · obtain ⟨n, rfl⟩ : ∃ n : Nat, u = n := ⟨u.toNat, by omega⟩
    exact char_small n (by omega)
  · rw [if_pos (by omega), if_neg (by omega), if_pos (by omega), if_neg (by omega)]
    have h1 : u ∉ charL := fun hm => by have := charL_bd u hm; omega
    rw [decide_eq_false h1]
    unfold inC
    simp
    omega
/-- Is a byte a character of short names? -/
def isC (b : Int) : Bool := decide (b ∈ charL)
/-- Behind a dot at d. -/
def finI (n d : Nat) : Bool := decide (1 ≤ d) && decide (d ≤ 8) && decide (1 ≤ n - d - 1) && decide (n - d - 1 ≤ 3)
theorem short_2 (s : ByteArray) (hs : s.size ≤ 1000000) (d : Nat) (hd : d < s.size) : ∀ (K i : Nat), i ≤ s.size → 2 * s.size + 30 ≤ 2 * i + K → archivoltref05_IsShort.l0 K s (d : Int) (i : Int) = some (((bts s).drop i).all isC && finI s.size d)
  | 0, i, h1, h2 => by omega
  | 1, i, h1, h2 => by omega
  | K + 2, i, h1, h2 => by
    rw [archivoltref05_IsShort.l0]
    by_cases hi : i < s.size
    · have hb := bts_bd s i
      have e0 : decide ((d : Int) < 0) = false := by rw [decide_eq_false]; omega
      have hj : archivoltref05_IsShort.j1 (K + 1) s (d : Int) (i : Int) false = some (((bts s).drop i).all isC && finI s.size d) := by
        have e1 : IntKind.u16.wrap ((bts s).getD i 0) = (bts s).getD i 0 := u16w _ (by omega) (by omega)
        rw [archivoltref05_IsShort.j1, if_neg (by decide), if_pos (by omega), if_pos (by omega), bt_bts s i hi, e1, character_f _ hb.1 K (by omega), Option.bind_some, drop_bts hi, List.all_cons]
        have ew : wrap64 ((i : Int) + 1) = ((i + 1 : Nat) : Int) := by rw [w64 _ (by omega) (by omega)]; rfl
        rw [ew, short_2 s hs d hd K (i + 1) (by omega) (by omega)]
        show (if isC ((bts s).getD i 0) = true then _ else _) = _
        cases isC ((bts s).getD i 0) with
        | true => rfl
        | false => rfl
      rw [if_pos (by omega), if_pos (by omega), e0, hj]
      split <;> rfl
    · have hsub : wrap64 ((wrap64 ((s.size : Int) - (d : Int))) - 1) = ((s.size - d - 1 : Nat) : Int) := by rw [w64 ((s.size : Int) - d) (by omega) (by omega), w64 _ (by omega) (by omega)]; omega
      rw [if_neg (by omega), List.drop_eq_nil_of_le (by rw [bts_len]; omega), if_neg (by omega), hsub]
      unfold finI
      rw [List.all_nil, Bool.true_and]
      by_cases q1 : 1 ≤ d
      · rw [if_pos (by omega), decide_eq_true q1]
        by_cases q2 : d ≤ 8
        · rw [if_pos (by omega), decide_eq_true q2]
          by_cases q3 : 1 ≤ s.size - d - 1
          · rw [if_pos (by omega), decide_eq_true q3]
            congr 1
            simp only [Bool.true_and]
            rw [decide_eq_decide]
            omega
          · rw [if_neg (by omega), decide_eq_false q3]; rfl
        · rw [if_neg (by omega), decide_eq_false q2]; rfl
      · rw [if_neg (by omega), decide_eq_false q1]; rfl
/-- The rounds ahead of the first dot. -/
def isR (n : Nat) : Nat → List Int → Bool
  | _, [] => decide (1 ≤ n) && decide (n ≤ 8)
  | i, b :: t => if b = 46 then t.all isC && finI n i else isC b && isR n (i + 1) t
theorem short_1 (s : ByteArray) (hs : s.size ≤ 1000000) : ∀ (K i : Nat), i ≤ s.size → 2 * s.size + 40 ≤ 2 * i + K → archivoltref05_IsShort.l0 K s (-1) (i : Int) = some (isR s.size i ((bts s).drop i))
  | 0, i, h1, h2 => by omega
  | 1, i, h1, h2 => by omega
  | K + 2, i, h1, h2 => by
    rw [archivoltref05_IsShort.l0]
    by_cases hi : i < s.size
    · have hb := bts_bd s i
      have ew : wrap64 ((i : Int) + 1) = ((i + 1 : Nat) : Int) := by rw [w64 _ (by omega) (by omega)]; rfl
      rw [if_pos (by omega), if_pos (by omega), bt_bts s i hi, drop_bts hi]
      simp only [isR]
      by_cases q : (bts s).getD i 0 = 46
      · rw [if_pos q, if_pos q, show decide ((-1 : Int) < 0) = true by decide, archivoltref05_IsShort.j1, if_pos rfl, ew, short_2 s hs i hi K (i + 1) (by omega) (by omega)]
      · have e1 : IntKind.u16.wrap ((bts s).getD i 0) = (bts s).getD i 0 := u16w _ (by omega) (by omega)
        rw [if_neg q, if_neg q, archivoltref05_IsShort.j1, if_neg (by decide), if_pos (by omega), if_pos (by omega), bt_bts s i hi, e1, character_f _ hb.1 K (by omega), Option.bind_some, ew, short_1 s hs K (i + 1) (by omega) (by omega)]
        show (if isC ((bts s).getD i 0) = true then _ else _) = _
        cases isC ((bts s).getD i 0) with
        | true => rfl
        | false => rfl
    · rw [if_neg (by omega), List.drop_eq_nil_of_le (by rw [bts_len]; omega), if_pos (by decide)]
      simp only [isR]
      by_cases q1 : 1 ≤ s.size
      · rw [if_pos (by omega), decide_eq_true q1, Bool.true_and]
        congr 1
        rw [decide_eq_decide]; omega
      · rw [if_neg (by omega), decide_eq_false q1]; rfl
theorem isR_none (n : Nat) : ∀ (x : List Int) (i : Nat), (∀ b ∈ x, b ≠ 46) → isR n i x = (x.all isC && (decide (1 ≤ n) && decide (n ≤ 8)))
  | [], i, _ => by simp [isR]
  | b :: x, i, h => by
    simp only [isR]
    rw [if_neg (h b (List.mem_cons_self ..)), isR_none n x (i + 1) (fun c hc => h c (List.mem_cons_of_mem _ hc)), List.all_cons, Bool.and_assoc]
theorem isR_dot (n : Nat) (y : List Int) : ∀ (x : List Int) (i : Nat), (∀ b ∈ x, b ≠ 46) → isR n i (x ++ 46 :: y) = (x.all isC && (y.all isC && finI n (i + x.length)))
  | [], i, _ => by simp [isR]
  | b :: x, i, h => by
    simp only [isR, List.cons_append]
    rw [if_neg (h b (List.mem_cons_self ..)), isR_dot n y x (i + 1) (fun c hc => h c (List.mem_cons_of_mem _ hc)), List.all_cons, Bool.and_assoc, List.length_cons, show i + 1 + x.length = i + (x.length + 1) by omega]
theorem isShort_R (s : ByteArray) : isShortM s = isR s.size 0 (bts s) := by
  have hd := dotAt_lt s
  unfold isShortM cutM
  by_cases h : 0 ≤ dotAt s
  · obtain ⟨d, hdd⟩ : ∃ d : Nat, dotAt s = d := ⟨(dotAt s).toNat, by omega⟩
    rw [hdd] at hd
    have hlt : d < s.size := by simpa using hd.2 (by omega)
    have h0d : (0 : Int) ≤ (d : Int) := by omega
    simp only [hdd, h0d, if_true, Int.toNat_natCast]
    have hs := Lib.indexByte_some (l := s.data.toList) (c := 46) (o := d) hdd
    have hx : ∀ b ∈ (bts s).take d, b ≠ 46 := by
      intro b hb
      obtain ⟨k, hk⟩ := List.getElem?_of_mem hb
      rw [List.getElem?_take] at hk
      split at hk
      · rename_i hkd
        intro e
        have hkl : k < s.data.toList.length := by
          have := (List.getElem?_eq_some_iff.1 hk).1
          unfold bts at this
          rwa [List.length_map] at this
        have hne := hs.2 k hkd
        rw [List.getElem?_eq_getElem hkl] at hne
        have h2 := bts_at (List.getElem?_eq_getElem hkl)
        rw [hk, e] at h2
        exact hne (congrArg some (UInt8.toNat_inj.1 (by have := Option.some.inj h2; have h46 : (46 : UInt8).toNat = 46 := rfl; omega)))
      · cases hk
    have h46 := bts_at hs.1
    have hsp : bts s = (bts s).take d ++ 46 :: (bts s).drop (d + 1) := by
      have hl : d < (bts s).length := by rw [bts_len]; exact hlt
      have e1 : (bts s)[d] = 46 := by rw [List.getElem?_eq_getElem hl] at h46; exact Option.some.inj h46
      rw [← e1, ← List.drop_eq_getElem_cons hl, List.take_append_drop]
    rw [hsp, isR_dot s.size _ _ 0 hx]
    unfold allChars
    rw [bts_append, bts_take, bts_drop, List.all_append]
    have hlen : ((bts s).take d).length = d := by rw [List.length_take, bts_len]; omega
    rw [hlen, Nat.zero_add]
    have z1 : (s.extract 0 d).size = d := by rw [ByteArray.size_extract]; omega
    have z2 : (s.extract (d + 1) s.size).size = s.size - d - 1 := by rw [ByteArray.size_extract]; omega
    have z3 : (s.extract (d + 1) s.size).toList = [] ↔ s.size - d - 1 = 0 := by
      rw [← z2, Go.ByteArray.toList_eq]
      constructor
      · intro e; have := congrArg List.length e; rwa [Array.length_toList] at this
      · intro e; exact List.length_eq_zero_iff.1 (by rw [Array.length_toList]; exact e)
    rw [z1, z2]
    have hiff : (d < 1 ∨ 8 < d ∨ 3 < s.size - d - 1 ∨ True ∧ (s.extract (d + 1) s.size).toList = []) ↔ (d < 1 ∨ 8 < d ∨ 3 < s.size - d - 1 ∨ s.size - d - 1 = 0) := by rw [z3, true_and]
    unfold finI
    by_cases q : d < 1 ∨ 8 < d ∨ 3 < s.size - d - 1 ∨ s.size - d - 1 = 0
    · rw [if_pos (hiff.2 q)]
      have : (decide (1 ≤ d) && decide (d ≤ 8) && decide (1 ≤ s.size - d - 1) && decide (s.size - d - 1 ≤ 3)) = false := by
        rw [Bool.eq_false_iff]; intro hh; simp only [Bool.and_eq_true, decide_eq_true_eq] at hh; omega
      rw [this, Bool.and_false, Bool.and_false]
    · rw [if_neg (fun h => q (hiff.1 h))]
      have : (decide (1 ≤ d) && decide (d ≤ 8) && decide (1 ≤ s.size - d - 1) && decide (s.size - d - 1 ≤ 3)) = true := by
        simp only [Bool.and_eq_true, decide_eq_true_eq]; omega
      rw [this, Bool.and_true]
      rfl
  · simp only [h, if_false]
    have hm : dotAt s = -1 := by omega
    have hno := Lib.indexByte_none (show Lib.indexByte s.data.toList 46 = -1 from hm)
    have hx : ∀ b ∈ bts s, b ≠ 46 := by
      intro b hb e
      obtain ⟨k, hk⟩ := List.getElem?_of_mem hb
      have hkl : k < s.data.toList.length := by
        have := (List.getElem?_eq_some_iff.1 hk).1
        unfold bts at this
        rwa [List.length_map] at this
      have hne := hno k
      rw [List.getElem?_eq_getElem hkl] at hne
      have h2 := bts_at (List.getElem?_eq_getElem hkl)
      rw [hk, e] at h2
      exact hne (congrArg some (UInt8.toNat_inj.1 (by have := Option.some.inj h2; have h46 : (46 : UInt8).toNat = 46 := rfl; omega)))
    rw [isR_none s.size _ 0 hx]
    have z0 : ByteArray.empty.size = 0 := rfl
    simp only [z0]
    unfold allChars
    rw [bts_append, show bts ByteArray.empty = [] from rfl, List.append_nil]
    by_cases q : s.size < 1 ∨ 8 < s.size
    · rw [if_pos (by rcases q with q | q; exact Or.inl q; exact Or.inr (Or.inl q))]
      have : (decide (1 ≤ s.size) && decide (s.size ≤ 8)) = false := by
        rw [Bool.eq_false_iff]; intro hh; simp only [Bool.and_eq_true, decide_eq_true_eq] at hh; omega
      rw [this, Bool.and_false]
    · rw [if_neg (by rintro (h | h | h | h); exact q (Or.inl h); exact q (Or.inr h); omega; exact absurd h.1 (by decide))]
      have : (decide (1 ≤ s.size) && decide (s.size ≤ 8)) = true := by
        simp only [Bool.and_eq_true, decide_eq_true_eq]; omega
      rw [this, Bool.and_true]
      rfl
theorem risShort_any (s : ByteArray) (hs : s.size ≤ 1000000) (w : World) : Calls Tryd.prog 26 #[.string s] w fun e w' => e = .returned (.bool (isShortM s)) ∧ Drawn w w' :=
  (archivoltref05_IsShort.calls (2 * s.size + 40) s (isShortM s) w (by
    unfold archivoltref05_IsShort.f
    have := short_1 s hs (2 * s.size + 40) 0 (by omega) (by omega)
    rw [isShort_R]
    exact this)).mono fun e w' h => ⟨h.1, drawn0 h.2⟩
end Go.Proofs.YtmbdiimenmnfjaaDoor
/- Short names: plain facts. -/
namespace Go.Proofs.YtmbdiimenmnfjaaDoor
open Go.RowKit Go.Deep
set_option linter.unusedVariables false
set_option linter.unusedSimpArgs false
set_option maxRecDepth 100000

theorem isC_iff (b : Int) : isC b = true ↔ b ∈ charL := by unfold isC; rw [decide_eq_true_eq]
theorem finI_iff (n d : Nat) : finI n d = true ↔ 1 ≤ d ∧ d ≤ 8 ∧ 1 ≤ n - d - 1 ∧ n - d - 1 ≤ 3 := by
  unfold finI
  simp only [Bool.and_eq_true, decide_eq_true_eq]
  omega
theorem isR_is (n : Nat) : ∀ (t : List Int) (i : Nat), isR n i t = true → i + t.length = n → (∀ c ∈ t, c ∈ charL ∨ c = 46) ∧ 1 ≤ n ∧ n ≤ 12 ∧ (t ≠ [] → ∃ p b, t = p ++ [b] ∧ b ∈ charL)
  | [], i, h, hn => by
    simp only [isR, Bool.and_eq_true, decide_eq_true_eq] at h
    exact ⟨(fun c hc => by cases hc), h.1, by omega, fun h => absurd rfl h⟩
  | b :: t, i, h, hn => by
    simp only [isR] at h
    rw [List.length_cons] at hn
    split at h
    · rename_i hb
      rw [Bool.and_eq_true, finI_iff, List.all_eq_true] at h
      have hne : t ≠ [] := by rintro rfl; simp at hn; omega
      refine ⟨fun c hc => ?_, by omega, by omega, fun _ => ⟨b :: t.dropLast, t.getLast hne, by rw [List.cons_append, List.dropLast_concat_getLast hne], (isC_iff _).1 (h.1 _ (List.getLast_mem hne))⟩⟩
      rcases List.mem_cons.1 hc with rfl | hc
      · exact Or.inr hb
      · exact Or.inl ((isC_iff _).1 (h.1 c hc))
    · rw [Bool.and_eq_true] at h
      have ih := isR_is n t (i + 1) h.2 (by omega)
      have hbc := (isC_iff b).1 h.1
      refine ⟨fun c hc => ?_, ih.2.1, ih.2.2.1, fun _ => ?_⟩
      · rcases List.mem_cons.1 hc with rfl | hc
        · exact Or.inl hbc
        · exact ih.1 c hc
      · cases t with
        | nil => exact ⟨[], b, rfl, hbc⟩
        | cons d t =>
          obtain ⟨p, e, h1, h2⟩ := ih.2.2.2 (by simp)
          exact ⟨b :: p, e, by rw [h1, List.cons_append], h2⟩
theorem char_ok : ∀ b ∈ (46 :: charL), unitBad b = false ∧ upM b = b ∧ 0 ≤ b ∧ b < 128 := by decide +kernel
theorem char_46 : (46 : Int) ∉ charL := by decide
theorem short_is {x : ByteArray} (h : isShortM x = true) : (∀ c ∈ bts x, unitBad c = false ∧ upM c = c ∧ 0 ≤ c ∧ c < 128) ∧ 1 ≤ x.size ∧ x.size ≤ 12 ∧ ∃ p b, bts x = p ++ [b] ∧ b ∈ charL := by
  rw [isShort_R] at h
  have hl := bts_len x
  have := isR_is x.size (bts x) 0 h (by omega)
  refine ⟨fun c hc => char_ok c ?_, this.2.1, this.2.2.1, this.2.2.2 (by intro e; rw [e] at hl; simp at hl; omega)⟩
  rcases this.1 c hc with h | h
  · exact List.mem_cons_of_mem _ h
  · rw [h]; exact List.mem_cons_self ..
/-- Bytes below 128 are units. -/
theorem ascii_units : ∀ (f : Nat) (s : List Int) (b : Int), (∀ c ∈ s, 0 ≤ c ∧ c < 128) → s.length < f → unitsF f s b = some s
  | 0, s, b, h, hf => by omega
  | f + 1, [], b, h, hf => by simp [unitsF]
  | f + 1, c :: s, b, h, hf => by
    have hc := h c (List.mem_cons_self ..)
    unfold unitsF
    rw [if_neg (by simp), pointM_cons, if_pos hc.2]
    simp only [stepU]
    rw [if_neg (by omega), List.drop_succ_cons, List.drop_zero, ascii_units f s c (fun d hd => h d (List.mem_cons_of_mem _ hd)) (by simp at hf; omega), encU_1 (by omega)]
    rfl
theorem ascii_getU {x : ByteArray} (h : ∀ c ∈ bts x, 0 ≤ c ∧ c < 128) (hl : x.size ≤ 4096) : getU x = some (bts x) := by
  rw [getU_iff]
  refine ⟨?_, by rw [bts_len]; exact hl⟩
  unfold unitsM
  exact ascii_units _ _ _ h (by omega)
theorem short_getU {x : ByteArray} (h : isShortM x = true) : getU x = some (bts x) := by
  have hs := short_is h
  exact ascii_getU (fun c hc => (hs.1 c hc).2.2) (by omega)
theorem short_up {x : ByteArray} (h : isShortM x = true) : (bts x).map upM = bts x := by
  have hs := short_is h
  conv => rhs; rw [← List.map_id (bts x)]
  exact List.map_congr_left fun c hc => (hs.1 c hc).2.1
theorem short_upS {x : ByteArray} (h : isShortM x = true) : upS (bts x) = x := by
  unfold upS
  rw [short_up h]
  exact text_getU (short_getU h)
/-- A short name is alike to what has it as upper case. -/
theorem same_short {x t : ByteArray} (h : isShortM x = true) : sameM x t = true ↔ x ∈ upOf t := by
  rw [sameM_iff]
  have hg := short_getU h
  unfold upOf
  cases ht : getU t with
  | none =>
    simp only [List.not_mem_nil, iff_false, not_or, not_exists]
    exact ⟨(fun e => by rw [e, ht] at hg; cases hg), fun a b hh => by cases hh.2.1⟩
  | some r =>
    simp only [List.mem_singleton]
    constructor
    · rintro (e | ⟨a, b, h1, h2, h3⟩)
      · rw [e] at hg ⊢
        rw [ht] at hg
        cases hg
        have := short_upS (e ▸ h : isShortM t = true)
        exact this.symm
      · rw [hg] at h1
        cases h1
        cases h2
        rw [short_up h] at h3
        unfold upS
        rw [← h3]
        exact (text_getU hg).symm
    · intro e
      refine Or.inr ⟨_, r, hg, rfl, ?_⟩
      rw [short_up h]
      have h2 := getU_up ht
      rw [← e, hg] at h2
      exact Option.some.inj h2

/-! The names that are tried are short. -/
theorem shortB_char (u : Int) : ∀ b ∈ shortB u, b ∈ charL := by
  intro b hb
  unfold shortB at hb
  split at hb
  · cases hb
  · split at hb
    · rename_i h; rw [List.mem_singleton.1 hb]; exact h
    · rw [List.mem_singleton.1 hb]; decide
theorem shortened_char (l : List Int) : ∀ b ∈ shortenedM l, b ∈ charL := by
  intro b hb
  unfold shortenedM at hb
  obtain ⟨u, _, h⟩ := List.mem_flatMap.1 hb
  exact shortB_char u b h
theorem char_bytes {l : List Int} (h : ∀ b ∈ l, b ∈ charL) : ∀ b ∈ l, 0 ≤ b ∧ b ≤ 255 := fun b hb => by have := charL_bd b (h b hb); omega
theorem bts_mkS (l : List Int) : bts (mkB (shortenedM l)) = shortenedM l := bts_mkB _ (char_bytes (shortened_char l))
theorem toList_nil (s : ByteArray) : s.toList = [] ↔ bts s = [] := by
  rw [Go.ByteArray.toList_eq]
  unfold bts
  rw [List.map_eq_nil_iff]
theorem base_char (l : List Int) : ∀ b ∈ bts (baseS l), b ∈ charL := by
  unfold baseS
  split
  · intro b hb
    have : bts ⟨#[95]⟩ = [95] := by decide
    rw [this] at hb
    rw [List.mem_singleton.1 hb]; decide
  · rw [bts_mkS]; exact shortened_char _
theorem bts_first (s : ByteArray) (n : Nat) : bts (firstS s n) = (bts s).take n := by
  unfold firstS
  rw [bts_take]
  rcases Nat.le_total n s.size with h | h
  · rw [Nat.min_eq_left h]
  · rw [Nat.min_eq_right h, List.take_of_length_le (by rw [bts_len]; omega), List.take_of_length_le (by rw [bts_len]; omega)]
/-- The end of the names that are tried: nothing, or a dot and some characters. -/
theorem end_is (l : List Int) : bts (endS l) = [] ∨ ∃ e, bts (endS l) = 46 :: e ∧ (∀ b ∈ e, b ∈ charL) ∧ 1 ≤ e.length ∧ e.length ≤ 3 := by
  have h0 : (∀ b ∈ bts (end0 l), b ∈ charL) ∧ (bts (end0 l)).length ≤ 3 := by
    unfold end0
    split
    · exact ⟨(fun b hb => by cases hb), by show ([] : List Int).length ≤ 3; simp⟩
    · rw [bts_first, bts_mkS]
      exact ⟨fun b hb => shortened_char _ b (List.mem_of_mem_take hb), by rw [List.length_take]; omega⟩
  unfold endS
  split
  · rename_i h
    exact Or.inl ((toList_nil _).1 h)
  · rename_i h
    refine Or.inr ⟨bts (end0 l), by rw [bts_append]; rfl, h0.1, ?_, h0.2⟩
    rw [toList_nil] at h
    cases he : bts (end0 l) with
    | nil => exact absurd he h
    | cons a r => simp
def digI (n : Nat) : List Int := (Lib.decDigits n).map fun b => (b.toNat : Int)
theorem bts_dec (n : Nat) : bts (decS n) = digI n := by
  unfold bts decS digI Lib.itoa
  rw [if_neg (by omega), Int.toNat_natCast]
theorem dig_range (n : Nat) : ∀ b ∈ digI n, 48 ≤ b ∧ b ≤ 57 := by
  unfold digI
  induction n using Nat.strongRecOn with
  | _ n ih =>
    intro b hb
    rw [Lib.decDigits] at hb
    split at hb
    · simp only [List.map_cons, List.map_nil, List.mem_singleton] at hb
      rw [hb, UInt8.toNat_ofNat']; omega
    · rw [List.map_append] at hb
      rcases List.mem_append.1 hb with h | h
      · exact ih (n / 10) (by omega) b h
      · simp only [List.map_cons, List.map_nil, List.mem_singleton] at h
        rw [h, UInt8.toNat_ofNat']; omega
theorem dig_pos (n : Nat) : 1 ≤ (digI n).length := by
  unfold digI
  rw [List.length_map, Lib.decDigits]
  split <;> simp
theorem dig_char (b : Int) (h : 48 ≤ b ∧ b ≤ 57) : b ∈ charL := by
  have : ∀ n : Nat, n < 10 → ((48 + n : Nat) : Int) ∈ charL := by decide
  have h2 := this (b - 48).toNat (by omega)
  rwa [show ((48 + (b - 48).toNat : Nat) : Int) = b by omega] at h2
/-- The bytes of a name that is tried. -/
theorem try_bts (l : List Int) (n : Nat) : bts (tryN l n) = (bts (baseS l)).take (7 - (decS n).size) ++ 126 :: digI n ++ bts (endS l) := by
  unfold tryN
  rw [bts_append, bts_append, bts_append, bts_first, bts_dec, show bts ⟨#[126]⟩ = [126] by decide]
  simp
theorem try_short (l : List Int) (n : Nat) (hn : n ≤ 9999) : isShortM (tryN l n) = true := by
  have hd := decS_size n hn
  have hdl : (digI n).length = (decS n).size := by rw [← bts_dec, bts_len]
  have hdp := dig_pos n
  obtain ⟨x, hx⟩ : ∃ x, (bts (baseS l)).take (7 - (decS n).size) ++ 126 :: digI n = x := ⟨_, rfl⟩
  have hxc : ∀ b ∈ x, b ∈ charL := by
    intro b hb
    rw [← hx] at hb
    rcases List.mem_append.1 hb with h | h
    · exact base_char l b (List.mem_of_mem_take h)
    · rcases List.mem_cons.1 h with h | h
      · rw [h]; decide
      · exact dig_char b (dig_range n b h)
  have hxl : 1 ≤ x.length ∧ x.length ≤ 8 := by
    rw [← hx, List.length_append, List.length_take, List.length_cons]; omega
  have hb := try_bts l n
  rw [hx] at hb
  have hsz : (tryN l n).size = (bts (tryN l n)).length := (bts_len _).symm
  have hx46 : ∀ b ∈ x, b ≠ 46 := fun b h e => char_46 (e ▸ hxc b h)
  have hall : x.all isC = true := by rw [List.all_eq_true]; exact fun b h => (isC_iff b).2 (hxc b h)
  rw [isShort_R, hsz, hb]
  rcases end_is l with he | ⟨e, he, hec, h1, h3⟩
  · rw [he, List.append_nil, isR_none _ _ _ hx46, hall, decide_eq_true hxl.1, decide_eq_true hxl.2]; rfl
  · have heall : e.all isC = true := by rw [List.all_eq_true]; exact fun b h => (isC_iff b).2 (hec b h)
    rw [he, isR_dot _ _ _ _ hx46, hall, heall, Bool.true_and, Bool.true_and, finI_iff]
    rw [List.length_append, List.length_cons]
    omega
end Go.Proofs.YtmbdiimenmnfjaaDoor
/- Walks: the document's decimal, characters. -/
namespace Go.Proofs.YtmbdiimenmnfjaaDoor
open Go.RowKit Go.Deep
open Go.Proofs.YtmbdiimenmnfjaaDoor.PNamesNames
open Go.Proofs.YtmbdiimenmnfjaaDoorW.PrintWords (rd bt Drawn0 Kd)
set_option linter.unusedVariables false
set_option linter.unusedSimpArgs false

theorem dec_small {n : Nat} (h : n < 10) : mkB [48 + (n : Int)] = decS n := by
  refine bts_inj ?_
  rw [bts_mkB _ (by intro x hx; rw [List.mem_singleton.1 hx]; omega), bts_dec]
  unfold digI
  rw [Lib.decDigits, dif_pos h]
  simp only [List.map_cons, List.map_nil, UInt8.toNat_ofNat']
  congr 1; omega
theorem dec_more {n : Nat} (h : ¬ n < 10) : decS (n / 10) ++ mkB [48 + (n : Int) % 10] = decS n := by
  refine bts_inj ?_
  rw [bts_append, bts_mkB _ (by intro x hx; rw [List.mem_singleton.1 hx]; omega), bts_dec, bts_dec]
  unfold digI
  conv => rhs; rw [Lib.decDigits, dif_neg h, List.map_append]
  simp only [List.map_cons, List.map_nil, UInt8.toNat_ofNat']
  congr 2; omega
theorem dec_size5 (n : Nat) (h : n ≤ 100000) : (decS n).size ≤ 6 := by
  have h1 := dec_len 5 n (by omega)
  rw [← bts_len, bts_dec]
  unfold digI
  rw [List.length_map]
  exact h1
theorem take_more2 {r : List Int} {i : Nat} (hi : i < r.length) : r.take (i + 1) = r.take i ++ [r.getD i 0] := by
  rw [List.take_add_one, List.getD_eq_getElem?_getD, List.getElem?_eq_getElem hi]; rfl
theorem rd_one (w : World) (x : Int) : Rd (w.alloc (.cells #[.int .u8 x] 5)) .u8 (some ⟨w.heap.size, 0, none⟩) 1 [x] := ⟨rfl, by decide, fun j hj => ⟨_, rfl, by
  obtain rfl : j = 0 := by omega
  exact (cell_new1 w _ rfl _ _) 0 _ rfl⟩⟩

set_option maxRecDepth 100000 in
set_option maxHeartbeats 4000000 in
theorem decimal_any : ∀ (n : Nat), n ≤ 100000 → ∀ w : World, Calls Tryd.prog 82 #[.int .i64 n] w fun e w' => e = .returned (.string (decS n)) ∧ Below w.heap.size w w' := by
  intro n
  induction n using Nat.strongRecOn with
  | _ n ih =>
  intro hn w
  have hcv := conv_rd _ _ 1 _ _ (rd_one w (48 + (n : Int) % 10))
  by_cases h10 : n < 10
  · have h10i : (n : Int) < 10 := by omega
    have e : mkB [48 + (n : Int) % 10] = decS n := by rw [← dec_small h10]; congr 2; omega
    rw [e] at hcv
    have HE := Lib.hid e
    clear e ih
    go_enter Tryd.func82, Tryd.ntmps82
    go_wp2
    go_ret
    exact ⟨rfl, below_al (Below.refl _ _) _⟩
  · have h10i : ¬ (n : Int) < 10 := by omega
    have IH := Lib.hid (ih (n / 10) (by omega) (by omega))
    have hz := dec_size5 (n / 10) (by omega)
    have hz1 : (mkB [48 + (n : Int) % 10]).size = 1 := mkB_size _
    have hadd : ∀ W : World, (Op.stringOp .add (decS (n / 10)) (mkB [48 + (n : Int) % 10])).run Tryd.prog W = .ok (.string (decS n)) W := fun W => by rw [run_string_add_sum W _ _ (by omega), dec_more h10]
    have hdiv : ((n / 10 : Nat) : Int) = (n : Int) / 10 := by omega
    have HD := Lib.hid hdiv
    clear ih hz hz1 hdiv
    go_enter Tryd.func82, Tryd.ntmps82
    go_wp2_with (go_at_call 82; refine (Calls.mono (by have h := IH.out (w.alloc (.cells #[.int .u8 (48 + (n : Int) % 10)] 5)); rw [HD.out] at h; exact h) ?_); rintro e w1 ⟨rfl, hB⟩; (have HB1 := Lib.hid (below_then (below_al (Below.refl w.heap.size w) (.cells #[.int .u8 (48 + (n : Int) % 10)] 5)) (below_al (Below.refl w.heap.size w) (.cells #[.int .u8 (48 + (n : Int) % 10)] 5)).size hB)); clear hB)
    go_ret
    exact ⟨rfl, HB1.out⟩

theorem up_blank (u : Int) (h0 : 0 ≤ u) : (upM u = 32 ↔ u = 32) ∧ (upM u = 46 ↔ u = 46) := by
  have h : ∀ n : Nat, n < 1154 → ((upM (n : Int) = 32 ↔ (n : Int) = 32) ∧ (upM (n : Int) = 46 ↔ (n : Int) = 46)) := by decide +kernel
  by_cases hs : u < 1154
  · have := h u.toNat (by omega)
    rwa [Int.toNat_of_nonneg h0] at this
  · rw [upM_big u (by omega)]
    exact ⟨Iff.rfl, Iff.rfl⟩
theorem rchar_any (u : Int) (h0 : 0 ≤ u) (w : World) : Calls Tryd.prog 57 #[.int .u16 u] w fun e w' => e = .returned (.bool (decide (u ∈ charL))) ∧ Drawn w w' :=
  (archivoltref05_character.calls 20 u _ w (character_f u h0 20 (Nat.le_refl _))).mono fun e w' h => ⟨h.1, drawn0 h.2⟩

set_option maxRecDepth 100000 in
set_option maxHeartbeats 8000000 in
theorem rchars_any (A : Option Addr) (c : Nat) (xs : List Int) (hn : xs.length ≤ 40000) (hx : U16 xs) (w : World) (hR : Rd w .u16 A xs.length xs) :
    Calls Tryd.prog 81 #[.slice A xs.length c] w fun e w' => e = .returned (.string (mkB (shortenedM xs))) ∧ Below w.heap.size w w' := by
  obtain ⟨i5, h5i, h5z, h51, h5b⟩ := info_parts info5
  have HR := Lib.hid hR
  have HX := Lib.hid hx
  clear hR hx
  go_enter Tryd.func81, Tryd.ntmps81
  go_wp2
  go_loopw [3, 4] (fun v i W => ∃ j : Nat, j ≤ xs.length ∧ i = .int .i64 j ∧ Hid (W.ownsRow w.heap.size 5 1 v (shortenedM (xs.take j)).length (numK .u8 (shortenedM (xs.take j)))) ∧ Hid (Below w.heap.size w W)) (fun _ i _ => xs.length - (intOf i).toNat)
  case atStart => exact ⟨0, by omega, rfl, Lib.hid (World.ownsRow_nil _ _ _ _), Lib.hid (Below.refl _ _)⟩
  case round =>
    obtain ⟨j, hj, rfl, HO, HB⟩ := hrel
    obtain ⟨Aq, cq, rfl, hcq⟩ := own_is_slice HO.out
    have hln := shortenedM_len (xs.take j)
    rw [List.length_take] at hln
    by_cases hlt : j < xs.length
    · have hlti : (j : Int) < xs.length := by omega
      obtain ⟨ad, hA, hcl⟩ := (HR.out.below HB.out).at_ j hlt
      subst hA
      obtain ⟨x, hx⟩ : ∃ x, xs.getD j 0 = x := ⟨_, rfl⟩
      have hxb := HX.out.get j
      rw [hx] at hcl hxb
      have htk : shortenedM (xs.take (j + 1)) = shortenedM (xs.take j) ++ shortB x := by rw [take_more2 hlt, hx, shortenedM_snoc]
      obtain ⟨L, hL⟩ : ∃ L, shortenedM (xs.take j) = L := ⟨_, rfl⟩
      obtain ⟨U, hU⟩ : ∃ U, upM x = U := ⟨_, rfl⟩
      have hbl := up_blank x hxb.1
      have hub := upM_bd x hxb.1 hxb.2
      rw [hU] at hbl hub
      rw [hL] at HO hln htk ⊢
      have HU := Lib.hid hU
      have hbs := HB.out.size
      by_cases h32 : U = 32
      · have hs : shortB x = [] := by unfold shortB; rw [if_pos (Or.inl (hbl.1.1 h32))]
        rw [hs, List.append_nil] at htk
        have HTK := Lib.hid htk
        subst h32
        clear hx htk hU hL hs hbl
        go_wp2_with (go_at_call 36; refine (rup_any x (by omega) (by omega) _).mono ?_; rintro e w2 ⟨rfl, rfl⟩; rw [HU.out])
        refine ⟨⟨j + 1, by omega, by simp, Lib.hid ?_, HB⟩, by simp only [intOf]; omega⟩
        rw [HTK.out]
        exact HO.out
      · by_cases h46 : U = 46
        · have hs : shortB x = [] := by unfold shortB; rw [if_pos (Or.inr (hbl.2.1 h46))]
          rw [hs, List.append_nil] at htk
          have HTK := Lib.hid htk
          subst h46
          clear hx htk hU hL hs hbl
          go_wp2_with (go_at_call 36; refine (rup_any x (by omega) (by omega) _).mono ?_; rintro e w2 ⟨rfl, rfl⟩; rw [HU.out])
          refine ⟨⟨j + 1, by omega, by simp, Lib.hid ?_, HB⟩, by simp only [intOf]; omega⟩
          rw [HTK.out]
          exact HO.out
        · have h32b : (U == 32) = false := by simpa using h32
          have h46b : (U == 46) = false := by simpa using h46
          have hnb : ¬ (x = 32 ∨ x = 46) := by rintro (h | h); exact h32 (hbl.1.2 h); exact h46 (hbl.2.2 h)
          obtain ⟨D, hD⟩ : ∃ D, decide (U ∈ charL) = D := ⟨_, rfl⟩
          have HD := Lib.hid hD
          obtain ⟨Y, hY⟩ : ∃ Y : Int, (if D = true then U else 95) = Y := ⟨_, rfl⟩
          have hyb : 33 ≤ Y ∧ Y ≤ 126 := by
            rw [← hY]
            cases D with
            | true => rw [if_pos rfl]; exact charL_bd U (of_decide_eq_true hD)
            | false => rw [if_neg (by decide)]; omega
          have hs : shortB x = [Y] := by
            unfold shortB
            rw [if_neg hnb, hU, ← hY]
            cases D with
            | true => rw [if_pos (of_decide_eq_true hD), if_pos rfl]
            | false => rw [if_neg (of_decide_eq_false hD), if_neg (by decide)]
          rw [hs] at htk
          have HTK := Lib.hid htk
          have hw8 : IntKind.u8.wrap Y = Y := Int.emod_eq_of_lt (by omega) (by simp [IntKind.bits]; omega)
          clear hx htk hU hL hs hbl hD hnb
          cases D with
          | true =>
            rw [if_pos rfl] at hY
            subst hY
            go_wp2_with (first
              | ((have hgd := HS2); clear hgd; at_builtin; refine wpList_append_own _ rfl _ _ 26 rfl w.heap.size 5 i5 (.int .u8 0) 1 1 Tryd.underlying26 h5i h5z h51 h5b rfl (by decide) _ L.length (numK .u8 L) rfl (World.ownsRow.alloc HS2.out _) ⟨_, 0, none⟩ 1 1 [.int .u8 U] rfl rfl (cell_new1 _ _ rfl _ _) (by simp [Value.oneCell']) (by simp only [maxLen]; omega) (by omega) (by have := HS3.out.size; simp; omega) ?_; intro v' w6 hown6 hgrow6 _; (have HQ6 := Lib.hid hown6); (have HB6 := Lib.hid ((below_al HS3.out _).grown hgrow6 (by have := HS3.out.size; simp; omega) (fun kk hk => (HS2.out.lt kk hk).1))); clear hown6 hgrow6)
              | ((have hgd := HS1); clear hgd; go_at_call 57; refine (rchar_any U (by omega) _).mono ?_; rintro e w3 ⟨rfl, hB⟩; rw [HD.out]; (have HS2 := Lib.hid (own_keep HO.out (drawn_below hB))); (have HS3 := Lib.hid (below_drawn HB.out hB)); clear hB)
              | (go_at_call 36; refine (rup_any x (by omega) (by omega) _).mono ?_; rintro e w2 ⟨rfl, rfl⟩; rw [HU.out]; (have HS1 := HU)))
            refine ⟨⟨j + 1, by omega, by simp, Lib.hid ?_, HB6⟩, by simp only [intOf]; omega⟩
            rw [HTK.out, numK_append, List.length_append]
            exact HQ6.out
          | false =>
            rw [if_neg (by decide)] at hY
            subst hY
            go_wp2_with (first
              | ((have hgd := HS2); clear hgd; at_builtin; refine wpList_append_own _ rfl _ _ 26 rfl w.heap.size 5 i5 (.int .u8 0) 1 1 Tryd.underlying26 h5i h5z h51 h5b rfl (by decide) _ L.length (numK .u8 L) rfl (World.ownsRow.alloc HS2.out _) ⟨_, 0, none⟩ 1 1 [.int .u8 95] rfl rfl (cell_new1 _ _ rfl _ _) (by simp [Value.oneCell']) (by simp only [maxLen]; omega) (by omega) (by have := HS3.out.size; simp; omega) ?_; intro v' w6 hown6 hgrow6 _; (have HQ6 := Lib.hid hown6); (have HB6 := Lib.hid ((below_al HS3.out _).grown hgrow6 (by have := HS3.out.size; simp; omega) (fun kk hk => (HS2.out.lt kk hk).1))); clear hown6 hgrow6)
              | ((have hgd := HS1); clear hgd; go_at_call 57; refine (rchar_any U (by omega) _).mono ?_; rintro e w3 ⟨rfl, hB⟩; rw [HD.out]; (have HS2 := Lib.hid (own_keep HO.out (drawn_below hB))); (have HS3 := Lib.hid (below_drawn HB.out hB)); clear hB)
              | (go_at_call 36; refine (rup_any x (by omega) (by omega) _).mono ?_; rintro e w2 ⟨rfl, rfl⟩; rw [HU.out]; (have HS1 := HU)))
            refine ⟨⟨j + 1, by omega, by simp, Lib.hid ?_, HB6⟩, by simp only [intOf]; omega⟩
            rw [HTK.out, numK_append, List.length_append]
            exact HQ6.out
    · have hie : j = xs.length := by omega
      subst hie
      have hlti : ¬ ((xs.length : Int) < xs.length) := by omega
      have hO := HO.out
      rw [List.take_of_length_le (Nat.le_refl _)] at hO ⊢
      obtain ⟨A', c', e, hc', hRd, -⟩ := own_nums hO (by have := shortenedM_len xs; omega)
      cases e
      have hcv := conv_rd _ _ cq _ _ hRd
      clear hO
      go_wp2
      go_ret
      exact ⟨rfl, HB.out⟩
end Go.Proofs.YtmbdiimenmnfjaaDoor
/- The document's String: what was printed of it is the model. -/
namespace Go.Proofs.YtmbdiimenmnfjaaDoor
open Go.RowKit Go.Deep
open Go.Proofs.YtmbdiimenmnfjaaDoor.PNamesUnits
open Go.Proofs.YtmbdiimenmnfjaaDoorW.PrintWords (rd Drawn0 Kd)
set_option linter.unusedVariables false
set_option linter.unusedSimpArgs false

theorem bytes_f (c : Int) (h0 : 0 ≤ c) (h1 : c ≤ 1114111) : archivoltref05_bytes.f c = some (encB c) := by
  have d1 : Int.tdiv c 64 = c / 64 := Int.tdiv_eq_ediv_of_nonneg h0
  have d2 : Int.tdiv c 4096 = c / 4096 := Int.tdiv_eq_ediv_of_nonneg h0
  have d3 : Int.tdiv c 262144 = c / 262144 := Int.tdiv_eq_ediv_of_nonneg h0
  have m1 : Int.tmod c 64 = c % 64 := Int.tmod_eq_emod_of_nonneg h0
  have w1 : wrap64 (c / 64) = c / 64 := w64 _ (by omega) (by omega)
  have w2 : wrap64 (c / 4096) = c / 4096 := w64 _ (by omega) (by omega)
  have w3 : wrap64 (c / 262144) = c / 262144 := w64 _ (by omega) (by omega)
  have m2 : Int.tmod (c / 64) 64 = c / 64 % 64 := Int.tmod_eq_emod_of_nonneg (by omega)
  have m3 : Int.tmod (c / 4096) 64 = c / 4096 % 64 := Int.tmod_eq_emod_of_nonneg (by omega)
  unfold archivoltref05_bytes.f
  rw [d1, d2, d3, m1, w1, w2, w3, m2, m3]
  have v1 : wrap64 (128 + c % 64) = 128 + c % 64 := w64 _ (by omega) (by omega)
  have v2 : wrap64 (128 + c / 64 % 64) = 128 + c / 64 % 64 := w64 _ (by omega) (by omega)
  have v3 : wrap64 (128 + c / 4096 % 64) = 128 + c / 4096 % 64 := w64 _ (by omega) (by omega)
  have v4 : wrap64 (192 + c / 64) = 192 + c / 64 := w64 _ (by omega) (by omega)
  have v5 : wrap64 (224 + c / 4096) = 224 + c / 4096 := w64 _ (by omega) (by omega)
  have v6 : wrap64 (240 + c / 262144) = 240 + c / 262144 := w64 _ (by omega) (by omega)
  rw [v1, v2, v3, v4, v5, v6]
  unfold encB
  by_cases q1 : c < 128
  · rw [if_pos q1, if_pos q1, show c % 256 = c by omega]
  rw [if_neg q1, if_neg q1]
  by_cases q2 : c < 2048
  · rw [if_pos q2, if_pos q2, show (192 + c / 64) % 256 = 192 + c / 64 by omega, show (128 + c % 64) % 256 = 128 + c % 64 by omega]
  rw [if_neg q2, if_neg q2]
  by_cases q3 : c < 65536
  · rw [if_pos q3, if_pos q3, show (224 + c / 4096) % 256 = 224 + c / 4096 by omega, show (128 + c / 64 % 64) % 256 = 128 + c / 64 % 64 by omega, show (128 + c % 64) % 256 = 128 + c % 64 by omega]
  · rw [if_neg q3, if_neg q3, show (240 + c / 262144) % 256 = 240 + c / 262144 by omega, show (128 + c / 4096 % 64) % 256 = 128 + c / 4096 % 64 by omega, show (128 + c / 64 % 64) % 256 = 128 + c / 64 % 64 by omega, show (128 + c % 64) % 256 = 128 + c % 64 by omega]
theorem hiU_f (c : Int) : Go.Proofs.YtmbdiimenmnfjaaDoor.PNamesUnits.archivoltref05_high.f c = some (decide (55296 ≤ c ∧ c < 56320)) := by
  unfold Go.Proofs.YtmbdiimenmnfjaaDoor.PNamesUnits.archivoltref05_high.f
  by_cases h : c ≥ 55296
  · rw [if_pos h]; congr 1; rw [decide_eq_decide]; omega
  · rw [if_neg h]; congr 1; symm; rw [decide_eq_false_iff_not]; omega
theorem loU_f (c : Int) : Go.Proofs.YtmbdiimenmnfjaaDoor.PNamesUnits.archivoltref05_low.f c = some (decide (56320 ≤ c ∧ c < 57344)) := by
  unfold Go.Proofs.YtmbdiimenmnfjaaDoor.PNamesUnits.archivoltref05_low.f
  by_cases h : c ≥ 56320
  · rw [if_pos h]; congr 1; rw [decide_eq_decide]; omega
  · rw [if_neg h]; congr 1; symm; rw [decide_eq_false_iff_not]; omega
theorem wsucc (i : Nat) (h : i ≤ 1000001) : wrap64 ((i : Int) + 1) = ((i + 1 : Nat) : Int) := by rw [w64 _ (by omega) (by omega)]; omega
theorem wcomb (x y : Int) (hx : 0 ≤ x ∧ x ≤ 65535) (hy : 0 ≤ y ∧ y ≤ 65535) : wrap64 (wrap64 (wrap64 (65536 + wrap64 (wrap64 (x - 55296) * 1024)) + y) - 56320) = 65536 + (x - 55296) * 1024 + y - 56320 := by
  rw [w64 (x - 55296) (by omega) (by omega), w64 ((x - 55296) * 1024) (by omega) (by omega), w64 (65536 + (x - 55296) * 1024) (by omega) (by omega), w64 (65536 + (x - 55296) * 1024 + y) (by omega) (by omega), w64 _ (by omega) (by omega)]
set_option maxHeartbeats 400000 in
theorem string_l (l : List Int) (hu : U16 l) (hl : l.length ≤ 1000000) : ∀ (k i : Nat) (acc : List Int), i ≤ l.length → l.length < i + k → acc.length ≤ 4 * i → archivoltref05_String.l0 k l acc (i : Int) = some (strOfNums (acc ++ textM (l.drop i)))
  | 0, i, acc, h1, h2, h3 => by omega
  | k + 1, i, acc, h1, h2, h3 => by
    unfold archivoltref05_String.l0
    by_cases hi : i < l.length
    · have hb := hu.get i
      have ex : rd l (i : Int) = l.getD i 0 := rfl
      have ew := Lib.hid (wsucc i (by omega))
      rw [if_pos (by omega), if_pos (by omega), ex, w64 (l.getD i 0) (by omega) (by omega), ew.out]
      have hdr := drop_cons hi
      obtain ⟨x, hx⟩ : ∃ x, l.getD i 0 = x := ⟨_, rfl⟩
      rw [hx] at hb hdr ⊢
      have hone : (∀ d r, l.drop (i + 1) = d :: r → ¬ pairU x d) → ((archivoltref05_bytes.f x).bind fun t => if acc.length + t.length < 140737488355328 then archivoltref05_String.l0 k l (acc ++ t) ((i + 1 : Nat) : Int) else none) = some (strOfNums (acc ++ textM (l.drop i))) := by
        intro hn
        have hbl := encB_len x
        rw [bytes_f x hb.1 (by omega), Option.bind_some, if_pos (by omega), string_l l hu hl k (i + 1) _ (by omega) (by omega) (by rw [List.length_append]; omega), hdr, textM_one x _ hn, List.append_assoc]
      rw [hiU_f, Option.bind_some]
      by_cases hh : 55296 ≤ x ∧ x < 56320
      · rw [decide_eq_true hh, if_pos rfl]
        by_cases hj : i + 1 < l.length
        · have hb2 := hu.get (i + 1)
          have ey : rd l ((i + 1 : Nat) : Int) = l.getD (i + 1) 0 := rfl
          have hdr2 := drop_cons hj
          rw [if_pos (by omega), if_pos (by omega), ey, w64 (l.getD (i + 1) 0) (by omega) (by omega)]
          obtain ⟨y, hy⟩ : ∃ y, l.getD (i + 1) 0 = y := ⟨_, rfl⟩
          rw [hy] at hb2 hdr2 ⊢
          rw [loU_f, Option.bind_some]
          by_cases hlo : 56320 ≤ y ∧ y < 57344
          · have ew2 := Lib.hid (wsucc (i + 1) (by omega))
            have htp := textM_pair x y (l.drop (i + 1 + 1)) ⟨hh.1, hh.2, hlo.1, hlo.2⟩
            have ec := Lib.hid (wcomb x y hb hb2)
            have hCb : 65536 ≤ 65536 + (x - 55296) * 1024 + y - 56320 ∧ 65536 + (x - 55296) * 1024 + y - 56320 ≤ 1114111 := by omega
            obtain ⟨C, hC⟩ : ∃ C, 65536 + (x - 55296) * 1024 + y - 56320 = C := ⟨_, rfl⟩
            rw [hC] at ec htp hCb
            clear hC
            have hbl := encB_len C
            obtain ⟨E, hE⟩ : ∃ E, encB C = E := ⟨_, rfl⟩
            have hbf := bytes_f C (by omega) hCb.2
            rw [hE] at hbl htp hbf
            have hlt : acc.length + E.length < 140737488355328 := by omega
            rw [decide_eq_true hlo, if_pos rfl, ec.out, hbf, Option.bind_some, if_pos hlt, ew2.out, string_l l hu hl k (i + 1 + 1) _ (by omega) (by omega) (by rw [List.length_append]; omega), hdr, hdr2, htp, List.append_assoc]
          · rw [decide_eq_false hlo, if_neg (by decide)]
            exact hone (fun d r e => by rw [hdr2] at e; cases e; unfold pairU; exact fun h => hlo h.2.2)
        · rw [if_neg (by omega)]
          exact hone (fun d r e => by rw [List.drop_eq_nil_of_le (by omega)] at e; cases e)
      · rw [decide_eq_false hh, if_neg (by decide)]
        exact hone (fun d r e => by unfold pairU; exact fun h => hh ⟨h.1, h.2.1⟩)
    · rw [if_neg (by omega), List.drop_eq_nil_of_le (by omega)]
      simp [textM]
theorem strOf_mkB (xs : List Int) (h : ∀ x ∈ xs, 0 ≤ x ∧ x ≤ 255) : strOfNums xs = mkB xs := by
  apply bts_inj
  rw [bts_mkB xs h]
  unfold strOfNums bts
  rw [List.map_map]
  conv => rhs; rw [← List.map_id xs]
  refine List.map_congr_left fun x hx => ?_
  have := h x hx
  simp only [Function.comp, id]
  rw [UInt8.toNat_ofNat']
  omega
theorem rstring_any (A : Option Addr) (c : Nat) (l : List Int) (hc : l.length ≤ c) (hl : l.length ≤ 1000000) (hu : U16 l) (w : World) (hR : Rd w .u16 A l.length l) :
    Calls Tryd.prog 38 #[.slice A l.length c] w fun e w' => e = .returned (.string (mkB (textM l))) ∧ Below w.heap.size w w' :=
  (archivoltref05_String.calls (l.length + 1) A c l (mkB (textM l)) w (rdC hR) hc (by
    unfold archivoltref05_String.f
    have h := string_l l hu hl (l.length + 1) 0 [] (by omega) (by omega) (by simp)
    have h' : archivoltref05_String.l0 (l.length + 1) l [] 0 = some (strOfNums (textM l)) := by simpa using h
    rw [h', strOf_mkB _ (textM_bytes l hu)])).mono fun e w' h => h
end Go.Proofs.YtmbdiimenmnfjaaDoor
/- Walk: the document's Tried. -/
namespace Go.Proofs.YtmbdiimenmnfjaaDoor
open Go.RowKit Go.Deep
set_option linter.unusedVariables false
set_option linter.unusedSimpArgs false

theorem rstring_at (A : Option Addr) (c n : Nat) (l : List Int) (hn : l.length = n) (hc : n ≤ c) (hl : n ≤ 1000000) (hu : U16 l) (w : World) (hR : Rd w .u16 A n l) :
    Calls Tryd.prog 38 #[.slice A n c] w fun e w' => e = .returned (.string (mkB (textM l))) ∧ Below w.heap.size w w' := by
  subst hn
  exact rstring_any A c l hc hl hu w hR
theorem rchars_at (A : Option Addr) (c n : Nat) (l : List Int) (hn : l.length = n) (hl : n ≤ 40000) (hu : U16 l) (w : World) (hR : Rd w .u16 A n l) :
    Calls Tryd.prog 81 #[.slice A n c] w fun e w' => e = .returned (.string (mkB (shortenedM l))) ∧ Below w.heap.size w w' := by
  subst hn
  exact rchars_any A c l hl hu w hR
theorem toList_none : (⟨#[]⟩ : ByteArray).toList = [] := by rw [Go.ByteArray.toList_eq]
theorem empty_of {s : ByteArray} (h : s.toList = []) : s = ⟨#[]⟩ := by
  refine bts_inj ?_
  rw [(toList_nil s).1 h, (toList_nil ⟨#[]⟩).1 toList_none]
theorem add_none (s : ByteArray) : s ++ (⟨#[]⟩ : ByteArray) = s := by
  refine bts_inj ?_
  rw [bts_append, (toList_nil ⟨#[]⟩).1 toList_none, List.append_nil]
theorem size_add (x y : ByteArray) : (x ++ y).size = x.size + y.size := by rw [← bts_len, bts_append, List.length_append, bts_len, bts_len]
theorem firstS_all {s : ByteArray} {n : Nat} (h : s.size ≤ n) : firstS s n = s := by
  refine bts_inj ?_
  rw [bts_first, List.take_of_length_le (by rw [bts_len]; exact h)]
/-- Where the end begins. -/
def dotV (l : List Int) (k : Nat) : Nat := if dotU l k = 0 then l.length else dotU l k
theorem dotV_hit {l : List Int} {i : Nat} (hi : 1 ≤ i) (h : l.getD i 0 = 46) : dotV l i = i := by
  obtain ⟨j, rfl⟩ : ∃ j, i = j + 1 := ⟨i - 1, by omega⟩
  have e : dotU l (j + 1) = j + 1 := by simp only [dotU]; rw [if_pos h]
  unfold dotV
  rw [e, if_neg (by omega)]
theorem dotV_miss {l : List Int} {i : Nat} (hi : 1 ≤ i) (h : ¬ l.getD i 0 = 46) : dotV l i = dotV l (i - 1) := by
  obtain ⟨j, rfl⟩ : ∃ j, i = j + 1 := ⟨i - 1, by omega⟩
  have e : dotU l (j + 1) = dotU l j := by simp only [dotU]; rw [if_neg h]
  unfold dotV
  rw [e]; rfl

set_option maxRecDepth 100000 in
set_option maxHeartbeats 8000000 in
theorem rtried_zero (s : ByteArray) (hs : s.size ≤ 40000) (l : List Int) (hg : getU s = some l) (w : World) : Calls Tryd.prog 59 #[.string s, .int .i64 0] w fun e w' => e = .returned (.string (upS l)) ∧ Below w.heap.size w w' := by
  have hp := getU_props hg
  have HX := Lib.hid hp.1
  have hl : l.length ≤ 4096 := hp.2.2
  have HG := Lib.hid hg
  have hfd : ∀ (A : Option Addr) (n c : Nat) (q : Int) (w : World), (Instr.field 55 (.agg #[.slice A n c, .int .i64 q]) 0).run Tryd.prog w = .ok (.slice A n c) w := fun A n c q w => by kernel_rfl
  clear hg hp
  go_enter Tryd.func59, Tryd.ntmps59
  go_wp2_with (first
    | ((have hgd := HS2); clear hgd; go_at_call 38; refine (rstring_at A2 c2 l.length (l.map upM) (by rw [List.length_map]) hc2 (by omega) HX.out.map_up _ HS2.out).mono ?_; rintro e w3 ⟨rfl, hB⟩; (have HB3 := Lib.hid (below_then HB2.out HB2.out.size hB)); clear hB)
    | ((have hgd := HS1); clear hgd; go_at_call 39; refine (rraised_any A1 c1 l (by omega) HX.out _ HS1.out).mono ?_; rintro e w2 ⟨⟨A2, c2, rfl, hc2, hR⟩, hB⟩; (have HS2 := Lib.hid hR); (have HB2 := Lib.hid (below_then HB1.out HB1.out.size hB)); clear hB hR)
    | (go_at_call 34; refine (runits_ok s (by omega) l HG.out _).mono ?_; rintro e w1 ⟨⟨A1, c1, rfl, hc1, hR⟩, hB⟩; (have HS1 := Lib.hid hR); (have HB1 := Lib.hid hB); clear hB hR))
  go_ret
  exact ⟨rfl, HB3.out⟩

set_option maxRecDepth 100000 in
set_option maxHeartbeats 8000000 in
theorem rtried_num (s : ByteArray) (hs : s.size ≤ 40000) (l : List Int) (hg : getU s = some l) (hl1 : 1 ≤ l.length) (n : Nat) (hn1 : 1 ≤ n) (hn2 : n ≤ 9999) (w : World) :
    Calls Tryd.prog 59 #[.string s, .int .i64 n] w fun e w' => e = .returned (.string (tryN l n)) ∧ Below w.heap.size w w' := by
  have hp := getU_props hg
  have HX := Lib.hid hp.1
  have hl : l.length ≤ 4096 := hp.2.2
  have HG := Lib.hid hg
  have hfd : ∀ (A : Option Addr) (n c : Nat) (q : Int) (w : World), (Instr.field 55 (.agg #[.slice A n c, .int .i64 q]) 0).run Tryd.prog w = .ok (.slice A n c) w := fun A n c q w => by kernel_rfl
  obtain ⟨D, hD⟩ : ∃ D, decS n = D := ⟨_, rfl⟩
  have hDz : D.size ≤ 4 := by rw [← hD]; exact decS_size n hn2
  obtain ⟨T, hT⟩ : ∃ T, tryN l n = T := ⟨_, rfl⟩
  have HT : Hid (T = firstS (baseS l) (7 - D.size) ++ ⟨#[126]⟩ ++ D ++ endS l) := Lib.hid (by rw [← hT, ← hD]; rfl)
  have HD := Lib.hid hD
  have hn0 : ((n : Int) == 0) = false := by simp; omega
  rw [hT]
  clear hg hp hD hT
  go_enter Tryd.func59, Tryd.ntmps59
  go_wp2_with (go_at_call 34; refine (runits_ok s (by omega) l HG.out _).mono ?_; rintro e w1 ⟨⟨A1, c1, rfl, hc1, hR⟩, hB⟩; (have HS1 := Lib.hid hR); (have HB1 := Lib.hid hB); clear hB hR)
  go_loopw [6, 7] (fun v6 v7 W => ∃ i : Nat, v7 = .int .i64 i ∧ 1 ≤ i ∧ i ≤ l.length ∧ v6 = .int .i64 (dotV l (i - 1) : Nat) ∧ W = w1) (fun _ v7 _ => l.length - (intOf v7).toNat)
  case atStart => exact ⟨1, rfl, by omega, hl1, rfl, rfl⟩
  case round =>
    obtain ⟨i, rfl, hi1, hil, rfl, rfl⟩ := hrel
    by_cases hlt : i < l.length
    · have hlti : (i : Int) < l.length := by omega
      obtain ⟨ad, hA, hcl⟩ := HS1.out.at_ i hlt
      subst hA
      obtain ⟨x, hx⟩ : ∃ x, l.getD i 0 = x := ⟨_, rfl⟩
      rw [hx] at hcl
      by_cases h46 : x = 46
      · have hd : dotV l (i + 1 - 1) = i := dotV_hit hi1 (hx.trans h46)
        have HDV := Lib.hid hd
        subst h46
        clear hd hx
        go_wp2
        exact ⟨⟨i + 1, by simp, by omega, by omega, by rw [HDV.out], trivial⟩, by simp only [intOf]; omega⟩
      · have hd : dotV l (i + 1 - 1) = dotV l (i - 1) := dotV_miss (i := i) hi1 (by rw [hx]; exact h46)
        have HDV := Lib.hid hd
        have h46b : (x == 46) = false := by simpa using h46
        clear hd hx
        go_wp2
        exact ⟨⟨i + 1, by simp, by omega, by omega, by rw [HDV.out], trivial⟩, by simp only [intOf]; omega⟩
    · have hie : i = l.length := by omega
      subst hie
      have hlti : ¬ ((l.length : Int) < l.length) := by omega
      have hdl : dotOf l ≤ l.length - 1 := dotU_le l _
      by_cases hd0 : dotOf l = 0
      · have hdv : dotV l (l.length - 1) = l.length := if_pos (show dotU l (l.length - 1) = 0 from hd0)
        rw [hdv]
        have hbu : baseU l = l := by unfold baseU; rw [if_pos hd0]
        obtain ⟨BB, hBB⟩ : ∃ B, mkB (shortenedM l) = B := ⟨_, rfl⟩
        have HBB : Hid (mkB (shortenedM (baseU l)) = BB) := Lib.hid (by rw [hbu, hBB])
        have HBL := Lib.hid hBB
        have HEE : Hid (end0 l = ⟨#[]⟩) := Lib.hid (by unfold end0; rw [if_pos hd0]; rfl)
        have hbz2 : BB.size ≤ 5000 := by rw [← hBB, mkB_size]; have := shortenedM_len l; omega
        have hsl49 := slice_to49 A1 l.length c1 l.length hc1 (by omega)
        clear hdv hbu hBB hd0
        go_upto_region 14 with (go_at_call 81; refine (rchars_any A1 c1 l (by omega) HX.out _ HS1.out).mono ?_; rintro e w4 ⟨rfl, hB⟩; rw [HBL.out]; (have HB4 := Lib.hid (below_then HB1.out HB1.out.size hB)); clear hB)
        by_cases hbn : BB.toList = []
        · obtain rfl := empty_of hbn
          have hcmp : ¬ (7 - (D.size : Int) < 1) := by omega
          have hbs : baseS l = ⟨#[95]⟩ := by unfold baseS; rw [HBB.out, if_pos toList_none]
          have hbz : (⟨#[95]⟩ : ByteArray).size = 1 := rfl
          have hfb : firstS (baseS l) (7 - D.size) = ⟨#[95]⟩ := by rw [hbs]; exact firstS_all (by omega)
          have hb1z : (⟨#[95]⟩ : ByteArray).size ≤ 7 := by omega
          obtain ⟨F1, hF1⟩ : ∃ F, (⟨#[95]⟩ : ByteArray) ++ (⟨#[126]⟩ : ByteArray) = F := ⟨_, rfl⟩
          have hf1z : F1.size ≤ 8 := by rw [← hF1, size_add]; have : (⟨#[126]⟩ : ByteArray).size = 1 := rfl; omega
          have ha1 : ∀ W : World, (Op.stringOp .add ⟨#[95]⟩ ⟨#[126]⟩).run Tryd.prog W = .ok (.string F1) W := fun W => by rw [run_string_add_sum W _ _ (by have : (⟨#[126]⟩ : ByteArray).size = 1 := rfl; omega), hF1]
          have ha2 : ∀ W : World, (Op.stringOp .add F1 D).run Tryd.prog W = .ok (.string T) W := fun W => by
            rw [run_string_add_sum W _ _ (by omega), HT.out, hfb, hF1]
            have he : endS l = ⟨#[]⟩ := by unfold endS; rw [HEE.out, if_pos toList_none]
            rw [he, add_none]
          go_wp2_with (go_at_call 82; refine (decimal_any n (by omega) _).mono ?_; rintro e w5 ⟨rfl, hB⟩; rw [HD.out]; (have HB5 := Lib.hid (below_then HB4.out HB4.out.size hB)); clear hB)
          go_ret
          exact ⟨rfl, HB5.out⟩
        · have hbe : (BB.toList == []) = false := by simpa using hbn
          by_cases hcut : 7 - (D.size : Int) < BB.size
          · have hc0 : 0 ≤ 7 - (D.size : Int) := by omega
            have hbs : baseS l = BB := by unfold baseS; rw [HBB.out, if_neg hbn]
            obtain ⟨B1, hB1⟩ : ∃ B1, firstS BB (7 - D.size) = B1 := ⟨_, rfl⟩
            have hsl : ∀ W : World, (Instr.slice 9 (.string BB) none (some (.int .i64 (7 - (D.size : Int)))) none).run Tryd.prog W = .ok (.string B1) W := fun W => by rw [run_slice_string_h W 9 BB Tryd.underlying9 .i64 _ (by omega) (by omega), ← hB1]; unfold firstS; rw [show (7 - (D.size : Int)).toNat = min (7 - D.size) BB.size from by omega]
            have hfb : firstS (baseS l) (7 - D.size) = B1 := by rw [hbs, hB1]
            have hb1z : B1.size ≤ 7 := by rw [← hB1]; have := firstS_size BB (7 - D.size); omega
            obtain ⟨F1, hF1⟩ : ∃ F, (B1 : ByteArray) ++ (⟨#[126]⟩ : ByteArray) = F := ⟨_, rfl⟩
            have hf1z : F1.size ≤ 8 := by rw [← hF1, size_add]; have : (⟨#[126]⟩ : ByteArray).size = 1 := rfl; omega
            have ha1 : ∀ W : World, (Op.stringOp .add B1 ⟨#[126]⟩).run Tryd.prog W = .ok (.string F1) W := fun W => by rw [run_string_add_sum W _ _ (by have : (⟨#[126]⟩ : ByteArray).size = 1 := rfl; omega), hF1]
            have ha2 : ∀ W : World, (Op.stringOp .add F1 D).run Tryd.prog W = .ok (.string T) W := fun W => by
              rw [run_string_add_sum W _ _ (by omega), HT.out, hfb, hF1]
              have he : endS l = ⟨#[]⟩ := by unfold endS; rw [HEE.out, if_pos toList_none]
              rw [he, add_none]
            go_wp2_with (go_at_call 82; refine (decimal_any n (by omega) _).mono ?_; rintro e w5 ⟨rfl, hB⟩; rw [HD.out]; (have HB5 := Lib.hid (below_then HB4.out HB4.out.size hB)); clear hB)
            go_ret
            exact ⟨rfl, HB5.out⟩
          · skip
            have hbs : baseS l = BB := by unfold baseS; rw [HBB.out, if_neg hbn]
            have hfb : firstS (baseS l) (7 - D.size) = BB := by rw [hbs]; exact firstS_all (by omega)
            have hb1z : (BB : ByteArray).size ≤ 7 := by omega
            obtain ⟨F1, hF1⟩ : ∃ F, (BB : ByteArray) ++ (⟨#[126]⟩ : ByteArray) = F := ⟨_, rfl⟩
            have hf1z : F1.size ≤ 8 := by rw [← hF1, size_add]; have : (⟨#[126]⟩ : ByteArray).size = 1 := rfl; omega
            have ha1 : ∀ W : World, (Op.stringOp .add BB ⟨#[126]⟩).run Tryd.prog W = .ok (.string F1) W := fun W => by rw [run_string_add_sum W _ _ (by have : (⟨#[126]⟩ : ByteArray).size = 1 := rfl; omega), hF1]
            have ha2 : ∀ W : World, (Op.stringOp .add F1 D).run Tryd.prog W = .ok (.string T) W := fun W => by
              rw [run_string_add_sum W _ _ (by omega), HT.out, hfb, hF1]
              have he : endS l = ⟨#[]⟩ := by unfold endS; rw [HEE.out, if_pos toList_none]
              rw [he, add_none]
            go_wp2_with (go_at_call 82; refine (decimal_any n (by omega) _).mono ?_; rintro e w5 ⟨rfl, hB⟩; rw [HD.out]; (have HB5 := Lib.hid (below_then HB4.out HB4.out.size hB)); clear hB)
            go_ret
            exact ⟨rfl, HB5.out⟩
      · obtain ⟨k, hk⟩ : ∃ k, dotOf l = k := ⟨_, rfl⟩
        have hdv : dotV l (l.length - 1) = k := (if_neg (show ¬ dotU l (l.length - 1) = 0 from hd0)).trans hk
        rw [hdv]
        rw [hk] at hd0 hdl
        have hbu : baseU l = l.take k := by unfold baseU; rw [hk, if_neg hd0]
        obtain ⟨BB, hBB⟩ : ∃ B, mkB (shortenedM (l.take k)) = B := ⟨_, rfl⟩
        have HBB : Hid (mkB (shortenedM (baseU l)) = BB) := Lib.hid (by rw [hbu, hBB])
        have HBL := Lib.hid hBB
        obtain ⟨EE, hEE⟩ : ∃ B, mkB (shortenedM (l.drop (k + 1))) = B := ⟨_, rfl⟩
        have hend : end0 l = firstS EE 3 := by unfold end0; rw [hk, if_neg hd0, hEE]
        have HEL := Lib.hid hEE
        have hbz2 : BB.size ≤ 5000 := by rw [← hBB, mkB_size]; have := shortenedM_len (l.take k); rw [List.length_take] at this; omega
        have hez2 : EE.size ≤ 5000 := by rw [← hEE, mkB_size]; have := shortenedM_len (l.drop (k + 1)); rw [List.length_drop] at this; omega
        have hsl49 := slice_to49 A1 l.length c1 k (by omega) (by omega)
        have hsl50 : ∀ w, (Instr.slice 49 (.slice A1 l.length c1) (some (.int .i64 ((k : Int) + 1))) none none).run Tryd.prog w = .ok (.slice (if c1 = k + 1 then A1 else A1.map fun x => x.add (k + 1)) (l.length - (k + 1)) (c1 - (k + 1))) w := slice_from49 A1 l.length c1 (k + 1) (by omega)
        obtain ⟨A', hA'⟩ : ∃ A' : Option Addr, (if c1 = k + 1 then A1 else A1.map fun x => x.add (k + 1)) = A' := ⟨_, rfl⟩
        obtain ⟨n', hn'⟩ : ∃ n', l.length - (k + 1) = n' := ⟨_, rfl⟩
        have hRdr := HS1.out.drop hc1 (k + 1) (by omega)
        rw [hA', hn'] at hsl50 hRdr
        have HRdr := Lib.hid hRdr
        have HN' : Hid ((l.drop (k + 1)).length = n') := Lib.hid (by rw [List.length_drop]; exact hn')
        have HTK : Hid ((l.take k).length = k) := Lib.hid (by rw [List.length_take]; omega)
        have hnb : n' ≤ 40000 := by omega
        have hki : (k : Int) < l.length := by omega
        have hw1 : IntKind.i64.wrap ((k : Int) + 1) = (k : Int) + 1 := IntWalk.i64_in _ (by omega)
        have HEND := Lib.hid hend
        clear hdv hbu hBB hEE hRdr hn' hA' hend
        go_upto_region 14 with (first
          | ((have hgd := HB4); clear hgd; go_at_call 81; refine (rchars_at A' _ n' (l.drop (k + 1)) HN'.out hnb (HX.out.drop _) _ (HRdr.out.below HBx.out)).mono ?_; rintro e w6 ⟨rfl, hB⟩; rw [HEL.out]; (have HB6 := Lib.hid (below_then HB4.out HB4.out.size hB)); clear hB)
          | (go_at_call 81; refine (rchars_at A1 c1 k (l.take k) HTK.out (by omega) (HX.out.take _) _ (HS1.out.take k (by omega))).mono ?_; rintro e w4 ⟨rfl, hB⟩; rw [HBL.out]; (have HBx := Lib.hid hB); (have HB4 := Lib.hid (below_then HB1.out HB1.out.size hB)); clear hB))
        by_cases hen : EE.toList = []
        · obtain rfl := empty_of hen
          have HEE : Hid (end0 l = ⟨#[]⟩) := Lib.hid (by rw [HEND.out]; exact firstS_all (by decide))
          by_cases hbn : BB.toList = []
          · obtain rfl := empty_of hbn
            have hcmp : ¬ (7 - (D.size : Int) < 1) := by omega
            have hbs : baseS l = ⟨#[95]⟩ := by unfold baseS; rw [HBB.out, if_pos toList_none]
            have hbz : (⟨#[95]⟩ : ByteArray).size = 1 := rfl
            have hfb : firstS (baseS l) (7 - D.size) = ⟨#[95]⟩ := by rw [hbs]; exact firstS_all (by omega)
            have hb1z : (⟨#[95]⟩ : ByteArray).size ≤ 7 := by omega
            obtain ⟨F1, hF1⟩ : ∃ F, (⟨#[95]⟩ : ByteArray) ++ (⟨#[126]⟩ : ByteArray) = F := ⟨_, rfl⟩
            have hf1z : F1.size ≤ 8 := by rw [← hF1, size_add]; have : (⟨#[126]⟩ : ByteArray).size = 1 := rfl; omega
            have ha1 : ∀ W : World, (Op.stringOp .add ⟨#[95]⟩ ⟨#[126]⟩).run Tryd.prog W = .ok (.string F1) W := fun W => by rw [run_string_add_sum W _ _ (by have : (⟨#[126]⟩ : ByteArray).size = 1 := rfl; omega), hF1]
            have ha2 : ∀ W : World, (Op.stringOp .add F1 D).run Tryd.prog W = .ok (.string T) W := fun W => by
              rw [run_string_add_sum W _ _ (by omega), HT.out, hfb, hF1]
              have he : endS l = ⟨#[]⟩ := by unfold endS; rw [HEE.out, if_pos toList_none]
              rw [he, add_none]
            go_wp2_with (go_at_call 82; refine (decimal_any n (by omega) _).mono ?_; rintro e w5 ⟨rfl, hB⟩; rw [HD.out]; (have HB5 := Lib.hid (below_then HB6.out HB6.out.size hB)); clear hB)
            go_ret
            exact ⟨rfl, HB5.out⟩
          · have hbe : (BB.toList == []) = false := by simpa using hbn
            by_cases hcut : 7 - (D.size : Int) < BB.size
            · have hc0 : 0 ≤ 7 - (D.size : Int) := by omega
              have hbs : baseS l = BB := by unfold baseS; rw [HBB.out, if_neg hbn]
              obtain ⟨B1, hB1⟩ : ∃ B1, firstS BB (7 - D.size) = B1 := ⟨_, rfl⟩
              have hsl : ∀ W : World, (Instr.slice 9 (.string BB) none (some (.int .i64 (7 - (D.size : Int)))) none).run Tryd.prog W = .ok (.string B1) W := fun W => by rw [run_slice_string_h W 9 BB Tryd.underlying9 .i64 _ (by omega) (by omega), ← hB1]; unfold firstS; rw [show (7 - (D.size : Int)).toNat = min (7 - D.size) BB.size from by omega]
              have hfb : firstS (baseS l) (7 - D.size) = B1 := by rw [hbs, hB1]
              have hb1z : B1.size ≤ 7 := by rw [← hB1]; have := firstS_size BB (7 - D.size); omega
              obtain ⟨F1, hF1⟩ : ∃ F, (B1 : ByteArray) ++ (⟨#[126]⟩ : ByteArray) = F := ⟨_, rfl⟩
              have hf1z : F1.size ≤ 8 := by rw [← hF1, size_add]; have : (⟨#[126]⟩ : ByteArray).size = 1 := rfl; omega
              have ha1 : ∀ W : World, (Op.stringOp .add B1 ⟨#[126]⟩).run Tryd.prog W = .ok (.string F1) W := fun W => by rw [run_string_add_sum W _ _ (by have : (⟨#[126]⟩ : ByteArray).size = 1 := rfl; omega), hF1]
              have ha2 : ∀ W : World, (Op.stringOp .add F1 D).run Tryd.prog W = .ok (.string T) W := fun W => by
                rw [run_string_add_sum W _ _ (by omega), HT.out, hfb, hF1]
                have he : endS l = ⟨#[]⟩ := by unfold endS; rw [HEE.out, if_pos toList_none]
                rw [he, add_none]
              go_wp2_with (go_at_call 82; refine (decimal_any n (by omega) _).mono ?_; rintro e w5 ⟨rfl, hB⟩; rw [HD.out]; (have HB5 := Lib.hid (below_then HB6.out HB6.out.size hB)); clear hB)
              go_ret
              exact ⟨rfl, HB5.out⟩
            · skip
              have hbs : baseS l = BB := by unfold baseS; rw [HBB.out, if_neg hbn]
              have hfb : firstS (baseS l) (7 - D.size) = BB := by rw [hbs]; exact firstS_all (by omega)
              have hb1z : (BB : ByteArray).size ≤ 7 := by omega
              obtain ⟨F1, hF1⟩ : ∃ F, (BB : ByteArray) ++ (⟨#[126]⟩ : ByteArray) = F := ⟨_, rfl⟩
              have hf1z : F1.size ≤ 8 := by rw [← hF1, size_add]; have : (⟨#[126]⟩ : ByteArray).size = 1 := rfl; omega
              have ha1 : ∀ W : World, (Op.stringOp .add BB ⟨#[126]⟩).run Tryd.prog W = .ok (.string F1) W := fun W => by rw [run_string_add_sum W _ _ (by have : (⟨#[126]⟩ : ByteArray).size = 1 := rfl; omega), hF1]
              have ha2 : ∀ W : World, (Op.stringOp .add F1 D).run Tryd.prog W = .ok (.string T) W := fun W => by
                rw [run_string_add_sum W _ _ (by omega), HT.out, hfb, hF1]
                have he : endS l = ⟨#[]⟩ := by unfold endS; rw [HEE.out, if_pos toList_none]
                rw [he, add_none]
              go_wp2_with (go_at_call 82; refine (decimal_any n (by omega) _).mono ?_; rintro e w5 ⟨rfl, hB⟩; rw [HD.out]; (have HB5 := Lib.hid (below_then HB6.out HB6.out.size hB)); clear hB)
              go_ret
              exact ⟨rfl, HB5.out⟩
        · have heb : (EE.toList == []) = false := by simpa using hen
          by_cases h3 : 3 < (EE.size : Int)
          · obtain ⟨E1, hE1⟩ : ∃ E1, firstS EE 3 = E1 := ⟨_, rfl⟩
            have hsE : ∀ W : World, (Instr.slice 9 (.string EE) none (some (.int .i64 3)) none).run Tryd.prog W = .ok (.string E1) W := fun W => by rw [run_slice_string_h W 9 EE Tryd.underlying9 .i64 3 (by omega) (by omega), ← hE1]; unfold firstS; rw [show (3 : Int).toNat = min 3 EE.size from by omega]
            have HEE : Hid (end0 l = E1) := Lib.hid (by rw [HEND.out, hE1])
            have he1z : E1.size = 3 := by rw [← hE1]; unfold firstS; rw [ByteArray.size_extract]; omega
            have hev : ¬ E1.toList = [] := by
              intro h
              have h2 := (toList_nil E1).1 h
              have h3 := bts_len E1
              rw [h2, he1z] at h3
              cases h3
            have hevb : (E1.toList == []) = false := by simpa using hev
            by_cases hbn : BB.toList = []
            · obtain rfl := empty_of hbn
              have hcmp : ¬ (7 - (D.size : Int) < 1) := by omega
              have hbs : baseS l = ⟨#[95]⟩ := by unfold baseS; rw [HBB.out, if_pos toList_none]
              have hbz : (⟨#[95]⟩ : ByteArray).size = 1 := rfl
              have hfb : firstS (baseS l) (7 - D.size) = ⟨#[95]⟩ := by rw [hbs]; exact firstS_all (by omega)
              have hb1z : (⟨#[95]⟩ : ByteArray).size ≤ 7 := by omega
              obtain ⟨F1, hF1⟩ : ∃ F, (⟨#[95]⟩ : ByteArray) ++ (⟨#[126]⟩ : ByteArray) = F := ⟨_, rfl⟩
              have hf1z : F1.size ≤ 8 := by rw [← hF1, size_add]; have : (⟨#[126]⟩ : ByteArray).size = 1 := rfl; omega
              have ha1 : ∀ W : World, (Op.stringOp .add ⟨#[95]⟩ ⟨#[126]⟩).run Tryd.prog W = .ok (.string F1) W := fun W => by rw [run_string_add_sum W _ _ (by have : (⟨#[126]⟩ : ByteArray).size = 1 := rfl; omega), hF1]
              obtain ⟨F2, hF2⟩ : ∃ F, F1 ++ D = F := ⟨_, rfl⟩
              have hf2z : F2.size ≤ 12 := by rw [← hF2, size_add]; omega
              obtain ⟨F3, hF3⟩ : ∃ F, F2 ++ (⟨#[46]⟩ : ByteArray) = F := ⟨_, rfl⟩
              have hf3z : F3.size ≤ 13 := by rw [← hF3, size_add]; have : (⟨#[46]⟩ : ByteArray).size = 1 := rfl; omega
              have ha2 : ∀ W : World, (Op.stringOp .add F1 D).run Tryd.prog W = .ok (.string F2) W := fun W => by rw [run_string_add_sum W _ _ (by omega), hF2]
              have ha3 : ∀ W : World, (Op.stringOp .add F2 ⟨#[46]⟩).run Tryd.prog W = .ok (.string F3) W := fun W => by rw [run_string_add_sum W _ _ (by have : (⟨#[46]⟩ : ByteArray).size = 1 := rfl; omega), hF3]
              have ha4 : ∀ W : World, (Op.stringOp .add F3 E1).run Tryd.prog W = .ok (.string T) W := fun W => by
                rw [run_string_add_sum W _ _ (by omega), HT.out, hfb, hF1, hF2]
                have he : endS l = ⟨#[46]⟩ ++ E1 := by unfold endS; rw [HEE.out, if_neg hev]
                rw [he, ← hF3, ByteArray.append_assoc]
              go_wp2_with (go_at_call 82; refine (decimal_any n (by omega) _).mono ?_; rintro e w5 ⟨rfl, hB⟩; rw [HD.out]; (have HB5 := Lib.hid (below_then HB6.out HB6.out.size hB)); clear hB)
              go_ret
              exact ⟨rfl, HB5.out⟩
            · have hbe : (BB.toList == []) = false := by simpa using hbn
              by_cases hcut : 7 - (D.size : Int) < BB.size
              · have hc0 : 0 ≤ 7 - (D.size : Int) := by omega
                have hbs : baseS l = BB := by unfold baseS; rw [HBB.out, if_neg hbn]
                obtain ⟨B1, hB1⟩ : ∃ B1, firstS BB (7 - D.size) = B1 := ⟨_, rfl⟩
                have hsl : ∀ W : World, (Instr.slice 9 (.string BB) none (some (.int .i64 (7 - (D.size : Int)))) none).run Tryd.prog W = .ok (.string B1) W := fun W => by rw [run_slice_string_h W 9 BB Tryd.underlying9 .i64 _ (by omega) (by omega), ← hB1]; unfold firstS; rw [show (7 - (D.size : Int)).toNat = min (7 - D.size) BB.size from by omega]
                have hfb : firstS (baseS l) (7 - D.size) = B1 := by rw [hbs, hB1]
                have hb1z : B1.size ≤ 7 := by rw [← hB1]; have := firstS_size BB (7 - D.size); omega
                obtain ⟨F1, hF1⟩ : ∃ F, (B1 : ByteArray) ++ (⟨#[126]⟩ : ByteArray) = F := ⟨_, rfl⟩
                have hf1z : F1.size ≤ 8 := by rw [← hF1, size_add]; have : (⟨#[126]⟩ : ByteArray).size = 1 := rfl; omega
                have ha1 : ∀ W : World, (Op.stringOp .add B1 ⟨#[126]⟩).run Tryd.prog W = .ok (.string F1) W := fun W => by rw [run_string_add_sum W _ _ (by have : (⟨#[126]⟩ : ByteArray).size = 1 := rfl; omega), hF1]
                obtain ⟨F2, hF2⟩ : ∃ F, F1 ++ D = F := ⟨_, rfl⟩
                have hf2z : F2.size ≤ 12 := by rw [← hF2, size_add]; omega
                obtain ⟨F3, hF3⟩ : ∃ F, F2 ++ (⟨#[46]⟩ : ByteArray) = F := ⟨_, rfl⟩
                have hf3z : F3.size ≤ 13 := by rw [← hF3, size_add]; have : (⟨#[46]⟩ : ByteArray).size = 1 := rfl; omega
                have ha2 : ∀ W : World, (Op.stringOp .add F1 D).run Tryd.prog W = .ok (.string F2) W := fun W => by rw [run_string_add_sum W _ _ (by omega), hF2]
                have ha3 : ∀ W : World, (Op.stringOp .add F2 ⟨#[46]⟩).run Tryd.prog W = .ok (.string F3) W := fun W => by rw [run_string_add_sum W _ _ (by have : (⟨#[46]⟩ : ByteArray).size = 1 := rfl; omega), hF3]
                have ha4 : ∀ W : World, (Op.stringOp .add F3 E1).run Tryd.prog W = .ok (.string T) W := fun W => by
                  rw [run_string_add_sum W _ _ (by omega), HT.out, hfb, hF1, hF2]
                  have he : endS l = ⟨#[46]⟩ ++ E1 := by unfold endS; rw [HEE.out, if_neg hev]
                  rw [he, ← hF3, ByteArray.append_assoc]
                go_wp2_with (go_at_call 82; refine (decimal_any n (by omega) _).mono ?_; rintro e w5 ⟨rfl, hB⟩; rw [HD.out]; (have HB5 := Lib.hid (below_then HB6.out HB6.out.size hB)); clear hB)
                go_ret
                exact ⟨rfl, HB5.out⟩
              · skip
                have hbs : baseS l = BB := by unfold baseS; rw [HBB.out, if_neg hbn]
                have hfb : firstS (baseS l) (7 - D.size) = BB := by rw [hbs]; exact firstS_all (by omega)
                have hb1z : (BB : ByteArray).size ≤ 7 := by omega
                obtain ⟨F1, hF1⟩ : ∃ F, (BB : ByteArray) ++ (⟨#[126]⟩ : ByteArray) = F := ⟨_, rfl⟩
                have hf1z : F1.size ≤ 8 := by rw [← hF1, size_add]; have : (⟨#[126]⟩ : ByteArray).size = 1 := rfl; omega
                have ha1 : ∀ W : World, (Op.stringOp .add BB ⟨#[126]⟩).run Tryd.prog W = .ok (.string F1) W := fun W => by rw [run_string_add_sum W _ _ (by have : (⟨#[126]⟩ : ByteArray).size = 1 := rfl; omega), hF1]
                obtain ⟨F2, hF2⟩ : ∃ F, F1 ++ D = F := ⟨_, rfl⟩
                have hf2z : F2.size ≤ 12 := by rw [← hF2, size_add]; omega
                obtain ⟨F3, hF3⟩ : ∃ F, F2 ++ (⟨#[46]⟩ : ByteArray) = F := ⟨_, rfl⟩
                have hf3z : F3.size ≤ 13 := by rw [← hF3, size_add]; have : (⟨#[46]⟩ : ByteArray).size = 1 := rfl; omega
                have ha2 : ∀ W : World, (Op.stringOp .add F1 D).run Tryd.prog W = .ok (.string F2) W := fun W => by rw [run_string_add_sum W _ _ (by omega), hF2]
                have ha3 : ∀ W : World, (Op.stringOp .add F2 ⟨#[46]⟩).run Tryd.prog W = .ok (.string F3) W := fun W => by rw [run_string_add_sum W _ _ (by have : (⟨#[46]⟩ : ByteArray).size = 1 := rfl; omega), hF3]
                have ha4 : ∀ W : World, (Op.stringOp .add F3 E1).run Tryd.prog W = .ok (.string T) W := fun W => by
                  rw [run_string_add_sum W _ _ (by omega), HT.out, hfb, hF1, hF2]
                  have he : endS l = ⟨#[46]⟩ ++ E1 := by unfold endS; rw [HEE.out, if_neg hev]
                  rw [he, ← hF3, ByteArray.append_assoc]
                go_wp2_with (go_at_call 82; refine (decimal_any n (by omega) _).mono ?_; rintro e w5 ⟨rfl, hB⟩; rw [HD.out]; (have HB5 := Lib.hid (below_then HB6.out HB6.out.size hB)); clear hB)
                go_ret
                exact ⟨rfl, HB5.out⟩
          · have HEE : Hid (end0 l = EE) := Lib.hid (by rw [HEND.out]; exact firstS_all (by omega))
            have hev := hen
            by_cases hbn : BB.toList = []
            · obtain rfl := empty_of hbn
              have hcmp : ¬ (7 - (D.size : Int) < 1) := by omega
              have hbs : baseS l = ⟨#[95]⟩ := by unfold baseS; rw [HBB.out, if_pos toList_none]
              have hbz : (⟨#[95]⟩ : ByteArray).size = 1 := rfl
              have hfb : firstS (baseS l) (7 - D.size) = ⟨#[95]⟩ := by rw [hbs]; exact firstS_all (by omega)
              have hb1z : (⟨#[95]⟩ : ByteArray).size ≤ 7 := by omega
              obtain ⟨F1, hF1⟩ : ∃ F, (⟨#[95]⟩ : ByteArray) ++ (⟨#[126]⟩ : ByteArray) = F := ⟨_, rfl⟩
              have hf1z : F1.size ≤ 8 := by rw [← hF1, size_add]; have : (⟨#[126]⟩ : ByteArray).size = 1 := rfl; omega
              have ha1 : ∀ W : World, (Op.stringOp .add ⟨#[95]⟩ ⟨#[126]⟩).run Tryd.prog W = .ok (.string F1) W := fun W => by rw [run_string_add_sum W _ _ (by have : (⟨#[126]⟩ : ByteArray).size = 1 := rfl; omega), hF1]
              obtain ⟨F2, hF2⟩ : ∃ F, F1 ++ D = F := ⟨_, rfl⟩
              have hf2z : F2.size ≤ 12 := by rw [← hF2, size_add]; omega
              obtain ⟨F3, hF3⟩ : ∃ F, F2 ++ (⟨#[46]⟩ : ByteArray) = F := ⟨_, rfl⟩
              have hf3z : F3.size ≤ 13 := by rw [← hF3, size_add]; have : (⟨#[46]⟩ : ByteArray).size = 1 := rfl; omega
              have ha2 : ∀ W : World, (Op.stringOp .add F1 D).run Tryd.prog W = .ok (.string F2) W := fun W => by rw [run_string_add_sum W _ _ (by omega), hF2]
              have ha3 : ∀ W : World, (Op.stringOp .add F2 ⟨#[46]⟩).run Tryd.prog W = .ok (.string F3) W := fun W => by rw [run_string_add_sum W _ _ (by have : (⟨#[46]⟩ : ByteArray).size = 1 := rfl; omega), hF3]
              have ha4 : ∀ W : World, (Op.stringOp .add F3 EE).run Tryd.prog W = .ok (.string T) W := fun W => by
                rw [run_string_add_sum W _ _ (by omega), HT.out, hfb, hF1, hF2]
                have he : endS l = ⟨#[46]⟩ ++ EE := by unfold endS; rw [HEE.out, if_neg hev]
                rw [he, ← hF3, ByteArray.append_assoc]
              go_wp2_with (go_at_call 82; refine (decimal_any n (by omega) _).mono ?_; rintro e w5 ⟨rfl, hB⟩; rw [HD.out]; (have HB5 := Lib.hid (below_then HB6.out HB6.out.size hB)); clear hB)
              go_ret
              exact ⟨rfl, HB5.out⟩
            · have hbe : (BB.toList == []) = false := by simpa using hbn
              by_cases hcut : 7 - (D.size : Int) < BB.size
              · have hc0 : 0 ≤ 7 - (D.size : Int) := by omega
                have hbs : baseS l = BB := by unfold baseS; rw [HBB.out, if_neg hbn]
                obtain ⟨B1, hB1⟩ : ∃ B1, firstS BB (7 - D.size) = B1 := ⟨_, rfl⟩
                have hsl : ∀ W : World, (Instr.slice 9 (.string BB) none (some (.int .i64 (7 - (D.size : Int)))) none).run Tryd.prog W = .ok (.string B1) W := fun W => by rw [run_slice_string_h W 9 BB Tryd.underlying9 .i64 _ (by omega) (by omega), ← hB1]; unfold firstS; rw [show (7 - (D.size : Int)).toNat = min (7 - D.size) BB.size from by omega]
                have hfb : firstS (baseS l) (7 - D.size) = B1 := by rw [hbs, hB1]
                have hb1z : B1.size ≤ 7 := by rw [← hB1]; have := firstS_size BB (7 - D.size); omega
                obtain ⟨F1, hF1⟩ : ∃ F, (B1 : ByteArray) ++ (⟨#[126]⟩ : ByteArray) = F := ⟨_, rfl⟩
                have hf1z : F1.size ≤ 8 := by rw [← hF1, size_add]; have : (⟨#[126]⟩ : ByteArray).size = 1 := rfl; omega
                have ha1 : ∀ W : World, (Op.stringOp .add B1 ⟨#[126]⟩).run Tryd.prog W = .ok (.string F1) W := fun W => by rw [run_string_add_sum W _ _ (by have : (⟨#[126]⟩ : ByteArray).size = 1 := rfl; omega), hF1]
                obtain ⟨F2, hF2⟩ : ∃ F, F1 ++ D = F := ⟨_, rfl⟩
                have hf2z : F2.size ≤ 12 := by rw [← hF2, size_add]; omega
                obtain ⟨F3, hF3⟩ : ∃ F, F2 ++ (⟨#[46]⟩ : ByteArray) = F := ⟨_, rfl⟩
                have hf3z : F3.size ≤ 13 := by rw [← hF3, size_add]; have : (⟨#[46]⟩ : ByteArray).size = 1 := rfl; omega
                have ha2 : ∀ W : World, (Op.stringOp .add F1 D).run Tryd.prog W = .ok (.string F2) W := fun W => by rw [run_string_add_sum W _ _ (by omega), hF2]
                have ha3 : ∀ W : World, (Op.stringOp .add F2 ⟨#[46]⟩).run Tryd.prog W = .ok (.string F3) W := fun W => by rw [run_string_add_sum W _ _ (by have : (⟨#[46]⟩ : ByteArray).size = 1 := rfl; omega), hF3]
                have ha4 : ∀ W : World, (Op.stringOp .add F3 EE).run Tryd.prog W = .ok (.string T) W := fun W => by
                  rw [run_string_add_sum W _ _ (by omega), HT.out, hfb, hF1, hF2]
                  have he : endS l = ⟨#[46]⟩ ++ EE := by unfold endS; rw [HEE.out, if_neg hev]
                  rw [he, ← hF3, ByteArray.append_assoc]
                go_wp2_with (go_at_call 82; refine (decimal_any n (by omega) _).mono ?_; rintro e w5 ⟨rfl, hB⟩; rw [HD.out]; (have HB5 := Lib.hid (below_then HB6.out HB6.out.size hB)); clear hB)
                go_ret
                exact ⟨rfl, HB5.out⟩
              · skip
                have hbs : baseS l = BB := by unfold baseS; rw [HBB.out, if_neg hbn]
                have hfb : firstS (baseS l) (7 - D.size) = BB := by rw [hbs]; exact firstS_all (by omega)
                have hb1z : (BB : ByteArray).size ≤ 7 := by omega
                obtain ⟨F1, hF1⟩ : ∃ F, (BB : ByteArray) ++ (⟨#[126]⟩ : ByteArray) = F := ⟨_, rfl⟩
                have hf1z : F1.size ≤ 8 := by rw [← hF1, size_add]; have : (⟨#[126]⟩ : ByteArray).size = 1 := rfl; omega
                have ha1 : ∀ W : World, (Op.stringOp .add BB ⟨#[126]⟩).run Tryd.prog W = .ok (.string F1) W := fun W => by rw [run_string_add_sum W _ _ (by have : (⟨#[126]⟩ : ByteArray).size = 1 := rfl; omega), hF1]
                obtain ⟨F2, hF2⟩ : ∃ F, F1 ++ D = F := ⟨_, rfl⟩
                have hf2z : F2.size ≤ 12 := by rw [← hF2, size_add]; omega
                obtain ⟨F3, hF3⟩ : ∃ F, F2 ++ (⟨#[46]⟩ : ByteArray) = F := ⟨_, rfl⟩
                have hf3z : F3.size ≤ 13 := by rw [← hF3, size_add]; have : (⟨#[46]⟩ : ByteArray).size = 1 := rfl; omega
                have ha2 : ∀ W : World, (Op.stringOp .add F1 D).run Tryd.prog W = .ok (.string F2) W := fun W => by rw [run_string_add_sum W _ _ (by omega), hF2]
                have ha3 : ∀ W : World, (Op.stringOp .add F2 ⟨#[46]⟩).run Tryd.prog W = .ok (.string F3) W := fun W => by rw [run_string_add_sum W _ _ (by have : (⟨#[46]⟩ : ByteArray).size = 1 := rfl; omega), hF3]
                have ha4 : ∀ W : World, (Op.stringOp .add F3 EE).run Tryd.prog W = .ok (.string T) W := fun W => by
                  rw [run_string_add_sum W _ _ (by omega), HT.out, hfb, hF1, hF2]
                  have he : endS l = ⟨#[46]⟩ ++ EE := by unfold endS; rw [HEE.out, if_neg hev]
                  rw [he, ← hF3, ByteArray.append_assoc]
                go_wp2_with (go_at_call 82; refine (decimal_any n (by omega) _).mono ?_; rintro e w5 ⟨rfl, hB⟩; rw [HD.out]; (have HB5 := Lib.hid (below_then HB6.out HB6.out.size hB)); clear hB)
                go_ret
                exact ⟨rfl, HB5.out⟩
end Go.Proofs.YtmbdiimenmnfjaaDoor
/- Walk: the document's Short. -/
namespace Go.Proofs.YtmbdiimenmnfjaaDoor
open Go.RowKit Go.Deep
set_option linter.unusedVariables false
set_option linter.unusedSimpArgs false

theorem two_frz2 {W : World} {b : Nat} {u v : Value} {t : TypeId} (h : W.heap[b]? = some (.cells #[u, v] t (0, 0))) : W.frozen? ⟨b, 1, none⟩ = false := by simp [World.frozen?, h]
theorem set_two2 {w W W' : World} {b : Nat} {u v u' v' : Value} {t : TypeId} (h : W.heap[b]? = some (.cells #[u, v] t (0, 0))) (hB : Below w.heap.size w W) (hb : w.heap.size ≤ b) (e : ((W.setCell ⟨b, 0, none⟩ u').setCell ⟨b, 1, none⟩ v') = W') :
    W'.cell? ⟨b, 0, none⟩ = some u' ∧ W'.cell? ⟨b, 1, none⟩ = some v' ∧ Below w.heap.size w W' := by
  subst e
  refine ⟨?_, ?_, below_st (below_st hB hb) hb⟩
  · rw [World.cell?_setCell_other _ _ _ _ (by simp)]
    exact World.cell?_setCell_same _ _ _ (two_at h).1
  · exact World.cell?_setCell_same (u := v) _ _ _ (by rw [World.cell?_setCell_other _ _ _ _ (by simp)]; exact (two_at h).2.1)

def candN (l : List Int) (n : Nat) : ByteArray := if n = 0 then upS l else tryN l n
def okN (l : List Int) (taken : List ByteArray) (n : Nat) : Bool := (decide (0 < n) || isShortM (upS l)) && !(taken.any fun t => sameM (candN l n) t)
def fromN (l : List Int) (taken : List ByteArray) : Nat → Nat → ByteArray × Int
  | 0, _ => (ByteArray.empty, 5)
  | k + 1, n => if okN l taken n = true then (candN l n, 0) else fromN l taken k (n + 1)
theorem same_some {x : ByteArray} (h : isShortM x = true) (taken : List ByteArray) : (taken.any fun t => sameM x t) = metB (upsM taken) x := by
  rw [Bool.eq_iff_iff, metB_iff, List.any_eq_true]
  unfold upsM
  rw [List.mem_flatMap]
  exact ⟨fun ⟨t, ht, h1⟩ => ⟨t, ht, (same_short h).1 h1⟩, fun ⟨t, ht, h1⟩ => ⟨t, ht, (same_short h).2 h1⟩⟩
theorem fromN_num (l : List Int) (taken : List ByteArray) : ∀ (k n : Nat), 1 ≤ n → n + k ≤ 10000 → fromN l taken k n = match ((List.range k).map fun i => tryN l (n + i)).find? (fun x => !metB (upsM taken) x) with
      | some x => (x, 0)
      | none => (ByteArray.empty, 5)
  | 0, n, h1, h => rfl
  | k + 1, n, h1, h => by
    have ih := fromN_num l taken k (n + 1) (by omega) (by omega)
    have e : ((List.range (k + 1)).map fun i => tryN l (n + i)) = tryN l n :: (List.range k).map fun i => tryN l (n + 1 + i) := by
      rw [List.range_succ_eq_map, List.map_cons, List.map_map, Nat.add_zero]
      refine congrArg (tryN l n :: ·) (List.map_congr_left fun i _ => ?_)
      show tryN l (n + (i + 1)) = tryN l (n + 1 + i)
      rw [show n + (i + 1) = n + 1 + i from by omega]
    have ho : okN l taken n = !metB (upsM taken) (tryN l n) := by
      unfold okN candN
      rw [if_neg (by omega), decide_eq_true (by omega : 0 < n), same_some (try_short l n (by omega))]
      simp
    rw [e, List.find?_cons]
    simp only [fromN]
    rw [ho]
    cases hm : metB (upsM taken) (tryN l n) with
    | true => simpa using ih
    | false => simp [candN, show ¬ n = 0 by omega]
theorem fromN_first (l : List Int) (taken : List ByteArray) (K : Nat) (hK : K + 1 ≤ 10000) : fromN l taken (K + 1) 0 = match ((if isShortM (upS l) = true then [upS l] else []) ++ (List.range K).map fun i => tryN l (i + 1)).find? (fun x => !metB (upsM taken) x) with
      | some x => (x, 0)
      | none => (ByteArray.empty, 5) := by
  have h := fromN_num l taken K 1 (by omega) (by omega)
  have e : ((List.range K).map fun i => tryN l (1 + i)) = (List.range K).map fun i => tryN l (i + 1) := List.map_congr_left fun i _ => by rw [Nat.add_comm 1 i]
  rw [e] at h
  have hc : candN l 0 = upS l := rfl
  have hu : fromN l taken (K + 1) 0 = if okN l taken 0 = true then (candN l 0, 0) else fromN l taken K 1 := rfl
  rw [hu, h, hc]
  generalize ((List.range K).map fun i => tryN l (i + 1)) = L
  by_cases hs : isShortM (upS l) = true
  · have ho : okN l taken 0 = !metB (upsM taken) (upS l) := by
      unfold okN
      rw [hc, hs, same_some hs]; simp
    rw [if_pos hs, ho, List.singleton_append, List.find?_cons]
    cases hm : metB (upsM taken) (upS l) with
    | true => rfl
    | false => rfl
  · have ho : okN l taken 0 = false := by unfold okN; simp [hs]
    rw [if_neg hs, ho, List.nil_append]
    rfl
theorem fromN_all (l : List Int) (taken : List ByteArray) : fromN l taken 10000 0 = shortOf l (upsM taken) := fromN_first l taken 9999 (by omega)
def partN (l : List Int) (taken : List ByteArray) (n j : Nat) : Bool := (decide (0 < n) || isShortM (upS l)) && !((taken.take j).any fun t => sameM (candN l n) t)
theorem partN_all (l : List Int) (taken : List ByteArray) (n : Nat) : partN l taken n taken.length = okN l taken n := by unfold partN okN; rw [List.take_length]
theorem partN_none (l : List Int) (taken : List ByteArray) (n : Nat) : partN l taken n 0 = (decide (0 < n) || isShortM (upS l)) := by simp [partN]
theorem partN_no {l : List Int} {taken : List ByteArray} {n j : Nat} (h : partN l taken n j = false) : okN l taken n = false := by
  unfold partN at h
  unfold okN
  rw [Bool.and_eq_false_iff] at h ⊢
  rcases h with h | h
  · exact Or.inl h
  · refine Or.inr ?_
    rw [Bool.not_eq_false', List.any_eq_true] at h ⊢
    obtain ⟨t, ht, h1⟩ := h
    exact ⟨t, List.mem_of_mem_take ht, h1⟩
theorem partN_more {l : List Int} {taken : List ByteArray} {n j : Nat} (hj : j < taken.length) (h : partN l taken n j = true) : partN l taken n (j + 1) = !sameM (candN l n) (taken.getD j ByteArray.empty) := by
  unfold partN at h ⊢
  rw [Bool.and_eq_true, Bool.not_eq_true'] at h
  have e : taken.take (j + 1) = taken.take j ++ [taken.getD j ByteArray.empty] := by
    rw [List.take_add_one, List.getD_eq_getElem?_getD, List.getElem?_eq_getElem hj]; rfl
  rw [e, List.any_append, h.2, h.1]
  simp

theorem rtried_cand (s : ByteArray) (hs : s.size ≤ 40000) (l : List Int) (hg : getU s = some l) (hl1 : 1 ≤ l.length) (n : Nat) (hn2 : n ≤ 9999) (w : World) : Calls Tryd.prog 59 #[.string s, .int .i64 n] w fun e w' => e = .returned (.string (candN l n)) ∧ Below w.heap.size w w' := by
  cases n with
  | zero => exact rtried_zero s hs l hg w
  | succ n => exact rtried_num s hs l hg hl1 (n + 1) (by omega) hn2 w
theorem cand_size (l : List Int) (n : Nat) (hl : l.length ≤ 32) (hn : n ≤ 9999) : (candN l n).size ≤ 40000 := by
  unfold candN
  split
  · unfold upS
    rw [mkB_size]
    have := textM_len (l.map upM)
    rw [List.length_map] at this
    omega
  · have := (short_is (try_short l n hn)).2.2.1
    omega

set_option maxRecDepth 100000 in
set_option maxHeartbeats 8000000 in
theorem rshort_any (s : ByteArray) (hs : s.size ≤ 40000) (A : Option Addr) (c : Nat) (taken : List ByteArray) (w : World) (hR : RdS w A taken.length taken) (hc : taken.length ≤ c) (hz : ∀ t ∈ taken, t.size ≤ 40000) :
    Calls Tryd.prog 28 #[.string s, .slice A taken.length c] w fun e w' => e = .returned (.agg #[.string (shortM s taken).1, .int .i64 (shortM s taken).2]) ∧ Below w.heap.size w w' := by
  obtain ⟨M, hM⟩ : ∃ M, shortM s taken = M := ⟨_, rfl⟩
  rw [hM]
  have HM := Lib.hid hM
  have hmx : taken.length ≤ 9223372036854775807 := hR.max
  have HR := Lib.hid hR
  have HZ := Lib.hid hz
  clear hM hR hz
  go_enter Tryd.func28, Tryd.ntmps28
  go_upto_region 2 with (go_at_call 16; refine (rcheck_any s (by omega) _).mono ?_; rintro e w1 ⟨rfl, hB⟩; (have HX4 := Lib.hid (below_heap (heap_alloc_new w (.cells #[.string ⟨#[]⟩, .int .i64 0] 37)) hB)); (have HB1 := Lib.hid (below_then (below_al (Below.refl w.heap.size w) (.cells #[.string ⟨#[]⟩, .int .i64 0] 37)) (below_al (Below.refl w.heap.size w) (.cells #[.string ⟨#[]⟩, .int .i64 0] 37)).size hB)); clear hB)
  obtain ⟨B4, hB4⟩ : ∃ B, w.heap.size = B := ⟨_, rfl⟩
  have HX4' : Hid (w1.heap[B4]? = some (.cells #[.string ⟨#[]⟩, .int .i64 0] 37 (0, 0))) := Lib.hid (by rw [← hB4]; exact HX4.out)
  have HB4 := Lib.hid hB4
  rw [hB4]
  clear hB4 HX4
  obtain ⟨C, hC⟩ : ∃ C, checkM s = C := ⟨_, rfl⟩
  rw [hC]
  by_cases hc0 : C = 0
  · obtain ⟨l, hu, hu1, hu32, -⟩ := check_units (hC.trans hc0)
    have hM : M = fromN l taken 10000 0 := by rw [← HM.out, fromN_all]; unfold shortM; rw [if_neg (by rw [hC]; simpa using hc0), hu]
    have HI := Lib.hid hM
    have HU := Lib.hid hu
    subst hc0
    clear hC hM hu
    go_wp2
    go_loopw [6] (fun v6 W => ∃ n : Nat, v6 = .int .i64 n ∧ n ≤ 10000 ∧ Hid (M = fromN l taken (10000 - n) n) ∧ Hid (W.heap[B4]? = some (.cells #[.string ⟨#[]⟩, .int .i64 0] 37 (0, 0))) ∧ Hid (Below w.heap.size w W)) (fun v6 _ => 10000 - (intOf v6).toNat)
    case atStart => exact ⟨0, rfl, by omega, HI, HX4', HB1⟩
    case round =>
      obtain ⟨n, rfl, hn, HI2, HX, HB⟩ := hrel
      clear HI HX4' HB1
      by_cases hlt : n ≤ 9999
      · have hlti : (n : Int) ≤ 9999 := by omega
        obtain ⟨T, hT⟩ : ∃ T, candN l n = T := ⟨_, rfl⟩
        have hTz : T.size ≤ 40000 := by rw [← hT]; exact cand_size l n (by omega) (by omega)
        have HT := Lib.hid hT
        clear hT
        have HPL := Lib.hid (partN_none l taken n)
        go_upto_region 8 with (go_at_call 59; refine (rtried_cand s hs l HU.out hu1 n (by omega) _).mono ?_; rintro e w2 ⟨rfl, hB⟩; rw [HT.out]; (have HX2 := Lib.hid (below_heap HX.out hB)); (have HB2 := Lib.hid (below_then HB.out HB.out.size hB)); clear hB)
        go_cut [8] (fun v8 wc => v8 = .bool (partN l taken n 0) ∧ Hid (wc.heap[B4]? = some (.cells #[.string ⟨#[]⟩, .int .i64 0] 37 (0, 0))) ∧ Hid (Below w.heap.size w wc))
        case first =>
          by_cases h0 : n = 0
          · subst h0
            have hTu : T = upS l := HT.out.symm
            subst hTu
            go_wp2_with (go_at_call 26; refine (risShort_any _ (by omega) _).mono ?_; rintro e w3 ⟨rfl, hD⟩; (have HX3 := Lib.hid (below_heap HX2.out (below_drawn (Below.refl _ _) hD))); (have HB3 := Lib.hid (below_drawn HB2.out hD)); clear hD)
            go_meet
            case rel => exact ⟨by rw [HPL.out]; simp, HX3, HB3⟩
          · have hni : (0 : Int) < n := by omega
            go_wp2
            go_meet
            case rel => exact ⟨by rw [HPL.out, decide_eq_true (by omega : 0 < n), Bool.true_or], HX2, HB2⟩
        case rest =>
          obtain ⟨rfl, HX3, HB3⟩ := hcut
          go_wp2
          go_loopw [8, 9] (fun v8 v9 W => ∃ j : Nat, v9 = .int .i64 j ∧ j ≤ taken.length ∧ v8 = .bool (partN l taken n j) ∧ Hid (W.heap[B4]? = some (.cells #[.string ⟨#[]⟩, .int .i64 0] 37 (0, 0))) ∧ Hid (Below w.heap.size w W)) (fun _ v9 _ => taken.length - (intOf v9).toNat)
          case atStart => exact ⟨0, rfl, by omega, rfl, HX3, HB3⟩
          case round =>
            obtain ⟨j, rfl, hj, rfl, HX4, HB4'⟩ := hrel
            clear HX2 HX3 HB2 HB3 HX HB
            obtain ⟨P, hP⟩ : ∃ P, partN l taken n j = P := ⟨_, rfl⟩
            rw [hP]
            have hstep : okN l taken n = false → M = fromN l taken (10000 - (n + 1)) (n + 1) := fun h => by
              have h2 := HI2.out
              rw [show 10000 - n = (10000 - (n + 1)) + 1 from by omega] at h2
              simpa [fromN, h] using h2
            have HST := Lib.hid hstep
            clear hstep
            by_cases hlt2 : j < taken.length
            · have hlti2 : (j : Int) < taken.length := by omega
              cases P with
              | true =>
                have HPM := Lib.hid (partN_more hlt2 hP)
                obtain ⟨ad, hA, hcl⟩ := (HR.out.below HB4'.out).at_ j hlt2
                subst hA
                obtain ⟨x, hx⟩ : ∃ x, taken.getD j ByteArray.empty = x := ⟨_, rfl⟩
                have hxz : x.size ≤ 40000 := by
                  refine HZ.out x ?_
                  rw [← hx, List.getD_eq_getElem?_getD, List.getElem?_eq_getElem hlt2]
                  exact List.getElem_mem hlt2
                rw [hx] at hcl
                have HXX := Lib.hid hx
                clear hP hx
                go_wp2_with (go_at_call 24; refine (rsame_any T x hTz hxz _).mono ?_; rintro e w4 ⟨rfl, hB⟩; (have HX5 := Lib.hid (below_heap HX4.out hB)); (have HB5 := Lib.hid (below_then HB4'.out HB4'.out.size hB)); clear hB)
                exact ⟨⟨j + 1, by simp, by omega, by rw [HPM.out, HXX.out, HT.out], HX5, HB5⟩, by simp only [intOf]; omega⟩
              | false =>
                have HI3 := Lib.hid (HST.out (partN_no hP))
                clear hP
                go_wp2
                exact ⟨⟨n + 1, by simp, by omega, HI3, HX4, HB4'⟩, by simp only [intOf]; omega⟩
            · have hje : j = taken.length := by omega
              subst hje
              have hlti2 : ¬ ((taken.length : Int) < taken.length) := by omega
              rw [partN_all] at hP
              cases P with
              | false =>
                have HI3 := Lib.hid (HST.out hP)
                clear hP
                go_wp2
                exact ⟨⟨n + 1, by simp, by omega, HI3, HX4, HB4'⟩, by simp only [intOf]; omega⟩
              | true =>
                have hMT : M = (T, 0) := by
                  have h2 := HI2.out
                  rw [show 10000 - n = (10000 - (n + 1)) + 1 from by omega] at h2
                  simpa [fromN, hP, HT.out] using h2
                subst hMT
                clear hP
                obtain ⟨a0, a1, a2, a3⟩ := two_at HX4.out
                have a4 := two_frz2 HX4.out
                go_wp2
                obtain ⟨W6, hW6⟩ : ∃ W6, ((wr.setCell ⟨B4, 0, none⟩ (.string T)).setCell ⟨B4, 1, none⟩ (.int .i64 0)) = W6 := ⟨_, rfl⟩
                obtain ⟨d0, d1, d2⟩ := set_two2 HX4.out HB4'.out (by rw [HB4.out]; exact Nat.le_refl _) hW6
                rw [hW6]
                clear hW6
                exact bodyPost_ret (v := .agg #[.string T, .int .i64 0]) (by simp [results, Tryd.results28, go_sem, d0, d1]) rfl ⟨rfl, d2⟩
      · have hne : n = 10000 := by omega
        subst hne
        have hlti : ¬ (10000 : Int) ≤ 9999 := by omega
        obtain rfl : M = (ByteArray.empty, 5) := HI2.out
        obtain ⟨a0, a1, a2, a3⟩ := two_at HX.out
        have a4 := two_frz2 HX.out
        go_wp2
        obtain ⟨W6, hW6⟩ : ∃ W6, ((wr.setCell ⟨B4, 0, none⟩ (.string ⟨#[]⟩)).setCell ⟨B4, 1, none⟩ (.int .i64 5)) = W6 := ⟨_, rfl⟩
        obtain ⟨d0, d1, d2⟩ := set_two2 HX.out HB.out (by rw [HB4.out]; exact Nat.le_refl _) hW6
        rw [hW6]
        clear hW6
        exact bodyPost_ret (v := .agg #[.string ⟨#[]⟩, .int .i64 5]) (by simp [results, Tryd.results28, go_sem, d0, d1]) rfl ⟨rfl, d2⟩
  · have hM : M = (ByteArray.empty, C) := by rw [← HM.out]; unfold shortM; rw [if_pos (by rw [hC]; simpa using hc0), hC]
    subst hM
    have hcb : (C == 0) = false := by simpa using hc0
    clear hC
    obtain ⟨a0, a1, a2, a3⟩ := two_at HX4'.out
    have a4 := two_frz2 HX4'.out
    go_wp2
    obtain ⟨W6, hW6⟩ : ∃ W6, ((w1.setCell ⟨B4, 0, none⟩ (.string ⟨#[]⟩)).setCell ⟨B4, 1, none⟩ (.int .i64 C)) = W6 := ⟨_, rfl⟩
    obtain ⟨d0, d1, d2⟩ := set_two2 HX4'.out HB1.out (by rw [HB4.out]; exact Nat.le_refl _) hW6
    rw [hW6]
    clear hW6
    exact bodyPost_ret (v := .agg #[.string ⟨#[]⟩, .int .i64 C]) (by simp [results, Tryd.results28, go_sem, d0, d1]) rfl ⟨rfl, d2⟩
end Go.Proofs.YtmbdiimenmnfjaaDoor
/- The rows' words: what the condition on the listed variables gives; a world that meets it; an argument that is a slice of strings. -/
namespace Go.Proofs.YtmbdiimenmnfjaaDoor
open Go.Shelf Go.ChangeShapes Go.WideShapes Go.ChangeAt Go.RowKit Go.Deep
open Go.ChangeMaps (open_string shut_string)
set_option linter.unusedVariables false
set_option maxRecDepth 100000

theorem Tryd.own : ownKnob Tryd.prog.godebug = none := by kernel_rfl
theorem Tryd.laidOut : laidOutB Tryd.prog = true := by kernel_rfl
theorem Tryd.cells9 : Tryd.prog.cellsOf 9 = 1 := by kernel_rfl
theorem Tryd.cells120 : Tryd.prog.cellsOf 120 = 1 := by kernel_rfl
theorem Tryd.cells126 : Tryd.prog.cellsOf 126 = 20 := by kernel_rfl
theorem Tryd.gP : Tryd.prog.globalNamed "internal/strconv.uint64pow10" = some 1 := by kernel_rfl
theorem Tryd.gPType : (Tryd.prog.globals[1]?).map (·.type) = some 126 := by kernel_rfl

def laidL : List (String × DataW Unit) := [("math/bits.deBruijn32tab", Rows.laid_math_bits_deBruijn32tab), ("math/bits.deBruijn64tab", Rows.laid_math_bits_deBruijn64tab), ("internal/strconv.uint64pow10", Rows.laid_internal_strconv_uint64pow10)]
theorem tab_of_laid {W : World} (h : laidMet Tryd.prog laidL W) : Tab W := by
  have h3 : laidMet Tryd.prog [("internal/strconv.uint64pow10", Lib.tabData .u64 Lib.pow10Tab)] W := h.tail.tail
  exact Lib.tabIs_of_head Tryd.gP Tryd.gPType Tryd.underlying126 Tryd.underlying120 Tryd.cells120 Tryd.cells126 h3

def cellsOfData : DataW Unit → Array Value
  | .agg l => (l.map fun
    | .lit (.int k z) => Value.int k z
    | _ => .int .i64 0).toArray
  | _ => #[]
/-- A world that meets the condition: the settled one, the three variables laid. -/
noncomputable def laidWorld (os : Os) : World :=
  let w0 := World.holding Tryd.prog os ⟨#[], #[], []⟩
  let put (h : Array Obj) (g : Nat) (cs : Array Value) : Array Obj := h.modify g fun
    | .cells _ t frozen => .cells cs t frozen
    | o => o
  let h1 := put w0.heap 1 (cellsOfData Rows.laid_internal_strconv_uint64pow10)
  let h2 := put h1 2 (cellsOfData Rows.laid_math_bits_deBruijn32tab)
  let h3 := put h2 3 (cellsOfData Rows.laid_math_bits_deBruijn64tab)
  { w0 with heap := h3 }
theorem laid_met (os : Os) (args : Array Value) : laidMet Tryd.prog laidL ((laidWorld os).forCall (fun _ _ => 0) ⟨#[], args, []⟩).memory :=
  (LaidIn.of_run [2, 3, 1] 8 (by kernel_rfl) (by kernel_rfl) (by kernel_rfl) (by kernel_rfl)).met

section
variable {H : Type} {enc : TypeId × Value → H}
theorem shut_bool {W : World} {base : Nat} {spare : Nat → Bool} {held : Bool} (b : Bool) : DataW.Trod enc Tryd.prog W base spare held 4 (.bool b) (.lit (.bool b)) [] :=
  ⟨1, by simp [DataW.trod, Value.cells, Tryd.underlying4]⟩
end
end Go.Proofs.YtmbdiimenmnfjaaDoor
/- Slices of strings: arguments, appends, few. -/
namespace Go.Proofs.YtmbdiimenmnfjaaDoor
open Go.RowKit Go.Deep Go.ChangeShapes Go.WideShapes Go.ChangeAt
open Go.Proofs.YtmbdiimenmnfjaaDoor.PNamesNames
open Go.Proofs.YtmbdiimenmnfjaaDoorW.PrintWords (rd rdOf Drawn0)
set_option linter.unusedVariables false
set_option linter.unusedSimpArgs false
set_option maxRecDepth 100000

section
variable {H : Type} {enc : TypeId × Value → H}
theorem open_taken2 {W : World} {base : Nat} {v1 : Value} {d1 : DataW H} {p1 : List MemPlace} (hval : Value.okWide Tryd.prog W .any base 33 v1) (h1 : DataW.Trod enc Tryd.prog W 0 (fun _ => true) true 33 v1 d1 p1) :
    ∃ A c b, v1 = .slice A b.length c ∧ b.length ≤ c ∧ b.length ≤ maxLen ∧ RdS W A b.length b ∧ (A = none → c = 0) := by
  obtain ⟨a1, len, cap, rfl⟩ := okWide_slice Tryd.underlying33 hval
  obtain ⟨fuel, hf⟩ := h1
  rcases open_strings Tryd.underlying33 Tryd.underlying9 Tryd.cells9 hf with ⟨hcs, hx⟩ | ⟨a, len', cap', zs, hcs, _, hl, hm, hz, hx, hcell, hwz⟩
  · simp [Value.cells] at hcs
    obtain ⟨rfl, rfl, rfl⟩ := hcs
    exact ⟨none, 0, [], rfl, by simp, by simp, ⟨rfl, by simp, fun j hj => absurd hj (Nat.not_lt_zero _)⟩, fun _ => rfl⟩
  · simp [Value.cells] at hcs
    obtain ⟨rfl, rfl, rfl⟩ := hcs
    simp only [if_true] at hz
    have hlen : (zs.take len).length = len := by simp; omega
    have hget : ∀ j, j < len → (zs.take len).getD j ByteArray.empty = zs.getD j ByteArray.empty := fun j hj => by
      simp [List.getD_eq_getElem?_getD, hj]
    refine ⟨some a, cap, zs.take len, by rw [hlen], by rw [hlen]; exact hl, by rw [hlen]; omega, ⟨rfl, by rw [hlen]; simp only [maxLen] at hm; omega, fun j hj => ⟨a, rfl, ?_⟩⟩, fun e => by cases e⟩
    rw [hlen] at hj
    rw [hget j hj]
    exact hcell j (by omega)
end
theorem few_l2 (l : List ByteArray) (hl : l.length ≤ 9223372036854775807) : ∀ (k i : Nat), i ≤ l.length → l.length < i + k → archivoltlaw05_few.l0 k l (i : Int) = some (((l.drop i).all fun s => decide (s.size ≤ 400)) && decide (l.length ≤ 30))
  | 0, i, h1, h3 => by omega
  | k + 1, i, h1, h3 => by
    unfold archivoltlaw05_few.l0
    by_cases hi : i < l.length
    · rw [if_pos (by omega), if_pos (by omega)]
      have ex : rdOf ByteArray.empty l (i : Int) = l.getD i ByteArray.empty := rfl
      rw [ex, drop_consS hi, List.all_cons]
      by_cases q : (l.getD i ByteArray.empty).size ≤ 400
      · rw [if_neg (by omega), decide_eq_true q, Bool.true_and]
        have ew : wrap64 ((i : Int) + 1) = ((i + 1 : Nat) : Int) := by unfold wrap64; omega
        rw [ew]
        exact few_l2 l hl k (i + 1) (by omega) (by omega)
      · rw [if_pos (by omega), decide_eq_false q]; rfl
    · rw [if_neg (by omega), List.drop_eq_nil_of_le (by omega), List.all_nil, Bool.true_and]
      congr 1
      rw [decide_eq_decide]
      omega
theorem few_any2 (A : Option Addr) (c : Nat) (l : List ByteArray) (w : World) (h : RdS w A l.length l) (hc : l.length ≤ c) (hl : l.length ≤ 9223372036854775807) :
    Calls Tryd.prog 14 #[.slice A l.length c] w fun e w' => e = .returned (.bool (fewM l)) ∧ Drawn w w' :=
  (archivoltlaw05_few.calls (l.length + 1) A c l (fewM l) w (rdS h) hc (by
    unfold archivoltlaw05_few.f
    have := few_l2 l hl (l.length + 1) 0 (by omega) (by omega)
    exact this)).mono fun e w' h => ⟨h.1, drawn0 h.2⟩

def strV (xs : List ByteArray) : List Value := xs.map Value.string
end Go.Proofs.YtmbdiimenmnfjaaDoor
/- Walk: the law NamesShorts. -/
namespace Go.Proofs.YtmbdiimenmnfjaaDoor
open Go.RowKit Go.Deep
set_option linter.unusedVariables false
set_option linter.unusedSimpArgs false

set_option maxRecDepth 100000 in
set_option maxHeartbeats 8000000 in
theorem law_NamesShorts (s : ByteArray) (A1 : Option Addr) (c1 : Nat) (ts : List ByteArray) (hc1 : ts.length ≤ c1) (hN1 : A1 = none → c1 = 0) (hm1 : ts.length ≤ 9223372036854775807)
    (w : World) (ht : Tab w) (hR1 : RdS w A1 ts.length ts) : Calls Tryd.prog 4 #[.string s, .slice A1 ts.length c1] w fun e w' => e = .returned (.bool true) ∧ Below w.heap.size w w' := by
  have HT := Lib.hid ht
  have HR1 := Lib.hid hR1
  clear ht hR1
  obtain ⟨f, hf⟩ : ∃ f, fewM [s] = f := ⟨_, rfl⟩
  have HF := Lib.hid hf
  cases f with
  | false =>
    clear hf
    go_enter Tryd.func4, Tryd.ntmps4
    go_wp2_with (first
      | ((have hgd := HB1); clear hgd; go_at_call 15; refine (sanity_any _ (HT.out.below HB1.out)).mono ?_; rintro e w2 ⟨rfl, hB⟩; (have HB2 := Lib.hid (below_then HB1.out HB1.out.size hB)); clear hB)
      | (go_at_call 14; refine (few_one s _ _ rfl).mono ?_; rintro e w1 ⟨rfl, hB⟩; rw [HF.out]; (have HB1 := Lib.hid hB); clear hB))
    go_ret
    exact ⟨rfl, HB2.out⟩
  | true =>
  have hz := (few_is hf).1
  have hzs : s.size ≤ 400 := hz s (by simp)
  clear hf hz
  obtain ⟨f, hf⟩ : ∃ f, fewM ts = f := ⟨_, rfl⟩
  have HF2 := Lib.hid hf
  cases f with
  | false =>
    clear hf
    go_enter Tryd.func4, Tryd.ntmps4
    go_wp2_with (first
      | ((have hgd := HB2); clear hgd; go_at_call 15; refine (sanity_any _ (HT.out.below HB2.out)).mono ?_; rintro e w3 ⟨rfl, hB⟩; (have HB3 := Lib.hid (below_then HB2.out HB2.out.size hB)); clear hB)
      | ((have hgd := HB1); clear hgd; go_at_call 14; refine (few_any2 A1 c1 ts _ (HR1.out.below HB1.out) hc1 hm1).mono ?_; rintro e w2 ⟨rfl, hB⟩; rw [HF2.out]; (have HB2 := Lib.hid (below_drawn HB1.out hB)); clear hB)
      | (go_at_call 14; refine (few_one s _ _ rfl).mono ?_; rintro e w1 ⟨rfl, hB⟩; rw [HF.out]; (have HB1 := Lib.hid hB); clear hB))
    go_ret
    exact ⟨rfl, HB3.out⟩
  | true =>
  have hz2 := (few_is hf).1
  have hl30 := (few_is hf).2
  have HTZ : Hid (∀ t ∈ ts, t.size ≤ 1000) := Lib.hid fun t h => by have := hz2 t h; omega
  have HTY : Hid (∀ t ∈ ts, t.size ≤ 40000) := Lib.hid fun t h => by have := hz2 t h; omega
  clear hf hz2
  obtain ⟨⟨X, E⟩, hM⟩ : ∃ m, shortM s ts = m := ⟨_, rfl⟩
  have HM := Lib.hid hM
  have hxx : (X.toList == X.toList) = true := by simp
  clear hM
  go_enter Tryd.func4, Tryd.ntmps4
  go_upto_region 5 with (first
    | ((have hgd := HB3); clear hgd; go_at_call 28; refine (rshort_any s (by omega) A1 c1 ts _ (HR1.out.below HB3.out) hc1 HTY.out).mono ?_; rintro e w4 ⟨rfl, hB⟩; rw [HM.out]; (have HB4 := Lib.hid (below_then HB3.out HB3.out.size hB)); clear hB)
    | ((have hgd := HB2); clear hgd; go_at_call 27; refine (short_any s (by omega) A1 ts.length c1 hc1 ts (by omega) HTZ.out _ (HR1.out.below HB2.out) (HT.out.below HB2.out)).mono ?_; rintro e w3 ⟨rfl, hB⟩; rw [HM.out]; (have HB3 := Lib.hid (below_then HB2.out HB2.out.size hB)); clear hB)
    | ((have hgd := HB1); clear hgd; go_at_call 14; refine (few_any2 A1 c1 ts _ (HR1.out.below HB1.out) hc1 hm1).mono ?_; rintro e w2 ⟨rfl, hB⟩; rw [HF2.out]; (have HB2 := Lib.hid (below_drawn HB1.out hB)); clear hB)
    | (go_at_call 14; refine (few_one s _ _ rfl).mono ?_; rintro e w1 ⟨rfl, hB⟩; rw [HF.out]; (have HB1 := Lib.hid hB); clear hB))
  obtain ⟨B7, hB7⟩ : ∃ B, w4.heap.size = B := ⟨_, rfl⟩
  obtain ⟨W7, hW7⟩ : ∃ W, w4.alloc (.cells #[.string X, .int .i64 E] 37) = W := ⟨_, rfl⟩
  have HX7 : Hid (W7.heap[B7]? = some (.cells #[.string X, .int .i64 E] 37 (0, 0))) := Lib.hid (by rw [← hW7, ← hB7]; exact heap_alloc_new _ _)
  have HB7 : Hid (Below w.heap.size w W7) := Lib.hid (by rw [← hW7]; exact below_al HB4.out _)
  rw [hB7, hW7]
  clear hB7 hW7
  go_wp2_with (go_at_call 15; refine (sanity_any _ (HT.out.below HB7.out)).mono ?_; rintro e w9 ⟨rfl, hB⟩; obtain ⟨y0, y1, y2, y3⟩ := two_at (below_heap HX7.out hB); (have HB9 := Lib.hid (below_then HB7.out HB7.out.size hB)); clear hB)
  go_ret
  exact ⟨rfl, HB9.out⟩
end Go.Proofs.YtmbdiimenmnfjaaDoor
/- NamesShorts: for every input the law returns true and leaves its arguments as they were; the three listed tables of the library are tied to the program's text. Conditions: none beyond the row. -/
namespace Go.Proofs.YtmbdiimenmnfjaaDoor
open Go.Shelf Go.ChangeShapes Go.WideShapes Go.ChangeAt Go.RowKit Go.Deep
open Go.ChangeMaps (open_string shut_string)
set_option linter.unusedVariables false
set_option maxRecDepth 100000

theorem namesShorts_witness (os : Os) {H : Type} (enc : TypeId × Value → H) :
    (OpenSpec.ofChange Rows.namesShortsSpec).preRow enc Tryd.prog Tryd.f4 Rows.namesShortsRow.domain false Rows.namesShortsRow.laid ((laidWorld os).forCall (fun _ _ => 0) ⟨#[], #[.string ⟨#[]⟩, .slice none 0 0], []⟩).memory #[.string ⟨#[]⟩, .slice none 0 0] := by
  have hw : (DataW.whole enc Tryd.prog ((laidWorld os).forCall (fun _ _ => 0) ⟨#[], #[.string ⟨#[]⟩, .slice none 0 0], []⟩).memory Tryd.f4.params.toList (OpenSpec.ofChange Rows.namesShortsSpec).vars false ((#[.string ⟨#[]⟩, .slice none 0 0] : Array Value).toList) 8).map (fun x => (x.1, x.2.1)) =
      some ([.lit (.string []), .nil], []) := by kernel_rfl
  obtain ⟨⟨x1, x2, x3⟩, hx, hx1⟩ := Option.map_eq_some_iff.1 hw
  simp only [Prod.mk.injEq] at hx1
  obtain ⟨rfl, rfl⟩ := hx1
  exact OpenSpec.preRow_of_cond 8 hx (by kernel_rfl) (fun k hk => by cases hk) (by kernel_rfl) (laid_met os _)

set_option maxHeartbeats 2000000 in
theorem namesShorts_lifted (os : Os) (started : os.Started) (H : Type) (enc : TypeId × Value → H) (F : Stop.Interp) :
    ReturnsInHanded {} Tryd.checked os 4 .any ((OpenSpec.ofChange Rows.namesShortsSpec).preRow enc Tryd.prog Tryd.f4 Rows.namesShortsRow.domain false Rows.namesShortsRow.laid) (((OpenSpec.ofChange Rows.namesShortsSpec).at F).post enc Tryd.prog Tryd.f4 false true false false) := by
  refine returnsInHanded_of_row (C := Tryd.checked) (s := (OpenSpec.ofChange Rows.namesShortsSpec)) Tryd.own started (by kernel_rfl) Tryd.func4
    (witness_row_atRef (enc := enc) (C := Tryd.checked) false (laidWorld os) #[.string ⟨#[]⟩, .slice none 0 0] rfl (by kernel_rfl) (by kernel_rfl) (by kernel_rfl) (namesShorts_witness os enc)) ?_
  intro W base args ds gs before hval0 hW hcnd0 _ _ hL _ _
  have hval : ∀ (j : Nat) t v, Tryd.f4.params[j]? = some t → args[j]? = some v → Value.okWide Tryd.prog W .any base t v := hval0
  have hW' := hW
  obtain ⟨p, q, hA0, hV0, rfl, _, _⟩ := hW
  have hA : DataW.TrodAll enc Tryd.prog W 0 (fun _ => true) true Tryd.f4.params.toList args.toList ds p := hA0
  rw [Tryd.params4] at hA hval
  obtain ⟨v0, v1, d0, d1, p0, p1, rfl, rfl, rfl, h0, h1⟩ := trodAll_two hA
  obtain ⟨rfl, rfl⟩ := trodVars_none hV0
  obtain ⟨s0, rfl, rfl, rfl, ws0⟩ := open_string Tryd.underlying9 (hval 0 9 v0 rfl rfl) h0
  obtain ⟨A1, c1, b1, rfl, hc1, hm1, hR1, hN1⟩ := open_taken2 (hval 1 33 v1 rfl rfl) h1
  clear hA0 hV0 hval0
  have hlt1 : ∀ x ∈ p1, x.block < W.heap.size := fun x hx => hW'.lt x (by simp [hx])
  refine (law_NamesShorts s0 A1 c1 b1 hc1 hN1 (by unfold maxLen at hm1; omega) W (tab_of_laid hL) hR1).mono ?_
  rintro e W' ⟨rfl, bel⟩
  refine ⟨_, rfl, _, _, _, [], _, [], hW', trodAll_mk1 (shut_bool true), trodAll_mk2 (shut_string Tryd.underlying9 ws0) (Below.trod Tryd.laidOut (by kernel_rfl) (of_decide_eq_true (by kernel_rfl)) h1 bel hlt1), rfl, bel.frame _, fun h => by cases h⟩

theorem namesShorts_said : Rows.NamesShortsSaid :=
  OpenClaim.holds_of_cond 4 Tryd.f4 rfl rfl rfl rfl rfl rfl rfl ⟨rfl, rfl, rfl, rfl, rfl⟩ rfl rfl rfl rfl rfl (by kernel_rfl) Tryd.func4 (by kernel_rfl)
    (of_decide_eq_true (by kernel_rfl)) (by unfold Func.isWrapper; rw [if_neg (of_decide_eq_false (by kernel_rfl))]; exact ⟨rfl, rfl⟩)
    (fun os started H enc _ F0 => by rw [OpenClaim.pre_eq_preRow]; exact namesShorts_lifted os started H enc F0)

/-- The tied card. -/
theorem namesShorts_holds : Rows.NamesShortsCardSaid :=
  Claim7.holds_tied_plain_at .later [] [.data, .data, .data] true (true, "66086631d20495c7847d46aa70f2f13bc49942b8d180c92b9434ef6fd88d0904") true
    namesShorts_said (fun _ h => by cases h) (by kernel_rfl) (fun _ h => by cases h) namesShorts_row_tie rfl ⟨rfl, rfl⟩ (by kernel_rfl) rfl
    (fun f fn hf hfn => by
      obtain rfl : f = 4 := Option.some.inj ((show Tryd.prog.funcNamed "archivolt/archivoltlaw05.NamesShorts" = some 4 by kernel_rfl).symm.trans hf) |>.symm
      obtain rfl : fn = Tryd.f4 := (Option.some.inj (Tryd.func4.symm.trans hfn)).symm
      refine ⟨by kernel_rfl, fun j t ht => ?_⟩
      rw [Tryd.params4] at ht
      have hm := List.mem_of_getElem? (l := [9, 33]) (by simpa using ht)
      have hall : ∀ t ∈ ([9, 33] : List TypeId), Tryd.prog.wantsStandIn t = false := by
        intro t ht
        simp only [List.mem_cons, List.not_mem_nil, or_false] at ht
        rcases ht with rfl | rfl <;> kernel_rfl
      exact hall t hm)
    (by kernel_rfl)
#print axioms namesShorts_holds
end Go.Proofs.YtmbdiimenmnfjaaDoor
