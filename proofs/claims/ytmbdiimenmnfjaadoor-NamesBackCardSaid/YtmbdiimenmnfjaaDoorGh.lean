/- The document's Units: what was printed of it is the model. -/
import Derived.Test.YtmbdiimenmnfjaaDoorGc
import Derived.Test.YtmbdiimenmnfjaaDoorGb
import Derived.Test.YtmbdiimenmnfjaaDoorPNamesNamesx48
import Derived.Test.YtmbdiimenmnfjaaDoorPNamesNamesx50
import Derived.Test.YtmbdiimenmnfjaaDoorPNamesNamesx57
namespace Go.Proofs.YtmbdiimenmnfjaaDoor
open Go.RowKit Go.Deep
open Go.Proofs.YtmbdiimenmnfjaaDoor.PNamesNames
open Go.Proofs.YtmbdiimenmnfjaaDoorW.PrintWords (rd bt Drawn0 Kd)
set_option linter.unusedVariables false
set_option linter.unusedSimpArgs false

theorem w64 (x : Int) (h0 : -4611686018427387904 ≤ x) (h1 : x ≤ 4611686018427387904) : wrap64 x = x := by unfold wrap64; omega
theorem bt_bts (s : ByteArray) (i : Nat) (h : i < s.size) : bt s (i : Int) = (bts s).getD i 0 := by
  rw [bts_get s i h]
  unfold bt
  rw [dif_pos (by simpa using h)]
  rfl
/-- A byte that goes on, as a number; -1 if it is none. -/
def contV (s : List Int) (i : Nat) : Int := match contM s i with
  | some x => x
  | none => -1
theorem contV_bd (s : List Int) (i : Nat) : -1 ≤ contV s i ∧ contV s i ≤ 63 := by
  unfold contV
  cases h : contM s i with
  | none => simp
  | some x => have := contM_bd h; simp only; omega
theorem more_f (s : ByteArray) (i : Nat) (hi : i ≤ 1000000000) : archivoltref05_more.f s (i : Int) = some (contV (bts s) i) := by
  unfold archivoltref05_more.f contV contM
  by_cases h : i < s.size
  · have hb := bts_bd s i
    rw [if_neg (by omega), if_pos (by omega), if_pos (by omega), bt_bts s i h, bts_len]
    by_cases h1 : (bts s).getD i 0 < 128
    · rw [if_pos h1, if_neg (by omega)]
    · rw [if_neg h1]
      by_cases h2 : (bts s).getD i 0 ≥ 192
      · rw [if_pos h2, if_neg (by omega)]
      · rw [if_neg h2, if_pos (by omega), w64 ((bts s).getD i 0) (by omega) (by omega), w64 _ (by omega) (by omega)]
  · rw [if_pos (by omega), if_neg (by rw [bts_len]; omega)]
/-- The code point as numbers. -/
def pointR (b x y z : Int) : Int × Int :=
  if 194 ≤ b ∧ b < 224 ∧ 0 ≤ x then ((b - 192) * 64 + x, 2)
  else if 224 ≤ b ∧ b < 240 ∧ 0 ≤ x ∧ 0 ≤ y ∧ 2048 ≤ (b - 224) * 4096 + x * 64 + y then ((b - 224) * 4096 + x * 64 + y, 3)
  else if 240 ≤ b ∧ b < 248 ∧ 0 ≤ x ∧ 0 ≤ y ∧ 0 ≤ z ∧ 65536 ≤ (b - 240) * 262144 + x * 4096 + y * 64 + z ∧ (b - 240) * 262144 + x * 4096 + y * 64 + z ≤ 1114111 then ((b - 240) * 262144 + x * 4096 + y * 64 + z, 4)
  else (0, 0)
theorem j2_f (k : Nat) (b x y z : Int) (q : Bool) (hb : 0 ≤ b ∧ b ≤ 255) (hx : -1 ≤ x ∧ x ≤ 63) (hy : -1 ≤ y ∧ y ≤ 63) (hz : -1 ≤ z ∧ z ≤ 63) :
    archivoltref05_first.j2 (k + 1) b x y z q = some (if q = true ∧ 65536 ≤ (b - 240) * 262144 + x * 4096 + y * 64 + z ∧ (b - 240) * 262144 + x * 4096 + y * 64 + z ≤ 1114111 then ((b - 240) * 262144 + x * 4096 + y * 64 + z, 4) else (0, 0)) := by
  have e : wrap64 ((wrap64 ((wrap64 ((wrap64 ((wrap64 (b - 240)) * 262144)) + (wrap64 (x * 4096)))) + (wrap64 (y * 64)))) + z) = (b - 240) * 262144 + x * 4096 + y * 64 + z := by
    rw [w64 (b - 240) (by omega) (by omega), w64 ((b - 240) * 262144) (by omega) (by omega), w64 (x * 4096) (by omega) (by omega), w64 ((b - 240) * 262144 + x * 4096) (by omega) (by omega), w64 (y * 64) (by omega) (by omega), w64 ((b - 240) * 262144 + x * 4096 + y * 64) (by omega) (by omega), w64 _ (by omega) (by omega)]
  rw [archivoltref05_first.j2]
  rw [e]
  cases q with
  | false => simp
  | true =>
    by_cases h1 : (b - 240) * 262144 + x * 4096 + y * 64 + z ≥ 65536
    · by_cases h2 : (b - 240) * 262144 + x * 4096 + y * 64 + z ≤ 1114111
      · rw [if_pos rfl, if_pos h1, if_pos h2, if_pos ⟨rfl, h1, h2⟩]
      · rw [if_pos rfl, if_pos h1, if_neg h2, if_neg (fun h => h2 h.2.2)]
    · rw [if_pos rfl, if_neg h1, if_neg (fun h => h1 h.2.1)]
theorem j1_f (k : Nat) (b x y z : Int) (q : Bool) (hb : 0 ≤ b ∧ b ≤ 255) (hx : -1 ≤ x ∧ x ≤ 63) (hy : -1 ≤ y ∧ y ≤ 63) (hz : -1 ≤ z ∧ z ≤ 63) :
    archivoltref05_first.j1 (k + 2) b x y z q = some (if q = true then (if 2048 ≤ (b - 224) * 4096 + x * 64 + y then ((b - 224) * 4096 + x * 64 + y, 3) else (0, 0)) else if 240 ≤ b ∧ b < 248 ∧ 0 ≤ x ∧ 0 ≤ y ∧ 0 ≤ z ∧ 65536 ≤ (b - 240) * 262144 + x * 4096 + y * 64 + z ∧ (b - 240) * 262144 + x * 4096 + y * 64 + z ≤ 1114111 then ((b - 240) * 262144 + x * 4096 + y * 64 + z, 4) else (0, 0)) := by
  have e : wrap64 ((wrap64 ((wrap64 ((wrap64 (b - 224)) * 4096)) + (wrap64 (x * 64)))) + y) = (b - 224) * 4096 + x * 64 + y := by
    rw [w64 (b - 224) (by omega) (by omega), w64 ((b - 224) * 4096) (by omega) (by omega), w64 (x * 64) (by omega) (by omega), w64 ((b - 224) * 4096 + x * 64) (by omega) (by omega), w64 _ (by omega) (by omega)]
  rw [archivoltref05_first.j1]
  rw [e]
  cases q with
  | true =>
    rw [if_pos rfl, if_pos rfl]
    by_cases h : (b - 224) * 4096 + x * 64 + y ≥ 2048
    · rw [if_pos h, if_pos h]
    · rw [if_neg h, if_neg h]
  | false =>
    have hf : ¬ (false = true) := by decide
    rw [if_neg hf, if_neg hf]
    have hj := fun q => j2_f k b x y z q hb hx hy hz
    simp only [hj]
    by_cases h1 : b ≥ 240
    · by_cases h2 : b < 248
      · by_cases h3 : x ≥ 0
        · by_cases h4 : y ≥ 0
          · rw [if_pos h1, if_pos h2, if_pos h3, if_pos h4]
            by_cases h5 : z ≥ 0
            · rw [decide_eq_true h5]
              congr 1
              by_cases h6 : 65536 ≤ (b - 240) * 262144 + x * 4096 + y * 64 + z ∧ (b - 240) * 262144 + x * 4096 + y * 64 + z ≤ 1114111
              · rw [if_pos ⟨rfl, h6⟩, if_pos ⟨h1, h2, h3, h4, h5, h6⟩]
              · rw [if_neg (fun h => h6 h.2), if_neg (fun h => h6 h.2.2.2.2.2)]
            · rw [decide_eq_false h5, if_neg (fun h => hf h.1), if_neg (fun h => h5 h.2.2.2.2.1)]
          · rw [if_pos h1, if_pos h2, if_pos h3, if_neg h4, if_neg (fun h => hf h.1), if_neg (fun h => h4 h.2.2.2.1)]
        · rw [if_pos h1, if_pos h2, if_neg h3, if_neg (fun h => hf h.1), if_neg (fun h => h3 h.2.2.1)]
      · rw [if_pos h1, if_neg h2, if_neg (fun h => hf h.1), if_neg (fun h => h2 h.2.1)]
    · rw [if_neg h1, if_neg (fun h => hf h.1), if_neg (fun h => h1 h.1)]
theorem j0_f (k : Nat) (b x y z : Int) (q : Bool) (hb : 0 ≤ b ∧ b ≤ 255) (hx : -1 ≤ x ∧ x ≤ 63) (hy : -1 ≤ y ∧ y ≤ 63) (hz : -1 ≤ z ∧ z ≤ 63) (hq : q = decide (194 ≤ b ∧ b < 224 ∧ 0 ≤ x)) :
    archivoltref05_first.j0 (k + 3) b x y z q = some (pointR b x y z) := by
  rw [archivoltref05_first.j0]
  have hf : ¬ (false = true) := by decide
  have hj := fun q => j1_f k b x y z q hb hx hy hz
  cases q with
  | true =>
    have h := of_decide_eq_true hq.symm
    rw [if_pos rfl, w64 (b - 192) (by omega) (by omega), w64 ((b - 192) * 64) (by omega) (by omega), w64 _ (by omega) (by omega)]
    unfold pointR
    rw [if_pos h]
  | false =>
    have h := of_decide_eq_false hq.symm
    rw [if_neg hf]
    simp only [hj]
    unfold pointR
    rw [if_neg h]
    by_cases h1 : b ≥ 224
    · by_cases h2 : b < 240
      · have h240 : ¬ (240 ≤ b ∧ b < 248 ∧ 0 ≤ x ∧ 0 ≤ y ∧ 0 ≤ z ∧ 65536 ≤ (b - 240) * 262144 + x * 4096 + y * 64 + z ∧ (b - 240) * 262144 + x * 4096 + y * 64 + z ≤ 1114111) := fun h => by omega
        by_cases h3 : x ≥ 0
        · rw [if_pos h1, if_pos h2, if_pos h3]
          by_cases h4 : y ≥ 0
          · rw [decide_eq_true h4, if_pos rfl]
            congr 1
            by_cases h5 : 2048 ≤ (b - 224) * 4096 + x * 64 + y
            · rw [if_pos h5, if_pos ⟨h1, h2, h3, h4, h5⟩]
            · rw [if_neg h5, if_neg (fun h => h5 h.2.2.2.2), if_neg h240]
          · rw [decide_eq_false h4, if_neg hf, if_neg h240, if_neg (fun h => h4 h.2.2.2.1)]
        · rw [if_pos h1, if_pos h2, if_neg h3, if_neg hf, if_neg h240, if_neg (fun h => h3 h.2.2.1)]
      · rw [if_pos h1, if_neg h2, if_neg hf, if_neg (fun h : 224 ≤ b ∧ b < 240 ∧ 0 ≤ x ∧ 0 ≤ y ∧ 2048 ≤ (b - 224) * 4096 + x * 64 + y => h2 h.2.1)]
    · rw [if_neg h1, if_neg hf, if_neg (fun h : 224 ≤ b ∧ b < 240 ∧ 0 ≤ x ∧ 0 ≤ y ∧ 2048 ≤ (b - 224) * 4096 + x * 64 + y => h1 h.1)]
theorem contM_drop (s : List Int) (i j : Nat) (hi : i ≤ s.length) : contM (s.drop i) j = contM s (i + j) := by
  unfold contM
  have e : (s.drop i).getD j 0 = s.getD (i + j) 0 := by simp [List.getD_eq_getElem?_getD]
  rw [e, List.length_drop]
  by_cases h : j < s.length - i
  · have h' : i + j < s.length := by omega
    simp only [h, h', true_and]
  · have h' : ¬ i + j < s.length := by omega
    simp only [h, h', false_and, if_false]
theorem contV_nonneg {s : List Int} {i : Nat} (h : 0 ≤ contV s i) : contM s i = some (contV s i) := by
  unfold contV at h ⊢
  cases hx : contM s i with
  | none => rw [hx] at h; simp at h
  | some x => rfl
theorem contV_neg {s : List Int} {i : Nat} (h : ¬ 0 ≤ contV s i) : contM s i = none := by
  unfold contV at h
  cases hx : contM s i with
  | none => rfl
  | some x => rw [hx] at h; have := contM_bd hx; simp only at h; omega
/-- What is said of a code point. -/
def pairP : Option (Int × Nat) → Int × Int
  | some (c, n) => (c, n)
  | none => (0, 0)
theorem goM_1 (s : List Int) (c : Int) : goM s 1 1 c = if 0 ≤ contV s 1 then some (c * 64 + contV s 1) else none := by
  unfold goM
  by_cases h : 0 ≤ contV s 1
  · rw [contV_nonneg h, if_pos h]; rfl
  · rw [contV_neg h, if_neg h]
theorem goM_2 (s : List Int) (c : Int) : goM s 2 1 c = if 0 ≤ contV s 1 ∧ 0 ≤ contV s 2 then some ((c * 64 + contV s 1) * 64 + contV s 2) else none := by
  unfold goM
  by_cases h : 0 ≤ contV s 1
  · rw [contV_nonneg h]
    simp only
    unfold goM
    by_cases h2 : 0 ≤ contV s 2
    · rw [contV_nonneg h2, if_pos ⟨h, h2⟩]; rfl
    · rw [contV_neg h2, if_neg (fun q => h2 q.2)]
  · rw [contV_neg h, if_neg (fun q => h q.1)]
theorem goM_3 (s : List Int) (c : Int) : goM s 3 1 c = if 0 ≤ contV s 1 ∧ 0 ≤ contV s 2 ∧ 0 ≤ contV s 3 then some (((c * 64 + contV s 1) * 64 + contV s 2) * 64 + contV s 3) else none := by
  unfold goM
  by_cases h : 0 ≤ contV s 1
  · rw [contV_nonneg h]
    simp only
    unfold goM
    by_cases h2 : 0 ≤ contV s 2
    · rw [contV_nonneg h2]
      simp only
      unfold goM
      by_cases h3 : 0 ≤ contV s 3
      · rw [contV_nonneg h3, if_pos ⟨h, h2, h3⟩]; rfl
      · rw [contV_neg h3, if_neg (fun q => h3 q.2.2)]
    · rw [contV_neg h2, if_neg (fun q => h2 q.2.1)]
  · rw [contV_neg h, if_neg (fun q => h q.1)]
theorem point_R (s : List Int) (h0 : 128 ≤ s.getD 0 0) : pairP (pointM s) = pointR (s.getD 0 0) (contV s 1) (contV s 2) (contV s 3) := by
  obtain ⟨b, hb⟩ : ∃ b, s.getD 0 0 = b := ⟨_, rfl⟩
  obtain ⟨x, hx⟩ : ∃ x, contV s 1 = x := ⟨_, rfl⟩
  obtain ⟨y, hy⟩ : ∃ y, contV s 2 = y := ⟨_, rfl⟩
  obtain ⟨z, hz⟩ : ∃ z, contV s 3 = z := ⟨_, rfl⟩
  have bx := contV_bd s 1
  have by_ := contV_bd s 2
  have bz := contV_bd s 3
  unfold pointM pointC
  simp only [Nat.reduceSub]
  rw [goM_1, goM_2, goM_3]
  rw [hb] at h0 ⊢
  rw [hx] at bx ⊢
  rw [hy] at by_ ⊢
  rw [hz] at bz ⊢
  clear hb hx hy hz
  rw [if_neg (by omega)]
  unfold pointR
  by_cases q1 : 192 ≤ b ∧ b < 224
  · rw [if_pos q1]
    by_cases q2 : 0 ≤ x
    · rw [if_pos q2]
      simp only [pickP]
      by_cases q3 : 194 ≤ b
      · rw [if_neg (by omega), if_pos ⟨q3, q1.2, q2⟩]; rfl
      · rw [if_pos (by omega), if_neg (fun h => q3 h.1), if_neg (fun h => by omega), if_neg (fun h => by omega)]; rfl
    · rw [if_neg q2, if_neg (fun h => q2 h.2.2), if_neg (fun h => by omega), if_neg (fun h => by omega)]; rfl
  · rw [if_neg q1, if_neg (show ¬ (194 ≤ b ∧ b < 224 ∧ 0 ≤ x) from fun h => q1 ⟨by omega, h.2.1⟩)]
    by_cases q2 : 224 ≤ b ∧ b < 240
    · rw [if_pos q2]
      by_cases q3 : 0 ≤ x ∧ 0 ≤ y
      · rw [if_pos q3]
        simp only [pickP]
        have e : ((b - 224) * 64 + x) * 64 + y = (b - 224) * 4096 + x * 64 + y := by omega
        rw [e]
        by_cases q4 : 2048 ≤ (b - 224) * 4096 + x * 64 + y
        · rw [if_neg (by omega), if_pos ⟨q2.1, q2.2, q3.1, q3.2, q4⟩]; rfl
        · rw [if_pos (by omega), if_neg (fun h => q4 h.2.2.2.2), if_neg (fun h => by omega)]; rfl
      · rw [if_neg q3, if_neg (fun h => q3 ⟨h.2.2.1, h.2.2.2.1⟩), if_neg (fun h => by omega)]; rfl
    · rw [if_neg q2, if_neg (show ¬ (224 ≤ b ∧ b < 240 ∧ 0 ≤ x ∧ 0 ≤ y ∧ 2048 ≤ (b - 224) * 4096 + x * 64 + y) from fun h => q2 ⟨h.1, h.2.1⟩)]
      by_cases q3 : 240 ≤ b ∧ b < 248
      · rw [if_pos q3]
        by_cases q4 : 0 ≤ x ∧ 0 ≤ y ∧ 0 ≤ z
        · rw [if_pos q4]
          simp only [pickP]
          have e : (((b - 240) * 64 + x) * 64 + y) * 64 + z = (b - 240) * 262144 + x * 4096 + y * 64 + z := by omega
          rw [e]
          by_cases q5 : 65536 ≤ (b - 240) * 262144 + x * 4096 + y * 64 + z ∧ (b - 240) * 262144 + x * 4096 + y * 64 + z ≤ 1114111
          · rw [if_neg (by omega), if_pos ⟨q3.1, q3.2, q4.1, q4.2.1, q4.2.2, q5⟩]; rfl
          · rw [if_pos (by omega), if_neg (fun h => q5 h.2.2.2.2.2)]; rfl
        · rw [if_neg q4, if_neg (fun h => q4 ⟨h.2.2.1, h.2.2.2.1, h.2.2.2.2.1⟩)]; rfl
      · rw [if_neg q3, if_neg (fun h => q3 ⟨h.1, h.2.1⟩)]; rfl
theorem first_f (s : ByteArray) (i k : Nat) (hs : s.size ≤ 1000000) (hi : i < s.size) : archivoltref05_first.f (k + 3) s (i : Int) = some (pairP (pointM ((bts s).drop i))) := by
  have hb := bts_bd s i
  have hl : i < (bts s).length := by rw [bts_len]; exact hi
  have e0 : ((bts s).drop i).getD 0 0 = (bts s).getD i 0 := by simp [List.getD_eq_getElem?_getD]
  have ec : ∀ j, contV ((bts s).drop i) j = contV (bts s) (i + j) := fun j => by unfold contV; rw [contM_drop _ _ _ (by omega)]
  unfold archivoltref05_first.f
  rw [if_pos (by omega), if_pos (by omega), bt_bts s i hi, w64 _ (by omega) (by omega)]
  by_cases h : (bts s).getD i 0 < 128
  · rw [if_pos h]
    have : pointM ((bts s).drop i) = some ((bts s).getD i 0, 1) := by unfold pointM; rw [e0, if_pos h]
    rw [this]; rfl
  · rw [if_neg h, point_R _ (by rw [e0]; omega), e0, ec, ec, ec]
    have w1 : wrap64 ((i : Int) + 1) = ((i + 1 : Nat) : Int) := by rw [w64 _ (by omega) (by omega)]; rfl
    have w2 : wrap64 ((i : Int) + 2) = ((i + 2 : Nat) : Int) := by rw [w64 _ (by omega) (by omega)]; rfl
    have w3 : wrap64 ((i : Int) + 3) = ((i + 3 : Nat) : Int) := by rw [w64 _ (by omega) (by omega)]; rfl
    rw [w1, w2, w3, more_f s (i + 1) (by omega), more_f s (i + 2) (by omega), more_f s (i + 3) (by omega)]
    simp only [Option.bind_some]
    obtain ⟨b, hbb⟩ : ∃ b, (bts s).getD i 0 = b := ⟨_, rfl⟩
    rw [hbb] at hb h ⊢
    have hj := fun q hq => j0_f k b (contV (bts s) (i + 1)) (contV (bts s) (i + 2)) (contV (bts s) (i + 3)) q hb (contV_bd _ _) (contV_bd _ _) (contV_bd _ _) hq
    by_cases q1 : b ≥ 194
    · by_cases q2 : b < 224
      · rw [if_pos q1, if_pos q2]
        exact hj _ (by rw [decide_eq_decide]; exact ⟨fun h => ⟨q1, q2, h⟩, fun h => h.2.2⟩)
      · rw [if_pos q1, if_neg q2]
        exact hj _ (by rw [decide_eq_false]; exact fun h => q2 h.2.1)
    · rw [if_neg q1]
      exact hj _ (by rw [decide_eq_false]; exact fun h => q1 h.1)
/-- What the units of bytes come to. -/
def finU (acc : List Int) : Option (List Int) → List Int × Int
  | none => ([], 4)
  | some r => if (acc ++ r).length > 4096 then ([], 4) else (acc ++ r, 0)
theorem units_l (s : ByteArray) (hs : s.size ≤ 1000000) : ∀ (f K i : Nat) (acc : List Int) (last : Int), i ≤ s.size → s.size - i < f → 2 * f + 5 ≤ K → acc.length ≤ 2 * i →
    archivoltref05_Units.l0 K s acc last (i : Int) = some (finU acc (unitsF f ((bts s).drop i) last))
  | 0, K, i, acc, last, h1, h2, h3, h4 => by omega
  | f + 1, K, i, acc, last, h1, h2, h3, h4 => by
    obtain ⟨K, rfl⟩ : ∃ k, K = k + 2 := ⟨K - 2, by omega⟩
    rw [archivoltref05_Units.l0]
    unfold unitsF
    have hbl := bts_len s
    by_cases hi : i < s.size
    · have hne : ¬ (bts s).drop i = [] := fun e => by have := congrArg List.length e; rw [List.length_drop] at this; simp at this; omega
      obtain ⟨k3, rfl⟩ : ∃ k, K = k + 2 := ⟨K - 2, by omega⟩
      rw [if_pos (by omega), if_neg hne, show k3 + 2 + 1 = k3 + 3 from rfl, first_f s i k3 hs hi]
      cases hp : pointM ((bts s).drop i) with
      | none =>
        simp only [pairP, Option.bind_some, stepU, if_true, finU]
        rw [archivoltref05_Units.j1]
        rfl
      | some cn =>
        obtain ⟨c, n⟩ := cn
        have hb := pointM_bd hne (getD_nonneg (fun x hx => bts_range s x (mem_drop' hx)) 0) hp
        rw [List.length_drop, hbl] at hb
        simp only [pairP, Option.bind_some, stepU]
        rw [if_neg (by omega)]
        have ehi : archivoltref05_high.f last = some (decide (55296 ≤ last ∧ last < 56320)) := by
          unfold archivoltref05_high.f
          by_cases h : last ≥ 55296
          · rw [if_pos h]; congr 1; rw [decide_eq_decide]; omega
          · rw [if_neg h]; congr 1; symm; rw [decide_eq_false]; omega
        have elo : archivoltref05_low.f c = some (decide (56320 ≤ c ∧ c < 57344)) := by
          unfold archivoltref05_low.f
          by_cases h : c ≥ 56320
          · rw [if_pos h]; congr 1; rw [decide_eq_decide]; omega
          · rw [if_neg h]; congr 1; symm; rw [decide_eq_false]; omega
        have hj : ∀ q : Bool, q = decide (55296 ≤ last ∧ last < 56320 ∧ 56320 ≤ c ∧ c < 57344) → archivoltref05_Units.j1 (k3 + 3) s acc (i : Int) q c (n : Int) =
            some (finU acc (if 55296 ≤ last ∧ last < 56320 ∧ 56320 ≤ c ∧ c < 57344 then none else (unitsF f (((bts s).drop i).drop n) c).map (encU c ++ ·))) := by
          intro q hq
          rw [archivoltref05_Units.j1]
          cases q with
          | true =>
            rw [if_pos rfl, if_pos (of_decide_eq_true hq.symm)]; rfl
          | false =>
            rw [if_neg (by decide), if_neg (of_decide_eq_false hq.symm), List.drop_drop]
            have ew : wrap64 ((i : Int) + n) = ((i + n : Nat) : Int) := by rw [w64 _ (by omega) (by omega)]; rfl
            have hfin : ∀ o : Option (List Int), finU acc (o.map (encU c ++ ·)) = finU (acc ++ encU c) o := fun o => by
              cases o with
              | none => rfl
              | some r => simp only [Option.map_some, finU, List.append_assoc]
            rw [hfin, ew]
            by_cases hc : c < 65536
            · rw [if_pos hc, if_pos (by omega)]
              have e1 : IntKind.u16.wrap c = c := by simp [IntKind.wrap, IntKind.bits, IntKind.signed]; omega
              rw [e1, units_l s hs f (k3 + 2) (i + n) (acc ++ [c]) c (by omega) (by omega) (by omega) (by simp; omega), encU_1 hc]
            · rw [if_neg hc]
              simp only [Option.bind_some, List.length_cons, List.length_nil]
              rw [if_pos (by omega)]
              have t1 : Int.tdiv (wrap64 (c - 65536)) 1024 = (c - 65536) / 1024 := by rw [w64 _ (by omega) (by omega), Int.tdiv_eq_ediv_of_nonneg (by omega)]
              have t2 : Int.tmod (wrap64 (c - 65536)) 1024 = (c - 65536) % 1024 := by rw [w64 _ (by omega) (by omega), Int.tmod_eq_emod_of_nonneg (by omega)]
              rw [t1, t2, w64 ((c - 65536) / 1024) (by omega) (by omega), w64 (55296 + (c - 65536) / 1024) (by omega) (by omega), w64 (56320 + (c - 65536) % 1024) (by omega) (by omega)]
              have e1 : IntKind.u16.wrap (55296 + (c - 65536) / 1024) = 55296 + (c - 65536) / 1024 := by simp [IntKind.wrap, IntKind.bits, IntKind.signed]; omega
              have e2 : IntKind.u16.wrap (56320 + (c - 65536) % 1024) = 56320 + (c - 65536) % 1024 := by simp [IntKind.wrap, IntKind.bits, IntKind.signed]; omega
              rw [e1, e2, ← encU_2 (show 65536 ≤ c by omega), units_l s hs f (k3 + 2) (i + n) (acc ++ encU c) c (by omega) (by omega) (by omega) (by have := encU_len c; rw [List.length_append]; omega)]
        rw [ehi, elo]
        simp only [Option.bind_some]
        by_cases hh : 55296 ≤ last ∧ last < 56320
        · rw [decide_eq_true hh, if_pos rfl]
          exact hj _ (by rw [decide_eq_decide]; exact ⟨fun h => ⟨hh.1, hh.2, h⟩, fun h => h.2.2⟩)
        · rw [decide_eq_false hh, if_neg (by decide)]
          exact hj _ (by symm; rw [decide_eq_false]; exact fun h => hh ⟨h.1, h.2.1⟩)
    · have hnil : (bts s).drop i = [] := List.drop_eq_nil_of_le (by omega)
      rw [if_neg (by omega), hnil, if_pos rfl]
      simp only [finU, List.append_nil]
      by_cases h : acc.length > 4096
      · rw [if_pos (by omega), if_pos h]
      · rw [if_neg (by omega), if_neg h]
/-- What the document's 'Units' says. -/
def refU (s : ByteArray) : List Int × Int := match getU s with
  | some r => (r, 0)
  | none => ([], 4)
theorem units_f (s : ByteArray) (hs : s.size ≤ 1000000) (K : Nat) (hK : 2 * s.size + 20 ≤ K) : archivoltref05_Units.f K s = some (refU s) := by
  unfold archivoltref05_Units.f
  have h := units_l s hs (s.size + 1) K 0 [] 0 (by omega) (by omega) (by omega) (by simp)
  have h' : archivoltref05_Units.l0 K s [] 0 0 = some (finU [] (unitsM (bts s))) := by
    unfold unitsM
    rw [bts_len]
    exact h
  rw [h']
  congr 1
  unfold refU getU readM
  cases hu : unitsM (bts s) with
  | none => rfl
  | some l =>
    simp only [finU, List.nil_append]
    by_cases q : l.length > 4096
    · rw [if_pos q]
      have : decide (l.length ≤ 4096) = false := by simp; omega
      rw [this]
    · rw [if_neg q]
      have : decide (l.length ≤ 4096) = true := by simp; omega
      rw [this]

theorem rd_of_C {w : World} {k : IntKind} {A : Option Addr} {n : Nat} {xs : List Int} (h : (Kd.int k).C w A n xs) (hn : n ≤ 9223372036854775807) (hl : xs.length = n) : Rd w k A n xs := by
  refine ⟨hl, hn, fun j hj => ?_⟩
  obtain ⟨ad, hA, hc⟩ := Kd.at_int h (j : Int) (by omega) (by omega)
  refine ⟨ad, hA, ?_⟩
  simpa [rd] using hc
/-- The document's 'Units', whatever the string. -/
theorem runits_any (s : ByteArray) (hs : s.size ≤ 100000) (w : World) :
    Calls Tryd.prog 34 #[.string s] w fun e w' => (∃ A c, e = .returned (.agg #[.slice A (refU s).1.length c, .int .i64 (refU s).2]) ∧ (refU s).1.length ≤ c ∧ Rd w' .u16 A (refU s).1.length (refU s).1) ∧ Below w.heap.size w w' :=
  (archivoltref05_Units.calls _ s (refU s).1 (refU s).2 w (units_f s (by omega) _ (Nat.le_refl _))).mono fun e w' ⟨v, he, hR, hB⟩ => by
    obtain ⟨A, c, rfl, hc, hC⟩ := Kd.R_reads hR
    refine ⟨⟨A, c, he, hc, rd_of_C hC ?_ rfl⟩, hB⟩
    unfold refU
    cases hg : getU s with
    | none => simp
    | some r => have := (getU_props hg).2.2; simp only; omega
end Go.Proofs.YtmbdiimenmnfjaaDoor
/- The document's Check and IsShort: what was printed of them is the model. -/
namespace Go.Proofs.YtmbdiimenmnfjaaDoor
open Go.RowKit Go.Deep
open Go.Proofs.YtmbdiimenmnfjaaDoor.PNamesNames
open Go.Proofs.YtmbdiimenmnfjaaDoorW.PrintWords (rd bt Drawn0 Kd)
set_option linter.unusedVariables false
set_option linter.unusedSimpArgs false
set_option maxRecDepth 100000

theorem u16w (x : Int) (h0 : 0 ≤ x) (h1 : x ≤ 65535) : IntKind.u16.wrap x = x := by simp [IntKind.wrap, IntKind.bits, IntKind.signed]; omega
theorem drop_bts {s : ByteArray} {i : Nat} (h : i < s.size) : (bts s).drop i = (bts s).getD i 0 :: (bts s).drop (i + 1) := drop_cons (by rw [bts_len]; exact h)
theorem in_l (u : Int) (s : ByteArray) (hs : s.size ≤ 1000000) : ∀ (k i : Nat), i ≤ s.size → s.size < i + k → archivoltref05_in.l0 k u s (i : Int) = some (((bts s).drop i).any fun x => decide (x = u))
  | 0, i, h1, h2 => by omega
  | k + 1, i, h1, h2 => by
    unfold archivoltref05_in.l0
    by_cases hi : i < s.size
    · have hb := bts_bd s i
      have e1 : IntKind.u16.wrap ((bts s).getD i 0) = (bts s).getD i 0 := u16w _ (by omega) (by omega)
      rw [if_pos (by omega), if_pos (by omega), bt_bts s i hi, e1, drop_bts hi, List.any_cons]
      by_cases q : (bts s).getD i 0 = u
      · rw [if_pos q, decide_eq_true q]; rfl
      · have ew : wrap64 ((i : Int) + 1) = ((i + 1 : Nat) : Int) := by rw [w64 _ (by omega) (by omega)]; rfl
        rw [if_neg q, decide_eq_false q, Bool.false_or, ew]
        exact in_l u s hs k (i + 1) (by omega) (by omega)
    · rw [if_neg (by omega), List.drop_eq_nil_of_le (by rw [bts_len]; omega)]; rfl
theorem in_f (u : Int) (s : ByteArray) (hs : s.size ≤ 1000000) (k : Nat) (hk : s.size < k) : archivoltref05_in.f k u s = some ((bts s).any fun x => decide (x = u)) := by
  unfold archivoltref05_in.f
  have := in_l u s hs k 0 (by omega) (by omega)
  exact this

/-! The last unit, the last byte. -/
theorem encB_last (c : Int) (h0 : 0 ≤ c) : ∃ p b, encB c = p ++ [b] ∧ ((c < 128 ∧ b = c) ∨ (128 ≤ c ∧ 128 ≤ b)) := by
  unfold encB
  split
  · exact ⟨[], c, rfl, Or.inl ⟨by assumption, rfl⟩⟩
  split
  · exact ⟨[_], _, rfl, Or.inr ⟨by omega, by omega⟩⟩
  split
  · exact ⟨[_, _], _, rfl, Or.inr ⟨by omega, by omega⟩⟩
  · exact ⟨[_, _, _], _, rfl, Or.inr ⟨by omega, by omega⟩⟩
theorem text_last : ∀ (l : List Int) (u : Int), U16 (l ++ [u]) → ∃ p b, textM (l ++ [u]) = p ++ [b] ∧ ((u < 128 ∧ b = u) ∨ (128 ≤ u ∧ 128 ≤ b))
  | [], u, h => by
    have := h u (by simp)
    exact encB_last u this.1
  | [c], u, h => by
    have hc := h c (by simp)
    have hu := h u (by simp)
    simp only [List.cons_append, List.nil_append]
    by_cases q : pairU c u
    · rw [textM_pair c u [] q]
      unfold pairU at q
      obtain ⟨p, b, e, h1⟩ := encB_last (65536 + (c - 55296) * 1024 + u - 56320) (by omega)
      exact ⟨p, b, by rw [e]; simp [textM], Or.inr ⟨by omega, by omega⟩⟩
    · rw [textM_one c [u] (fun d r e => by cases e; exact q)]
      obtain ⟨p, b, e, h1⟩ := encB_last u hu.1
      exact ⟨encB c ++ p, b, by rw [show textM [u] = encB u from rfl, e, List.append_assoc], h1⟩
  | c :: d :: r, u, h => by
    simp only [List.cons_append]
    by_cases q : pairU c d
    · rw [textM_pair c d _ q]
      obtain ⟨p, b, e, h1⟩ := text_last r u (fun x hx => h x (by simp only [List.cons_append]; exact List.mem_cons_of_mem _ (List.mem_cons_of_mem _ hx)))
      exact ⟨_ ++ p, b, by rw [e, ← List.append_assoc], h1⟩
    · rw [textM_one c (d :: (r ++ [u])) (fun d' r' e => by cases e; exact q)]
      obtain ⟨p, b, e, h1⟩ := text_last (d :: r) u (fun x hx => h x (by simp only [List.cons_append] at hx ⊢; exact List.mem_cons_of_mem _ hx))
      simp only [List.cons_append] at e
      exact ⟨_ ++ p, b, by rw [e, ← List.append_assoc], h1⟩
theorem suffix_iff {s : ByteArray} {p : List Int} {b : Int} (h : bts s = p ++ [b]) (x : UInt8) : Lib.hasSuffix s.data.toList [x] = decide (b = x.toNat) := by
  have hne : s.data.toList ≠ [] := fun e => by unfold bts at h; rw [e] at h; simp at h
  obtain ⟨t, y, hty⟩ : ∃ t y, s.data.toList = t ++ [y] := ⟨_, _, (List.dropLast_concat_getLast hne).symm⟩
  unfold bts at h
  rw [hty, List.map_append] at h
  have hb := (List.append_inj' h rfl).2
  simp only [List.map_cons, List.map_nil, List.cons.injEq, and_true] at hb
  rw [hty, Bool.eq_iff_iff, decide_eq_true_eq]
  unfold Lib.hasSuffix
  rw [List.isSuffixOf_iff_suffix]
  constructor
  · rintro ⟨q, hq⟩
    have := (List.append_inj' hq rfl).2
    simp only [List.cons.injEq, and_true] at this
    rw [← hb, this]
  · intro e
    refine ⟨t, ?_⟩
    have : y = x := UInt8.toNat_inj.1 (by omega)
    rw [this]
theorem badL : bts ⟨#[34, 42, 47, 58, 60, 62, 63, 92, 124]⟩ = [34, 42, 47, 58, 60, 62, 63, 92, 124] := by decide
theorem bad_small : ∀ n : Nat, n < 128 → (([34, 42, 47, 58, 60, 62, 63, 92, 124] : List Int).any fun x => decide (x = (n : Int))) = decide (0 ≤ Lib.indexByte [34, 42, 47, 58, 60, 62, 63, 92, 124] (UInt8.ofNat n)) := by decide +kernel
theorem bad_in (u : Int) (h0 : 0 ≤ u) : (([34, 42, 47, 58, 60, 62, 63, 92, 124] : List Int).any fun x => decide (x = u)) = (decide (u < 128) && decide (0 ≤ Lib.indexByte [34, 42, 47, 58, 60, 62, 63, 92, 124] (UInt8.ofNat u.toNat))) := by
  rcases Int.lt_or_le u 128 with h | h
  · obtain ⟨n, rfl⟩ : ∃ n : Nat, u = n := ⟨u.toNat, by omega⟩
    rw [bad_small n (by omega), decide_eq_true h, Bool.true_and, Int.toNat_natCast]
  · rw [decide_eq_false (by omega : ¬ u < 128), Bool.false_and]
    simp
    omega
theorem check_l (l : List Int) (hu : U16 l) (hl : l.length ≤ 1000000) (e : Int) : ∀ (k i : Nat), i ≤ l.length → l.length + 12 < i + k → archivoltref05_Check.l0 k (l.length : Int) (i : Int) l e = some (if (l.drop i).any unitBad = true then 19 else 0)
  | 0, i, h1, h2 => by omega
  | k + 1, i, h1, h2 => by
    rw [archivoltref05_Check.l0]
    by_cases hi : i < l.length
    · have hb := hu.get i
      have ex : rd l (i : Int) = l.getD i 0 := rfl
      rw [if_pos (by omega), if_pos (by omega), if_pos (by omega), ex, drop_cons hi, List.any_cons]
      by_cases q : l.getD i 0 < 32
      · have : unitBad (l.getD i 0) = true := by unfold unitBad; rw [decide_eq_true q]; rfl
        rw [if_pos q, this, Bool.true_or, if_pos rfl]
      · rw [if_neg q, in_f _ _ (by decide) k (by have : (⟨#[34, 42, 47, 58, 60, 62, 63, 92, 124]⟩ : ByteArray).size = 9 := rfl; omega), badL, bad_in _ hb.1]
        simp only [Option.bind_some]
        have e1 : unitBad (l.getD i 0) = (decide (l.getD i 0 < 128) && decide (0 ≤ Lib.indexByte [34, 42, 47, 58, 60, 62, 63, 92, 124] (UInt8.ofNat (l.getD i 0).toNat))) := by unfold unitBad; rw [decide_eq_false q, Bool.false_or]
        rw [← e1]
        cases h : unitBad (l.getD i 0) with
        | true => rw [if_pos rfl, Bool.true_or, if_pos rfl]
        | false =>
          have ew : wrap64 ((i : Int) + 1) = ((i + 1 : Nat) : Int) := by rw [w64 _ (by omega) (by omega)]; rfl
          rw [if_neg (by decide), Bool.false_or, ew]
          exact check_l l hu hl e k (i + 1) (by omega) (by omega)
    · rw [if_neg (by omega), List.drop_eq_nil_of_le (by omega)]; rfl
theorem check_f (s : ByteArray) (hs : s.size ≤ 100000) (K : Nat) (hK : 2 * s.size + 40 ≤ K) : archivoltref05_Check.f K s = some (checkM s) := by
  unfold archivoltref05_Check.f
  rw [units_f s (by omega) K (by omega), Option.bind_some]
  obtain ⟨k, rfl⟩ : ∃ k, K = k + 1 := ⟨K - 1, by omega⟩
  unfold refU checkM
  cases hg : getU s with
  | none => simp
  | some l =>
    have hp := getU_props hg
    simp only [if_true]
    have h19 : ∀ (x : Int) (y : List Int) (z : Int), archivoltref05_Check.j0 (k + 1) x true y z = some 19 := fun x y z => by rw [archivoltref05_Check.j0]; rfl
    by_cases q1 : l.length < 1
    · rw [if_pos (by omega), h19, if_pos (Or.inl q1)]
    rw [if_neg (by omega)]
    by_cases q2 : 32 < l.length
    · rw [if_pos (by omega), h19, if_pos (Or.inr (Or.inl q2))]
    rw [if_neg (by omega)]
    have hnb : ∀ b : Bool, nameBad s = b → (l.length < 1 ∨ 32 < l.length ∨ nameBad s = true ↔ b = true) := fun b hb => ⟨fun h => by
      rcases h with h | h | h
      · exact absurd h q1
      · exact absurd h q2
      · rw [← hb]; exact h, fun h => Or.inr (Or.inr (hb.trans h))⟩
    by_cases q3 : s.toList = [46]
    · rw [if_pos q3, h19, if_pos ((hnb true (by unfold nameBad; simp [q3])).2 rfl)]
    rw [if_neg q3]
    by_cases q4 : s.toList = [46, 46]
    · rw [if_pos q4, h19, if_pos ((hnb true (by unfold nameBad; simp [q4])).2 rfl)]
    rw [if_neg q4]
    have e1 : wrap64 ((l.length : Int) - 1) = ((l.length - 1 : Nat) : Int) := by rw [w64 _ (by omega) (by omega)]; omega
    rw [e1, if_pos (by omega), if_pos (by omega)]
    obtain ⟨u, hu⟩ : ∃ u, l.getD (l.length - 1) 0 = u := ⟨_, rfl⟩
    have hne : l ≠ [] := fun e => by rw [e] at q1; simp at q1
    have hlast : l.getLast hne = u := by rw [← hu, List.getLast_eq_getElem, List.getD_eq_getElem?_getD, List.getElem?_eq_getElem (by omega)]; rfl
    have hsp : l = l.dropLast ++ [u] := by rw [← hlast]; exact (List.dropLast_concat_getLast hne).symm
    have ex : rd l ((l.length - 1 : Nat) : Int) = u := hu
    rw [ex, in_f _ _ (by decide) (k + 1) (by have : (⟨#[32, 46]⟩ : ByteArray).size = 2 := rfl; omega), show bts ⟨#[32, 46]⟩ = [32, 46] by decide, Option.bind_some]
    obtain ⟨p, b, hpb, hub⟩ := text_last l.dropLast u (by rw [← hsp]; exact hp.1)
    rw [← hsp, text_units (bts_range s) (getU_iff.1 hg).1] at hpb
    have hnbe : nameBad s = (([32, 46] : List Int).any fun x => decide (x = u)) := by
      unfold nameBad
      have n3 : (s.toList == [46]) = false := by simpa using q3
      have n4 : (s.toList == [46, 46]) = false := by simpa using q4
      rw [n3, n4, suffix_iff hpb, suffix_iff hpb, Bool.false_or, Bool.false_or, List.any_cons, List.any_cons, List.any_nil, Bool.or_false]
      have c1 : decide (b = ((32 : UInt8).toNat : Int)) = decide ((32 : Int) = u) := by
        rw [decide_eq_decide]
        have : ((32 : UInt8).toNat : Int) = 32 := rfl
        omega
      have c2 : decide (b = ((46 : UInt8).toNat : Int)) = decide ((46 : Int) = u) := by
        rw [decide_eq_decide]
        have : ((46 : UInt8).toNat : Int) = 46 := rfl
        omega
      rw [c1, c2]
    rw [← hnbe]
    cases hq : nameBad s with
    | true => rw [h19, if_pos (Or.inr (Or.inr rfl))]
    | false =>
      rw [archivoltref05_Check.j0, if_neg (by decide), if_neg (by rintro (h | h | h); exact q1 h; exact q2 h; exact absurd h (by decide))]
      have := check_l l hp.1 (by omega) 0 k 0 (by omega) (by omega)
      exact this
theorem rcheck_any (s : ByteArray) (hs : s.size ≤ 100000) (w : World) : Calls Tryd.prog 16 #[.string s] w fun e w' => e = .returned (.int .i64 (checkM s)) ∧ Below w.heap.size w w' :=
  (archivoltref05_Check.calls _ s (checkM s) w (check_f s hs _ (Nat.le_refl _))).mono fun e w' h => h

/-! Short names. -/
theorem charsL : bts ⟨#[33, 35, 36, 37, 38, 39, 40, 41, 45, 64, 94, 95, 123, 125, 126]⟩ = [33, 35, 36, 37, 38, 39, 40, 41, 45, 64, 94, 95, 123, 125, 126] := by decide
def inC (u : Int) : Bool := ([33, 35, 36, 37, 38, 39, 40, 41, 45, 64, 94, 95, 123, 125, 126] : List Int).any fun x => decide (x = u)
theorem char_small : ∀ n : Nat, n < 128 → (if (n : Int) ≥ 65 then (if (n : Int) ≤ 90 then true else (if (n : Int) ≥ 48 then (if (n : Int) ≤ 57 then true else inC n) else inC n)) else (if (n : Int) ≥ 48 then (if (n : Int) ≤ 57 then true else inC n) else inC n)) = decide ((n : Int) ∈ charL) := by decide +kernel
theorem character_f (u : Int) (h0 : 0 ≤ u) (k : Nat) (hk : 20 ≤ k) : archivoltref05_character.f k u = some (decide (u ∈ charL)) := by
  have hin : archivoltref05_in.f k u (⟨#[33, 35, 36, 37, 38, 39, 40, 41, 45, 64, 94, 95, 123, 125, 126]⟩ : ByteArray) = some (inC u) := by
    rw [in_f _ _ (by decide) k (by have : (⟨#[33, 35, 36, 37, 38, 39, 40, 41, 45, 64, 94, 95, 123, 125, 126]⟩ : ByteArray).size = 15 := rfl; omega), charsL]; rfl
  have e : archivoltref05_character.f k u = some (if u ≥ 65 then (if u ≤ 90 then true else (if u ≥ 48 then (if u ≤ 57 then true else inC u) else inC u)) else (if u ≥ 48 then (if u ≤ 57 then true else inC u) else inC u)) := by
    unfold archivoltref05_character.f
    rw [hin]
    simp only [Option.bind_some]
    split
    · split
      · rfl
      · split
        · split <;> rfl
        · rfl
    · split
      · split <;> rfl
      · rfl
  rw [e]
  congr 1
  rcases Int.lt_or_le u 128 with h | h
  · obtain ⟨n, rfl⟩ : ∃ n : Nat, u = n := ⟨u.toNat, by omega⟩
    exact char_small n (by omega)
  · rw [if_pos (by omega), if_neg (by omega), if_pos (by omega), if_neg (by omega)]
    have h1 : u ∉ charL := fun hm => by have := charL_bd u hm; omega
    rw [decide_eq_false h1]
    unfold inC
    simp
    omega
/-- Is a byte a character of short names? -/
def isC (b : Int) : Bool := decide (b ∈ charL)
/-- Behind a dot at d. -/
def finI (n d : Nat) : Bool := decide (1 ≤ d) && decide (d ≤ 8) && decide (1 ≤ n - d - 1) && decide (n - d - 1 ≤ 3)
theorem short_2 (s : ByteArray) (hs : s.size ≤ 1000000) (d : Nat) (hd : d < s.size) : ∀ (K i : Nat), i ≤ s.size → 2 * s.size + 30 ≤ 2 * i + K → archivoltref05_IsShort.l0 K s (d : Int) (i : Int) = some (((bts s).drop i).all isC && finI s.size d)
  | 0, i, h1, h2 => by omega
  | 1, i, h1, h2 => by omega
  | K + 2, i, h1, h2 => by
    rw [archivoltref05_IsShort.l0]
    by_cases hi : i < s.size
    · have hb := bts_bd s i
      have e0 : decide ((d : Int) < 0) = false := by rw [decide_eq_false]; omega
      have hj : archivoltref05_IsShort.j1 (K + 1) s (d : Int) (i : Int) false = some (((bts s).drop i).all isC && finI s.size d) := by
        have e1 : IntKind.u16.wrap ((bts s).getD i 0) = (bts s).getD i 0 := u16w _ (by omega) (by omega)
        rw [archivoltref05_IsShort.j1, if_neg (by decide), if_pos (by omega), if_pos (by omega), bt_bts s i hi, e1, character_f _ hb.1 K (by omega), Option.bind_some, drop_bts hi, List.all_cons]
        have ew : wrap64 ((i : Int) + 1) = ((i + 1 : Nat) : Int) := by rw [w64 _ (by omega) (by omega)]; rfl
        rw [ew, short_2 s hs d hd K (i + 1) (by omega) (by omega)]
        show (if isC ((bts s).getD i 0) = true then _ else _) = _
        cases isC ((bts s).getD i 0) with
        | true => rfl
        | false => rfl
      rw [if_pos (by omega), if_pos (by omega), e0, hj]
      split <;> rfl
    · have hsub : wrap64 ((wrap64 ((s.size : Int) - (d : Int))) - 1) = ((s.size - d - 1 : Nat) : Int) := by rw [w64 ((s.size : Int) - d) (by omega) (by omega), w64 _ (by omega) (by omega)]; omega
      rw [if_neg (by omega), List.drop_eq_nil_of_le (by rw [bts_len]; omega), if_neg (by omega), hsub]
      unfold finI
      rw [List.all_nil, Bool.true_and]
      by_cases q1 : 1 ≤ d
      · rw [if_pos (by omega), decide_eq_true q1]
        by_cases q2 : d ≤ 8
        · rw [if_pos (by omega), decide_eq_true q2]
          by_cases q3 : 1 ≤ s.size - d - 1
          · rw [if_pos (by omega), decide_eq_true q3]
            congr 1
            simp only [Bool.true_and]
            rw [decide_eq_decide]
            omega
          · rw [if_neg (by omega), decide_eq_false q3]; rfl
        · rw [if_neg (by omega), decide_eq_false q2]; rfl
      · rw [if_neg (by omega), decide_eq_false q1]; rfl
/-- The rounds ahead of the first dot. -/
def isR (n : Nat) : Nat → List Int → Bool
  | _, [] => decide (1 ≤ n) && decide (n ≤ 8)
  | i, b :: t => if b = 46 then t.all isC && finI n i else isC b && isR n (i + 1) t
theorem short_1 (s : ByteArray) (hs : s.size ≤ 1000000) : ∀ (K i : Nat), i ≤ s.size → 2 * s.size + 40 ≤ 2 * i + K → archivoltref05_IsShort.l0 K s (-1) (i : Int) = some (isR s.size i ((bts s).drop i))
  | 0, i, h1, h2 => by omega
  | 1, i, h1, h2 => by omega
  | K + 2, i, h1, h2 => by
    rw [archivoltref05_IsShort.l0]
    by_cases hi : i < s.size
    · have hb := bts_bd s i
      have ew : wrap64 ((i : Int) + 1) = ((i + 1 : Nat) : Int) := by rw [w64 _ (by omega) (by omega)]; rfl
      rw [if_pos (by omega), if_pos (by omega), bt_bts s i hi, drop_bts hi]
      simp only [isR]
      by_cases q : (bts s).getD i 0 = 46
      · rw [if_pos q, if_pos q, show decide ((-1 : Int) < 0) = true by decide, archivoltref05_IsShort.j1, if_pos rfl, ew, short_2 s hs i hi K (i + 1) (by omega) (by omega)]
      · have e1 : IntKind.u16.wrap ((bts s).getD i 0) = (bts s).getD i 0 := u16w _ (by omega) (by omega)
        rw [if_neg q, if_neg q, archivoltref05_IsShort.j1, if_neg (by decide), if_pos (by omega), if_pos (by omega), bt_bts s i hi, e1, character_f _ hb.1 K (by omega), Option.bind_some, ew, short_1 s hs K (i + 1) (by omega) (by omega)]
        show (if isC ((bts s).getD i 0) = true then _ else _) = _
        cases isC ((bts s).getD i 0) with
        | true => rfl
        | false => rfl
    · rw [if_neg (by omega), List.drop_eq_nil_of_le (by rw [bts_len]; omega), if_pos (by decide)]
      simp only [isR]
      by_cases q1 : 1 ≤ s.size
      · rw [if_pos (by omega), decide_eq_true q1, Bool.true_and]
        congr 1
        rw [decide_eq_decide]; omega
      · rw [if_neg (by omega), decide_eq_false q1]; rfl
theorem isR_none (n : Nat) : ∀ (x : List Int) (i : Nat), (∀ b ∈ x, b ≠ 46) → isR n i x = (x.all isC && (decide (1 ≤ n) && decide (n ≤ 8)))
  | [], i, _ => by simp [isR]
  | b :: x, i, h => by
    simp only [isR]
    rw [if_neg (h b (List.mem_cons_self ..)), isR_none n x (i + 1) (fun c hc => h c (List.mem_cons_of_mem _ hc)), List.all_cons, Bool.and_assoc]
theorem isR_dot (n : Nat) (y : List Int) : ∀ (x : List Int) (i : Nat), (∀ b ∈ x, b ≠ 46) → isR n i (x ++ 46 :: y) = (x.all isC && (y.all isC && finI n (i + x.length)))
  | [], i, _ => by simp [isR]
  | b :: x, i, h => by
    simp only [isR, List.cons_append]
    rw [if_neg (h b (List.mem_cons_self ..)), isR_dot n y x (i + 1) (fun c hc => h c (List.mem_cons_of_mem _ hc)), List.all_cons, Bool.and_assoc, List.length_cons, show i + 1 + x.length = i + (x.length + 1) by omega]
theorem bts_take (s : ByteArray) (n : Nat) : bts (s.extract 0 n) = (bts s).take n := by
  unfold bts
  rw [ByteArray.data_extract, Array.toList_extract, List.extract_eq_take_drop, List.drop_zero, Nat.sub_zero, List.map_take]
theorem bts_append (x y : ByteArray) : bts (x ++ y) = bts x ++ bts y := by
  unfold bts
  rw [ByteArray.data_append, Array.toList_append, List.map_append]
theorem bts_at {s : ByteArray} {k : Nat} {c : UInt8} (h : s.data.toList[k]? = some c) : (bts s)[k]? = some (c.toNat : Int) := by
  unfold bts
  rw [List.getElem?_map, h]; rfl
theorem isShort_R (s : ByteArray) : isShortM s = isR s.size 0 (bts s) := by
  have hd := dotAt_lt s
  unfold isShortM cutM
  by_cases h : 0 ≤ dotAt s
  · obtain ⟨d, hdd⟩ : ∃ d : Nat, dotAt s = d := ⟨(dotAt s).toNat, by omega⟩
    rw [hdd] at hd
    have hlt : d < s.size := by simpa using hd.2 (by omega)
    have h0d : (0 : Int) ≤ (d : Int) := by omega
    simp only [hdd, h0d, if_true, Int.toNat_natCast]
    have hs := Lib.indexByte_some (l := s.data.toList) (c := 46) (o := d) hdd
    have hx : ∀ b ∈ (bts s).take d, b ≠ 46 := by
      intro b hb
      obtain ⟨k, hk⟩ := List.getElem?_of_mem hb
      rw [List.getElem?_take] at hk
      split at hk
      · rename_i hkd
        intro e
        have hkl : k < s.data.toList.length := by
          have := (List.getElem?_eq_some_iff.1 hk).1
          unfold bts at this
          rwa [List.length_map] at this
        have hne := hs.2 k hkd
        rw [List.getElem?_eq_getElem hkl] at hne
        have h2 := bts_at (List.getElem?_eq_getElem hkl)
        rw [hk, e] at h2
        exact hne (congrArg some (UInt8.toNat_inj.1 (by have := Option.some.inj h2; have h46 : (46 : UInt8).toNat = 46 := rfl; omega)))
      · cases hk
    have h46 := bts_at hs.1
    have hsp : bts s = (bts s).take d ++ 46 :: (bts s).drop (d + 1) := by
      have hl : d < (bts s).length := by rw [bts_len]; exact hlt
      have e1 : (bts s)[d] = 46 := by rw [List.getElem?_eq_getElem hl] at h46; exact Option.some.inj h46
      rw [← e1, ← List.drop_eq_getElem_cons hl, List.take_append_drop]
    rw [hsp, isR_dot s.size _ _ 0 hx]
    unfold allChars
    rw [bts_append, bts_take, bts_drop, List.all_append]
    have hlen : ((bts s).take d).length = d := by rw [List.length_take, bts_len]; omega
    rw [hlen, Nat.zero_add]
    have z1 : (s.extract 0 d).size = d := by rw [ByteArray.size_extract]; omega
    have z2 : (s.extract (d + 1) s.size).size = s.size - d - 1 := by rw [ByteArray.size_extract]; omega
    have z3 : (s.extract (d + 1) s.size).toList = [] ↔ s.size - d - 1 = 0 := by
      rw [← z2, Go.ByteArray.toList_eq]
      constructor
      · intro e; have := congrArg List.length e; rwa [Array.length_toList] at this
      · intro e; exact List.length_eq_zero_iff.1 (by rw [Array.length_toList]; exact e)
    rw [z1, z2]
    have hiff : (d < 1 ∨ 8 < d ∨ 3 < s.size - d - 1 ∨ True ∧ (s.extract (d + 1) s.size).toList = []) ↔ (d < 1 ∨ 8 < d ∨ 3 < s.size - d - 1 ∨ s.size - d - 1 = 0) := by rw [z3, true_and]
    unfold finI
    by_cases q : d < 1 ∨ 8 < d ∨ 3 < s.size - d - 1 ∨ s.size - d - 1 = 0
    · rw [if_pos (hiff.2 q)]
      have : (decide (1 ≤ d) && decide (d ≤ 8) && decide (1 ≤ s.size - d - 1) && decide (s.size - d - 1 ≤ 3)) = false := by
        rw [Bool.eq_false_iff]; intro hh; simp only [Bool.and_eq_true, decide_eq_true_eq] at hh; omega
      rw [this, Bool.and_false, Bool.and_false]
    · rw [if_neg (fun h => q (hiff.1 h))]
      have : (decide (1 ≤ d) && decide (d ≤ 8) && decide (1 ≤ s.size - d - 1) && decide (s.size - d - 1 ≤ 3)) = true := by
        simp only [Bool.and_eq_true, decide_eq_true_eq]; omega
      rw [this, Bool.and_true]
      rfl
  · simp only [h, if_false]
    have hm : dotAt s = -1 := by omega
    have hno := Lib.indexByte_none (show Lib.indexByte s.data.toList 46 = -1 from hm)
    have hx : ∀ b ∈ bts s, b ≠ 46 := by
      intro b hb e
      obtain ⟨k, hk⟩ := List.getElem?_of_mem hb
      have hkl : k < s.data.toList.length := by
        have := (List.getElem?_eq_some_iff.1 hk).1
        unfold bts at this
        rwa [List.length_map] at this
      have hne := hno k
      rw [List.getElem?_eq_getElem hkl] at hne
      have h2 := bts_at (List.getElem?_eq_getElem hkl)
      rw [hk, e] at h2
      exact hne (congrArg some (UInt8.toNat_inj.1 (by have := Option.some.inj h2; have h46 : (46 : UInt8).toNat = 46 := rfl; omega)))
    rw [isR_none s.size _ 0 hx]
    have z0 : ByteArray.empty.size = 0 := rfl
    simp only [z0]
    unfold allChars
    rw [bts_append, show bts ByteArray.empty = [] from rfl, List.append_nil]
    by_cases q : s.size < 1 ∨ 8 < s.size
    · rw [if_pos (by rcases q with q | q; exact Or.inl q; exact Or.inr (Or.inl q))]
      have : (decide (1 ≤ s.size) && decide (s.size ≤ 8)) = false := by
        rw [Bool.eq_false_iff]; intro hh; simp only [Bool.and_eq_true, decide_eq_true_eq] at hh; omega
      rw [this, Bool.and_false]
    · rw [if_neg (by rintro (h | h | h | h); exact q (Or.inl h); exact q (Or.inr h); omega; exact absurd h.1 (by decide))]
      have : (decide (1 ≤ s.size) && decide (s.size ≤ 8)) = true := by
        simp only [Bool.and_eq_true, decide_eq_true_eq]; omega
      rw [this, Bool.and_true]
      rfl
theorem risShort_any (s : ByteArray) (hs : s.size ≤ 1000000) (w : World) : Calls Tryd.prog 26 #[.string s] w fun e w' => e = .returned (.bool (isShortM s)) ∧ Drawn w w' :=
  (archivoltref05_IsShort.calls (2 * s.size + 40) s (isShortM s) w (by
    unfold archivoltref05_IsShort.f
    have := short_1 s hs (2 * s.size + 40) 0 (by omega) (by omega)
    rw [isShort_R]
    exact this)).mono fun e w' h => ⟨h.1, drawn0 h.2⟩
end Go.Proofs.YtmbdiimenmnfjaaDoor
