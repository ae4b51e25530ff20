/- The upper case: plain facts. -/
import Derived.Test.YtmbdiimenmnfjaaDoorGa
import Derived.Test.YtmbdiimenmnfjaaDoorGd
import Derived.Test.YtmbdiimenmnfjaaDoorGb
import Derived.Test.YtmbdiimenmnfjaaDoorGc
import Derived.Test.YtmbdiimenmnfjaaDoorPNamesNamesx48
import Derived.Test.YtmbdiimenmnfjaaDoorPNamesNamesx41
import Derived.Test.YtmbdiimenmnfjaaDoorTie
import Derived.Test.YtmbdiimenmnfjaaDoorCards
import Derived.Test.YtmbdiimenmnfjaaDoorGf
import Derived.Deep.DeepHandedRow
import Derived.Deep.DeepWitnessRowRef
import Derived.ProofKit
import Derived.SizedLaws
import Derived.Lib.LaidTab
import Derived.Lib.LaidIn
import Derived.Carry
import Derived.Stop.LaidErr
import Derived.SliceStrings
import Derived.Test.YtmbdiimenmnfjaaDoorPNamesNamesx42
import Derived.Test.YtmbdiimenmnfjaaDoorPNamesUnitsx51
namespace Go.Proofs.YtmbdiimenmnfjaaDoor
open Go.RowKit
set_option linter.unusedVariables false
set_option maxRecDepth 100000

theorem upL_big (u : Int) (h : 1153 < u) : ∀ l, (∀ r ∈ l, r ∈ rowsL) → upL u l = u
  | [], _ => rfl
  | r :: rs, hr => by
    simp only [upL]
    rw [if_neg, upL_big u h rs fun x hx => hr x (List.mem_cons_of_mem _ hx)]
    intro hh
    have hm := hr r (List.mem_cons_self ..)
    simp only [rowsL, List.mem_cons, List.not_mem_nil, or_false] at hm
    unfold hitR at hh
    rcases hm with rfl | rfl | rfl | rfl | rfl | rfl | rfl | rfl | rfl | rfl | rfl | rfl | rfl <;> simp only at hh <;> omega
theorem upM_big (u : Int) (h : 1153 < u) : upM u = u := upL_big u h rowsL fun r hr => hr
theorem up_small : ∀ n : Nat, n < 1154 → upM (upM (n : Int)) = upM (n : Int) := by decide +kernel
theorem upM_idem (u : Int) (h0 : 0 ≤ u) : upM (upM u) = upM u := by
  rcases Int.lt_or_le 1153 u with h | h
  · rw [upM_big u h, upM_big u h]
  · obtain ⟨n, rfl⟩ : ∃ n : Nat, u = n := ⟨u.toNat, by omega⟩
    exact up_small n (by omega)
theorem map_up_idem {l : List Int} (h : U16 l) : (l.map upM).map upM = l.map upM := by
  rw [List.map_map]
  exact List.map_congr_left fun u hu => upM_idem u (h u hu).1
end Go.Proofs.YtmbdiimenmnfjaaDoor
/- What several laws share. -/
namespace Go.Proofs.YtmbdiimenmnfjaaDoor
open Go.RowKit Go.Deep
set_option linter.unusedVariables false

/-- Key, whatever the string. -/
theorem key_gen (s : ByteArray) (hs : s.size ≤ 40000) (w : World) : Calls Tryd.prog 17 #[.string s] w fun e w' => ∃ v, e = .returned (.tuple #[v, .int .i64 (checkM s)]) ∧ Below w.heap.size w w' := by
  by_cases hc : checkM s = 0
  · obtain ⟨r, hg, -⟩ := check_units hc
    rw [hc]
    exact (key_ok s hs w hc r hg).mono fun e w' ⟨v, he, _, hB⟩ => ⟨v, he, hB⟩
  · exact (key_no s hs w hc).mono fun e w' ⟨he, hB⟩ => ⟨_, he, hB⟩
theorem key_rd (s : ByteArray) (hs : s.size ≤ 40000) (w : World) (hc : checkM s = 0) (r : List Int) (hg : getU s = some r) :
    Calls Tryd.prog 17 #[.string s] w fun e w' => ∃ A c, e = .returned (.tuple #[.slice A (keyM r).length c, .int .i64 0]) ∧ Rd w' .u8 A (keyM r).length (keyM r) ∧ Below w.heap.size w w' :=
  (key_ok s hs w hc r hg).mono fun e w' ⟨v, he, hO, hB⟩ => by
    obtain ⟨A, c, rfl, hc', hRd, -⟩ := own_nums hO (by
      obtain ⟨r', hg', h1, h2, -⟩ := check_units hc
      rw [hg] at hg'; cases hg'
      rw [show keyM r = keyB (r.map upM ++ [0] ++ r) from rfl, keyB_len]
      simp; omega)
    exact ⟨A, c, he, hRd, hB⟩

theorem sameM_symm (a b : ByteArray) : sameM b a = sameM a b := by
  rw [Bool.eq_iff_iff, sameM_iff, sameM_iff]
  constructor
  · rintro (h | ⟨x, y, h1, h2, h3⟩)
    · exact Or.inl h.symm
    · exact Or.inr ⟨y, x, h2, h1, h3.symm⟩
  · rintro (h | ⟨x, y, h1, h2, h3⟩)
    · exact Or.inl h.symm
    · exact Or.inr ⟨y, x, h2, h1, h3.symm⟩
theorem sameM_trans {a b c : ByteArray} (h1 : sameM a b = true) (h2 : sameM b c = true) : sameM a c = true := by
  rcases (sameM_iff a b).1 h1 with rfl | ⟨x, y, ha, hb, hxy⟩
  · exact h2
  · rcases (sameM_iff b c).1 h2 with rfl | ⟨y', z, hb', hc, hyz⟩
    · exact h1
    · rw [hb] at hb'
      cases hb'
      exact (sameM_iff a c).2 (Or.inr ⟨x, z, ha, hc, hxy.trans hyz⟩)
theorem units_rd (s : ByteArray) (hs : s.size ≤ 100000) (w : World) (r : List Int) (h : getU s = some r) :
    Calls Tryd.prog 33 #[.string s] w fun e w' => (∃ A c, e = .returned (.tuple #[.slice A r.length c, .int .i64 0])) ∧ Below w.heap.size w w' :=
  (units_ok s hs w r h).mono fun e w' ⟨v, he, hO, hB⟩ => by
    obtain ⟨A, c, rfl, hc⟩ := own_is_slice hO
    exact ⟨⟨A, c, he⟩, hB⟩
theorem getU_up {s : ByteArray} {r : List Int} (h : getU s = some r) : getU (upS r) = some (r.map upM) := by
  have hp := getU_props h
  exact getU_text hp.1.map_up (by rw [List.length_map]; exact hp.2.2)
theorem upS_size (r : List Int) : (upS r).size ≤ 4 * r.length := by
  unfold upS
  rw [mkB_size]
  have := textM_len (r.map upM)
  rwa [List.length_map] at this

end Go.Proofs.YtmbdiimenmnfjaaDoor
/- Bytes of parts and of sums. -/
namespace Go.Proofs.YtmbdiimenmnfjaaDoor
open Go.RowKit Go.Deep
set_option linter.unusedVariables false

theorem bts_take (s : ByteArray) (n : Nat) : bts (s.extract 0 n) = (bts s).take n := by
  unfold bts
  rw [ByteArray.data_extract, Array.toList_extract, List.extract_eq_take_drop, List.drop_zero, Nat.sub_zero, List.map_take]
theorem bts_append (x y : ByteArray) : bts (x ++ y) = bts x ++ bts y := by
  unfold bts
  rw [ByteArray.data_append, Array.toList_append, List.map_append]
theorem bts_at {s : ByteArray} {k : Nat} {c : UInt8} (h : s.data.toList[k]? = some c) : (bts s)[k]? = some (c.toNat : Int) := by
  unfold bts
  rw [List.getElem?_map, h]; rfl
end Go.Proofs.YtmbdiimenmnfjaaDoor
/- The document's Units: what was printed of it is the model. -/
namespace Go.Proofs.YtmbdiimenmnfjaaDoor
open Go.RowKit Go.Deep
open Go.Proofs.YtmbdiimenmnfjaaDoor.PNamesNames
open Go.Proofs.YtmbdiimenmnfjaaDoorW.PrintWords (rd bt Drawn0 Kd)
set_option linter.unusedVariables false
set_option linter.unusedSimpArgs false

theorem w64 (x : Int) (h0 : -4611686018427387904 ≤ x) (h1 : x ≤ 4611686018427387904) : wrap64 x = x := by unfold wrap64; omega
theorem bt_bts (s : ByteArray) (i : Nat) (h : i < s.size) : bt s (i : Int) = (bts s).getD i 0 := by
  rw [bts_get s i h]
  unfold bt
  rw [dif_pos (by simpa using h)]
  rfl
/-- A byte that goes on, as a number; -1 if it is none. -/
def contV (s : List Int) (i : Nat) : Int := match contM s i with
  | some x => x
  | none => -1
theorem contV_bd (s : List Int) (i : Nat) : -1 ≤ contV s i ∧ contV s i ≤ 63 := by
  unfold contV
  cases h : contM s i with
  | none => simp
  | some x => have := contM_bd h; simp only; omega
theorem more_f (s : ByteArray) (i : Nat) (hi : i ≤ 1000000000) : archivoltref05_more.f s (i : Int) = some (contV (bts s) i) := by
  unfold archivoltref05_more.f contV contM
  by_cases h : i < s.size
  · have hb := bts_bd s i
    rw [if_neg (by omega), if_pos (by omega), if_pos (by omega), bt_bts s i h, bts_len]
    by_cases h1 : (bts s).getD i 0 < 128
    · rw [if_pos h1, if_neg (by omega)]
    · rw [if_neg h1]
      by_cases h2 : (bts s).getD i 0 ≥ 192
      · rw [if_pos h2, if_neg (by omega)]
      · rw [if_neg h2, if_pos (by omega), w64 ((bts s).getD i 0) (by omega) (by omega), w64 _ (by omega) (by omega)]
  · rw [if_pos (by omega), if_neg (by rw [bts_len]; omega)]
/-- The code point as numbers. -/
def pointR (b x y z : Int) : Int × Int :=
  if 194 ≤ b ∧ b < 224 ∧ 0 ≤ x then ((b - 192) * 64 + x, 2)
  else if 224 ≤ b ∧ b < 240 ∧ 0 ≤ x ∧ 0 ≤ y ∧ 2048 ≤ (b - 224) * 4096 + x * 64 + y then ((b - 224) * 4096 + x * 64 + y, 3)
  else if 240 ≤ b ∧ b < 248 ∧ 0 ≤ x ∧ 0 ≤ y ∧ 0 ≤ z ∧ 65536 ≤ (b - 240) * 262144 + x * 4096 + y * 64 + z ∧ (b - 240) * 262144 + x * 4096 + y * 64 + z ≤ 1114111 then ((b - 240) * 262144 + x * 4096 + y * 64 + z, 4)
  else (0, 0)
theorem j2_f (k : Nat) (b x y z : Int) (q : Bool) (hb : 0 ≤ b ∧ b ≤ 255) (hx : -1 ≤ x ∧ x ≤ 63) (hy : -1 ≤ y ∧ y ≤ 63) (hz : -1 ≤ z ∧ z ≤ 63) :
    archivoltref05_first.j2 (k + 1) b x y z q = some (if q = true ∧ 65536 ≤ (b - 240) * 262144 + x * 4096 + y * 64 + z ∧ (b - 240) * 262144 + x * 4096 + y * 64 + z ≤ 1114111 then ((b - 240) * 262144 + x * 4096 + y * 64 + z, 4) else (0, 0)) := by
  have e : wrap64 ((wrap64 ((wrap64 ((wrap64 ((wrap64 (b - 240)) * 262144)) + (wrap64 (x * 4096)))) + (wrap64 (y * 64)))) + z) = (b - 240) * 262144 + x * 4096 + y * 64 + z := by
    rw [w64 (b - 240) (by omega) (by omega), w64 ((b - 240) * 262144) (by omega) (by omega), w64 (x * 4096) (by omega) (by omega), w64 ((b - 240) * 262144 + x * 4096) (by omega) (by omega), w64 (y * 64) (by omega) (by omega), w64 ((b - 240) * 262144 + x * 4096 + y * 64) (by omega) (by omega), w64 _ (by omega) (by omega)]
  rw [archivoltref05_first.j2]
  rw [e]
  cases q with
  | false => simp
  | true =>
    by_cases h1 : (b - 240) * 262144 + x * 4096 + y * 64 + z ≥ 65536
    · by_cases h2 : (b - 240) * 262144 + x * 4096 + y * 64 + z ≤ 1114111
      · rw [if_pos rfl, if_pos h1, if_pos h2, if_pos ⟨rfl, h1, h2⟩]
      · rw [if_pos rfl, if_pos h1, if_neg h2, if_neg (fun h => h2 h.2.2)]
    · rw [if_pos rfl, if_neg h1, if_neg (fun h => h1 h.2.1)]
theorem j1_f (k : Nat) (b x y z : Int) (q : Bool) (hb : 0 ≤ b ∧ b ≤ 255) (hx : -1 ≤ x ∧ x ≤ 63) (hy : -1 ≤ y ∧ y ≤ 63) (hz : -1 ≤ z ∧ z ≤ 63) :
    archivoltref05_first.j1 (k + 2) b x y z q = some (if q = true then (if 2048 ≤ (b - 224) * 4096 + x * 64 + y then ((b - 224) * 4096 + x * 64 + y, 3) else (0, 0)) else if 240 ≤ b ∧ b < 248 ∧ 0 ≤ x ∧ 0 ≤ y ∧ 0 ≤ z ∧ 65536 ≤ (b - 240) * 262144 + x * 4096 + y * 64 + z ∧ (b - 240) * 262144 + x * 4096 + y * 64 + z ≤ 1114111 then ((b - 240) * 262144 + x * 4096 + y * 64 + z, 4) else (0, 0)) := by
  have e : wrap64 ((wrap64 ((wrap64 ((wrap64 (b - 224)) * 4096)) + (wrap64 (x * 64)))) + y) = (b - 224) * 4096 + x * 64 + y := by
    rw [w64 (b - 224) (by omega) (by omega), w64 ((b - 224) * 4096) (by omega) (by omega), w64 (x * 64) (by omega) (by omega), w64 ((b - 224) * 4096 + x * 64) (by omega) (by omega), w64 _ (by omega) (by omega)]
  rw [archivoltref05_first.j1]
  rw [e]
  cases q with
  | true =>
    rw [if_pos rfl, if_pos rfl]
    by_cases h : (b - 224) * 4096 + x * 64 + y ≥ 2048
    · rw [if_pos h, if_pos h]
    · rw [if_neg h, if_neg h]
  | false =>
    have hf : ¬ (false = true) := by decide
    rw [if_neg hf, if_neg hf]
    have hj := fun q => j2_f k b x y z q hb hx hy hz
    simp only [hj]
    by_cases h1 : b ≥ 240
    · by_cases h2 : b < 248
      · by_cases h3 : x ≥ 0
        · by_cases h4 : y ≥ 0
          · rw [if_pos h1, if_pos h2, if_pos h3, if_pos h4]
            by_cases h5 : z ≥ 0
            · rw [decide_eq_true h5]
              congr 1
              by_cases h6 : 65536 ≤ (b - 240) * 262144 + x * 4096 + y * 64 + z ∧ (b - 240) * 262144 + x * 4096 + y * 64 + z ≤ 1114111
              · rw [if_pos ⟨rfl, h6⟩, if_pos ⟨h1, h2, h3, h4, h5, h6⟩]
              · rw [if_neg (fun h => h6 h.2), if_neg (fun h => h6 h.2.2.2.2.2)]
            · rw [decide_eq_false h5, if_neg (fun h => hf h.1), if_neg (fun h => h5 h.2.2.2.2.1)]
          · rw [if_pos h1, if_pos h2, if_pos h3, if_neg h4, if_neg (fun h => hf h.1), if_neg (fun h => h4 h.2.2.2.1)]
        · rw [if_pos h1, if_pos h2, if_neg h3, if_neg (fun h => hf h.1), if_neg (fun h => h3 h.2.2.1)]
      · rw [if_pos h1, if_neg h2, if_neg (fun h => hf h.1), if_neg (fun h => h2 h.2.1)]
    · rw [if_neg h1, if_neg (fun h => hf h.1), if_neg (fun h => h1 h.1)]
theorem j0_f (k : Nat) (b x y z : Int) (q : Bool) (hb : 0 ≤ b ∧ b ≤ 255) (hx : -1 ≤ x ∧ x ≤ 63) (hy : -1 ≤ y ∧ y ≤ 63) (hz : -1 ≤ z ∧ z ≤ 63) (hq : q = decide (194 ≤ b ∧ b < 224 ∧ 0 ≤ x)) :
    archivoltref05_first.j0 (k + 3) b x y z q = some (pointR b x y z) := by
  rw [archivoltref05_first.j0]
  have hf : ¬ (false = true) := by decide
  have hj := fun q => j1_f k b x y z q hb hx hy hz
  cases q with
  | true =>
    have h := of_decide_eq_true hq.symm
    rw [if_pos rfl, w64 (b - 192) (by omega) (by omega), w64 ((b - 192) * 64) (by omega) (by omega), w64 _ (by omega) (by omega)]
    unfold pointR
    rw [if_pos h]
  | false =>
    have h := of_decide_eq_false hq.symm
    rw [if_neg hf]
    simp only [hj]
    unfold pointR
    rw [if_neg h]
    by_cases h1 : b ≥ 224
    · by_cases h2 : b < 240
      · have h240 : ¬ (240 ≤ b ∧ b < 248 ∧ 0 ≤ x ∧ 0 ≤ y ∧ 0 ≤ z ∧ 65536 ≤ (b - 240) * 262144 + x * 4096 + y * 64 + z ∧ (b - 240) * 262144 + x * 4096 + y * 64 + z ≤ 1114111) := fun h => by omega
        by_cases h3 : x ≥ 0
        · rw [if_pos h1, if_pos h2, if_pos h3]
          by_cases h4 : y ≥ 0
          · rw [decide_eq_true h4, if_pos rfl]
            congr 1
            by_cases h5 : 2048 ≤ (b - 224) * 4096 + x * 64 + y
            · rw [if_pos h5, if_pos ⟨h1, h2, h3, h4, h5⟩]
            · rw [if_neg h5, if_neg (fun h => h5 h.2.2.2.2), if_neg h240]
          · rw [decide_eq_false h4, if_neg hf, if_neg h240, if_neg (fun h => h4 h.2.2.2.1)]
        · rw [if_pos h1, if_pos h2, if_neg h3, if_neg hf, if_neg h240, if_neg (fun h => h3 h.2.2.1)]
      · rw [if_pos h1, if_neg h2, if_neg hf, if_neg (fun h : 224 ≤ b ∧ b < 240 ∧ 0 ≤ x ∧ 0 ≤ y ∧ 2048 ≤ (b - 224) * 4096 + x * 64 + y => h2 h.2.1)]
    · rw [if_neg h1, if_neg hf, if_neg (fun h : 224 ≤ b ∧ b < 240 ∧ 0 ≤ x ∧ 0 ≤ y ∧ 2048 ≤ (b - 224) * 4096 + x * 64 + y => h1 h.1)]
theorem contM_drop (s : List Int) (i j : Nat) (hi : i ≤ s.length) : contM (s.drop i) j = contM s (i + j) := by
  unfold contM
  have e : (s.drop i).getD j 0 = s.getD (i + j) 0 := by simp [List.getD_eq_getElem?_getD]
  rw [e, List.length_drop]
  by_cases h : j < s.length - i
  · have h' : i + j < s.length := by omega
    simp only [h, h', true_and]
  · have h' : ¬ i + j < s.length := by omega
    simp only [h, h', false_and, if_false]
theorem contV_nonneg {s : List Int} {i : Nat} (h : 0 ≤ contV s i) : contM s i = some (contV s i) := by
  unfold contV at h ⊢
  cases hx : contM s i with
  | none => rw [hx] at h; simp at h
  | some x => rfl
theorem contV_neg {s : List Int} {i : Nat} (h : ¬ 0 ≤ contV s i) : contM s i = none := by
  unfold contV at h
  cases hx : contM s i with
  | none => rfl
  | some x => rw [hx] at h; have := contM_bd hx; simp only at h; omega
/-- What is said of a code point. -/
def pairP : Option (Int × Nat) → Int × Int
  | some (c, n) => (c, n)
  | none => (0, 0)
theorem goM_1 (s : List Int) (c : Int) : goM s 1 1 c = if 0 ≤ contV s 1 then some (c * 64 + contV s 1) else none := by
  unfold goM
  by_cases h : 0 ≤ contV s 1
  · rw [contV_nonneg h, if_pos h]; rfl
  · rw [contV_neg h, if_neg h]
theorem goM_2 (s : List Int) (c : Int) : goM s 2 1 c = if 0 ≤ contV s 1 ∧ 0 ≤ contV s 2 then some ((c * 64 + contV s 1) * 64 + contV s 2) else none := by
  unfold goM
  by_cases h : 0 ≤ contV s 1
  · rw [contV_nonneg h]
    simp only
    unfold goM
    by_cases h2 : 0 ≤ contV s 2
    · rw [contV_nonneg h2, if_pos ⟨h, h2⟩]; rfl
    · rw [contV_neg h2, if_neg (fun q => h2 q.2)]
  · rw [contV_neg h, if_neg (fun q => h q.1)]
theorem goM_3 (s : List Int) (c : Int) : goM s 3 1 c = if 0 ≤ contV s 1 ∧ 0 ≤ contV s 2 ∧ 0 ≤ contV s 3 then some (((c * 64 + contV s 1) * 64 + contV s 2) * 64 + contV s 3) else none := by
  unfold goM
  by_cases h : 0 ≤ contV s 1
  · rw [contV_nonneg h]
    simp only
    unfold goM
    by_cases h2 : 0 ≤ contV s 2
    · rw [contV_nonneg h2]
      simp only
      unfold goM
      by_cases h3 : 0 ≤ contV s 3
      · rw [contV_nonneg h3, if_pos ⟨h, h2, h3⟩]; rfl
      · rw [contV_neg h3, if_neg (fun q => h3 q.2.2)]
    · rw [contV_neg h2, if_neg (fun q => h2 q.2.1)]
  · rw [contV_neg h, if_neg (fun q => h q.1)]
theorem point_R (s : List Int) (h0 : 128 ≤ s.getD 0 0) : pairP (pointM s) = pointR (s.getD 0 0) (contV s 1) (contV s 2) (contV s 3) := by
  obtain ⟨b, hb⟩ : ∃ b, s.getD 0 0 = b := ⟨_, rfl⟩
  obtain ⟨x, hx⟩ : ∃ x, contV s 1 = x := ⟨_, rfl⟩
  obtain ⟨y, hy⟩ : ∃ y, contV s 2 = y := ⟨_, rfl⟩
  obtain ⟨z, hz⟩ : ∃ z, contV s 3 = z := ⟨_, rfl⟩
  have bx := contV_bd s 1
  have by_ := contV_bd s 2
  have bz := contV_bd s 3
  unfold pointM pointC
  simp only [Nat.reduceSub]
  rw [goM_1, goM_2, goM_3]
  rw [hb] at h0 ⊢
  rw [hx] at bx ⊢
  rw [hy] at by_ ⊢
  rw [hz] at bz ⊢
  clear hb hx hy hz
  rw [if_neg (by omega)]
  unfold pointR
  by_cases q1 : 192 ≤ b ∧ b < 224
  · rw [if_pos q1]
    by_cases q2 : 0 ≤ x
    · rw [if_pos q2]
      simp only [pickP]
      by_cases q3 : 194 ≤ b
      · rw [if_neg (by omega), if_pos ⟨q3, q1.2, q2⟩]; rfl
      · rw [if_pos (by omega), if_neg (fun h => q3 h.1), if_neg (fun h => by omega), if_neg (fun h => by omega)]; rfl
    · rw [if_neg q2, if_neg (fun h => q2 h.2.2), if_neg (fun h => by omega), if_neg (fun h => by omega)]; rfl
  · rw [if_neg q1, if_neg (show ¬ (194 ≤ b ∧ b < 224 ∧ 0 ≤ x) from fun h => q1 ⟨by omega, h.2.1⟩)]
    by_cases q2 : 224 ≤ b ∧ b < 240
    · rw [if_pos q2]
      by_cases q3 : 0 ≤ x ∧ 0 ≤ y
      · rw [if_pos q3]
        simp only [pickP]
        have e : ((b - 224) * 64 + x) * 64 + y = (b - 224) * 4096 + x * 64 + y := by omega
        rw [e]
        by_cases q4 : 2048 ≤ (b - 224) * 4096 + x * 64 + y
        · rw [if_neg (by omega), if_pos ⟨q2.1, q2.2, q3.1, q3.2, q4⟩]; rfl
        · rw [if_pos (by omega), if_neg (fun h => q4 h.2.2.2.2), if_neg (fun h => by omega)]; rfl
      · rw [if_neg q3, if_neg (fun h => q3 ⟨h.2.2.1, h.2.2.2.1⟩), if_neg (fun h => by omega)]; rfl
    · rw [if_neg q2, if_neg (show ¬ (224 ≤ b ∧ b < 240 ∧ 0 ≤ x ∧ 0 ≤ y ∧ 2048 ≤ (b - 224) * 4096 + x * 64 + y) from fun h => q2 ⟨h.1, h.2.1⟩)]
      by_cases q3 : 240 ≤ b ∧ b < 248
      · rw [if_pos q3]
        by_cases q4 : 0 ≤ x ∧ 0 ≤ y ∧ 0 ≤ z
        · rw [if_pos q4]
          simp only [pickP]
          have e : (((b - 240) * 64 + x) * 64 + y) * 64 + z = (b - 240) * 262144 + x * 4096 + y * 64 + z := by omega
          rw [e]
          by_cases q5 : 65536 ≤ (b - 240) * 262144 + x * 4096 + y * 64 + z ∧ (b - 240) * 262144 + x * 4096 + y * 64 + z ≤ 1114111
          · rw [if_neg (by omega), if_pos ⟨q3.1, q3.2, q4.1, q4.2.1, q4.2.2, q5⟩]; rfl
          · rw [if_pos (by omega), if_neg (fun h => q5 h.2.2.2.2.2)]; rfl
        · rw [if_neg q4, if_neg (fun h => q4 ⟨h.2.2.1, h.2.2.2.1, h.2.2.2.2.1⟩)]; rfl
      · rw [if_neg q3, if_neg (fun h => q3 ⟨h.1, h.2.1⟩)]; rfl
theorem first_f (s : ByteArray) (i k : Nat) (hs : s.size ≤ 1000000) (hi : i < s.size) : archivoltref05_first.f (k + 3) s (i : Int) = some (pairP (pointM ((bts s).drop i))) := by
  have hb := bts_bd s i
  have hl : i < (bts s).length := by rw [bts_len]; exact hi
  have e0 : ((bts s).drop i).getD 0 0 = (bts s).getD i 0 := by simp [List.getD_eq_getElem?_getD]
  have ec : ∀ j, contV ((bts s).drop i) j = contV (bts s) (i + j) := fun j => by unfold contV; rw [contM_drop _ _ _ (by omega)]
  unfold archivoltref05_first.f
  rw [if_pos (by omega), if_pos (by omega), bt_bts s i hi, w64 _ (by omega) (by omega)]
  by_cases h : (bts s).getD i 0 < 128
  · rw [if_pos h]
    have : pointM ((bts s).drop i) = some ((bts s).getD i 0, 1) := by unfold pointM; rw [e0, if_pos h]
    rw [this]; rfl
  · rw [if_neg h, point_R _ (by rw [e0]; omega), e0, ec, ec, ec]
    have w1 : wrap64 ((i : Int) + 1) = ((i + 1 : Nat) : Int) := by rw [w64 _ (by omega) (by omega)]; rfl
    have w2 : wrap64 ((i : Int) + 2) = ((i + 2 : Nat) : Int) := by rw [w64 _ (by omega) (by omega)]; rfl
    have w3 : wrap64 ((i : Int) + 3) = ((i + 3 : Nat) : Int) := by rw [w64 _ (by omega) (by omega)]; rfl
    rw [w1, w2, w3, more_f s (i + 1) (by omega), more_f s (i + 2) (by omega), more_f s (i + 3) (by omega)]
    simp only [Option.bind_some]
    obtain ⟨b, hbb⟩ : ∃ b, (bts s).getD i 0 = b := ⟨_, rfl⟩
    rw [hbb] at hb h ⊢
    have hj := fun q hq => j0_f k b (contV (bts s) (i + 1)) (contV (bts s) (i + 2)) (contV (bts s) (i + 3)) q hb (contV_bd _ _) (contV_bd _ _) (contV_bd _ _) hq
    by_cases q1 : b ≥ 194
    · by_cases q2 : b < 224
      · rw [if_pos q1, if_pos q2]
        exact hj _ (by rw [decide_eq_decide]; exact ⟨fun h => ⟨q1, q2, h⟩, fun h => h.2.2⟩)
      · rw [if_pos q1, if_neg q2]
        exact hj _ (by rw [decide_eq_false]; exact fun h => q2 h.2.1)
    · rw [if_neg q1]
      exact hj _ (by rw [decide_eq_false]; exact fun h => q1 h.1)
/-- What the units of bytes come to. -/
def finU (acc : List Int) : Option (List Int) → List Int × Int
  | none => ([], 4)
  | some r => if (acc ++ r).length > 4096 then ([], 4) else (acc ++ r, 0)
theorem units_l (s : ByteArray) (hs : s.size ≤ 1000000) : ∀ (f K i : Nat) (acc : List Int) (last : Int), i ≤ s.size → s.size - i < f → 2 * f + 5 ≤ K → acc.length ≤ 2 * i →
    archivoltref05_Units.l0 K s acc last (i : Int) = some (finU acc (unitsF f ((bts s).drop i) last))
  | 0, K, i, acc, last, h1, h2, h3, h4 => by omega
  | f + 1, K, i, acc, last, h1, h2, h3, h4 => by
    obtain ⟨K, rfl⟩ : ∃ k, K = k + 2 := ⟨K - 2, by omega⟩
    rw [archivoltref05_Units.l0]
    unfold unitsF
    have hbl := bts_len s
    by_cases hi : i < s.size
    · have hne : ¬ (bts s).drop i = [] := fun e => by have := congrArg List.length e; rw [List.length_drop] at this; simp at this; omega
      obtain ⟨k3, rfl⟩ : ∃ k, K = k + 2 := ⟨K - 2, by omega⟩
      rw [if_pos (by omega), if_neg hne, show k3 + 2 + 1 = k3 + 3 from rfl, first_f s i k3 hs hi]
      cases hp : pointM ((bts s).drop i) with
      | none =>
        simp only [pairP, Option.bind_some, stepU, if_true, finU]
        rw [archivoltref05_Units.j1]
        rfl
      | some cn =>
        obtain ⟨c, n⟩ := cn
        have hb := pointM_bd hne (getD_nonneg (fun x hx => bts_range s x (mem_drop' hx)) 0) hp
        rw [List.length_drop, hbl] at hb
        simp only [pairP, Option.bind_some, stepU]
        rw [if_neg (by omega)]
        have ehi : archivoltref05_high.f last = some (decide (55296 ≤ last ∧ last < 56320)) := by
          unfold archivoltref05_high.f
          by_cases h : last ≥ 55296
          · rw [if_pos h]; congr 1; rw [decide_eq_decide]; omega
          · rw [if_neg h]; congr 1; symm; rw [decide_eq_false]; omega
        have elo : archivoltref05_low.f c = some (decide (56320 ≤ c ∧ c < 57344)) := by
          unfold archivoltref05_low.f
          by_cases h : c ≥ 56320
          · rw [if_pos h]; congr 1; rw [decide_eq_decide]; omega
          · rw [if_neg h]; congr 1; symm; rw [decide_eq_false]; omega
        have hj : ∀ q : Bool, q = decide (55296 ≤ last ∧ last < 56320 ∧ 56320 ≤ c ∧ c < 57344) → archivoltref05_Units.j1 (k3 + 3) s acc (i : Int) q c (n : Int) =
            some (finU acc (if 55296 ≤ last ∧ last < 56320 ∧ 56320 ≤ c ∧ c < 57344 then none else (unitsF f (((bts s).drop i).drop n) c).map (encU c ++ ·))) := by
          intro q hq
          rw [archivoltref05_Units.j1]
          cases q with
          | true =>
            rw [if_pos rfl, if_pos (of_decide_eq_true hq.symm)]; rfl
          | false =>
            rw [if_neg (by decide), if_neg (of_decide_eq_false hq.symm), List.drop_drop]
            have ew : wrap64 ((i : Int) + n) = ((i + n : Nat) : Int) := by rw [w64 _ (by omega) (by omega)]; rfl
            have hfin : ∀ o : Option (List Int), finU acc (o.map (encU c ++ ·)) = finU (acc ++ encU c) o := fun o => by
              cases o with
              | none => rfl
              | some r => simp only [Option.map_some, finU, List.append_assoc]
            rw [hfin, ew]
            by_cases hc : c < 65536
            · rw [if_pos hc, if_pos (by omega)]
              have e1 : IntKind.u16.wrap c = c := by simp [IntKind.wrap, IntKind.bits, IntKind.signed]; omega
              rw [e1, units_l s hs f (k3 + 2) (i + n) (acc ++ [c]) c (by omega) (by omega) (by omega) (by simp; omega), encU_1 hc]
            · rw [if_neg hc]
              simp only [Option.bind_some, List.length_cons, List.length_nil]
              rw [if_pos (by omega)]
              have t1 : Int.tdiv (wrap64 (c - 65536)) 1024 = (c - 65536) / 1024 := by rw [w64 _ (by omega) (by omega), Int.tdiv_eq_ediv_of_nonneg (by omega)]
              have t2 : Int.tmod (wrap64 (c - 65536)) 1024 = (c - 65536) % 1024 := by rw [w64 _ (by omega) (by omega), Int.tmod_eq_emod_of_nonneg (by omega)]
              rw [t1, t2, w64 ((c - 65536) / 1024) (by omega) (by omega), w64 (55296 + (c - 65536) / 1024) (by omega) (by omega), w64 (56320 + (c - 65536) % 1024) (by omega) (by omega)]
              have e1 : IntKind.u16.wrap (55296 + (c - 65536) / 1024) = 55296 + (c - 65536) / 1024 := by simp [IntKind.wrap, IntKind.bits, IntKind.signed]; omega
              have e2 : IntKind.u16.wrap (56320 + (c - 65536) % 1024) = 56320 + (c - 65536) % 1024 := by simp [IntKind.wrap, IntKind.bits, IntKind.signed]; omega
              rw [e1, e2, ← encU_2 (show 65536 ≤ c by omega), units_l s hs f (k3 + 2) (i + n) (acc ++ encU c) c (by omega) (by omega) (by omega) (by have := encU_len c; rw [List.length_append]; omega)]
        rw [ehi, elo]
        simp only [Option.bind_some]
        by_cases hh : 55296 ≤ last ∧ last < 56320
        · rw [decide_eq_true hh, if_pos rfl]
          exact hj _ (by rw [decide_eq_decide]; exact ⟨fun h => ⟨hh.1, hh.2, h⟩, fun h => h.2.2⟩)
        · rw [decide_eq_false hh, if_neg (by decide)]
          exact hj _ (by symm; rw [decide_eq_false]; exact fun h => hh ⟨h.1, h.2.1⟩)
    · have hnil : (bts s).drop i = [] := List.drop_eq_nil_of_le (by omega)
      rw [if_neg (by omega), hnil, if_pos rfl]
      simp only [finU, List.append_nil]
      by_cases h : acc.length > 4096
      · rw [if_pos (by omega), if_pos h]
      · rw [if_neg (by omega), if_neg h]
/-- What the document's 'Units' says. -/
def refU (s : ByteArray) : List Int × Int := match getU s with
  | some r => (r, 0)
  | none => ([], 4)
theorem units_f (s : ByteArray) (hs : s.size ≤ 1000000) (K : Nat) (hK : 2 * s.size + 20 ≤ K) : archivoltref05_Units.f K s = some (refU s) := by
  unfold archivoltref05_Units.f
  have h := units_l s hs (s.size + 1) K 0 [] 0 (by omega) (by omega) (by omega) (by simp)
  have h' : archivoltref05_Units.l0 K s [] 0 0 = some (finU [] (unitsM (bts s))) := by
    unfold unitsM
    rw [bts_len]
    exact h
  rw [h']
  congr 1
  unfold refU getU readM
  cases hu : unitsM (bts s) with
  | none => rfl
  | some l =>
    simp only [finU, List.nil_append]
    by_cases q : l.length > 4096
    · rw [if_pos q]
      have : decide (l.length ≤ 4096) = false := by simp; omega
      rw [this]
    · rw [if_neg q]
      have : decide (l.length ≤ 4096) = true := by simp; omega
      rw [this]

theorem rd_of_C {w : World} {k : IntKind} {A : Option Addr} {n : Nat} {xs : List Int} (h : (Kd.int k).C w A n xs) (hn : n ≤ 9223372036854775807) (hl : xs.length = n) : Rd w k A n xs := by
  refine ⟨hl, hn, fun j hj => ?_⟩
  obtain ⟨ad, hA, hc⟩ := Kd.at_int h (j : Int) (by omega) (by omega)
  refine ⟨ad, hA, ?_⟩
  simpa [rd] using hc
/-- The document's 'Units', whatever the string. -/
theorem runits_any (s : ByteArray) (hs : s.size ≤ 100000) (w : World) :
    Calls Tryd.prog 34 #[.string s] w fun e w' => (∃ A c, e = .returned (.agg #[.slice A (refU s).1.length c, .int .i64 (refU s).2]) ∧ (refU s).1.length ≤ c ∧ Rd w' .u16 A (refU s).1.length (refU s).1) ∧ Below w.heap.size w w' :=
  (archivoltref05_Units.calls _ s (refU s).1 (refU s).2 w (units_f s (by omega) _ (Nat.le_refl _))).mono fun e w' ⟨v, he, hR, hB⟩ => by
    obtain ⟨A, c, rfl, hc, hC⟩ := Kd.R_reads hR
    refine ⟨⟨A, c, he, hc, rd_of_C hC ?_ rfl⟩, hB⟩
    unfold refU
    cases hg : getU s with
    | none => simp
    | some r => have := (getU_props hg).2.2; simp only; omega
end Go.Proofs.YtmbdiimenmnfjaaDoor
/- Walk: the document's Up, one range of units after the other. -/
namespace Go.Proofs.YtmbdiimenmnfjaaDoor
open Go.RowKit Go.Deep
set_option linter.unusedVariables false
set_option linter.unusedSimpArgs false
set_option maxRecDepth 100000

theorem u16_in (x : Int) (h0 : 0 ≤ x) (h1 : x ≤ 65535) : IntKind.u16.wrap x = x := by simp [IntKind.wrap, IntKind.bits, IntKind.signed]; omega

theorem rup_0 (u : Int) (h0 : 0 ≤ u) (h1 : u ≤ 96) (w : World) : Calls Tryd.prog 36 #[.int .u16 u] w fun e w' => e = .returned (.int .u16 (upM u)) ∧ w' = w := by
  have hm : upM u = u := by
    unfold upM
    simp only [rowsL, upL]
    rw [if_neg (by simp only [hitR]; omega), if_neg (by simp only [hitR]; omega), if_neg (by simp only [hitR]; omega), if_neg (by simp only [hitR]; omega), if_neg (by simp only [hitR]; omega), if_neg (by simp only [hitR]; omega), if_neg (by simp only [hitR]; omega), if_neg (by simp only [hitR]; omega), if_neg (by simp only [hitR]; omega), if_neg (by simp only [hitR]; omega), if_neg (by simp only [hitR]; omega), if_neg (by simp only [hitR]; omega), if_neg (by simp only [hitR]; omega)]
  rw [hm]
  have g97 : ¬ 97 ≤ u := by omega
  have g224 : ¬ 224 ≤ u := by omega
  have g248 : ¬ 248 ≤ u := by omega
  have g945 : ¬ 945 ≤ u := by omega
  have g963 : ¬ 963 ≤ u := by omega
  have g1072 : ¬ 1072 ≤ u := by omega
  have g257 : ¬ 257 ≤ u := by omega
  have g331 : ¬ 331 ≤ u := by omega
  have g1121 : ¬ 1121 ≤ u := by omega
  have g314 : ¬ 314 ≤ u := by omega
  have g1104 : ¬ 1104 ≤ u := by omega
  have l122 : u ≤ 122 := by omega
  have l246 : u ≤ 246 := by omega
  have l254 : u ≤ 254 := by omega
  have l961 : u ≤ 961 := by omega
  have l969 : u ≤ 969 := by omega
  have l1103 : u ≤ 1103 := by omega
  have l311 : u ≤ 311 := by omega
  have l375 : u ≤ 375 := by omega
  have l1153 : u ≤ 1153 := by omega
  have l328 : u ≤ 328 := by omega
  have l1119 : u ≤ 1119 := by omega
  have e255 : ¬ u = 255 := by omega
  have e962 : ¬ u = 962 := by omega
  obtain ⟨q, hq⟩ : ∃ q : Bool, decide (u % 2 = 1) = q := ⟨_, rfl⟩
  clear h0 h1 hm
  go_enter Tryd.func36, Tryd.ntmps36
  go_wp2
  all_goals (go_ret; exact ⟨rfl, rfl⟩)

theorem rup_1 (u : Int) (h0 : 97 ≤ u) (h1 : u ≤ 122) (w : World) : Calls Tryd.prog 36 #[.int .u16 u] w fun e w' => e = .returned (.int .u16 (upM u)) ∧ w' = w := by
  have hm : upM u = u - 32 := by
    unfold upM
    simp only [rowsL, upL]
    rw [if_pos (by simp only [hitR]; omega)]
    rfl
  rw [hm]
  have g97 : 97 ≤ u := by omega
  have g224 : ¬ 224 ≤ u := by omega
  have g248 : ¬ 248 ≤ u := by omega
  have g945 : ¬ 945 ≤ u := by omega
  have g963 : ¬ 963 ≤ u := by omega
  have g1072 : ¬ 1072 ≤ u := by omega
  have g257 : ¬ 257 ≤ u := by omega
  have g331 : ¬ 331 ≤ u := by omega
  have g1121 : ¬ 1121 ≤ u := by omega
  have g314 : ¬ 314 ≤ u := by omega
  have g1104 : ¬ 1104 ≤ u := by omega
  have l122 : u ≤ 122 := by omega
  have l246 : u ≤ 246 := by omega
  have l254 : u ≤ 254 := by omega
  have l961 : u ≤ 961 := by omega
  have l969 : u ≤ 969 := by omega
  have l1103 : u ≤ 1103 := by omega
  have l311 : u ≤ 311 := by omega
  have l375 : u ≤ 375 := by omega
  have l1153 : u ≤ 1153 := by omega
  have l328 : u ≤ 328 := by omega
  have l1119 : u ≤ 1119 := by omega
  have e255 : ¬ u = 255 := by omega
  have e962 : ¬ u = 962 := by omega
  obtain ⟨q, hq⟩ : ∃ q : Bool, decide (u % 2 = 1) = q := ⟨_, rfl⟩
  have hw : IntKind.u16.wrap (u - 32) = u - 32 := u16_in _ (by omega) (by omega)
  clear h0 h1 hm
  go_enter Tryd.func36, Tryd.ntmps36
  go_wp2
  all_goals (go_ret; exact ⟨rfl, rfl⟩)

theorem rup_2 (u : Int) (h0 : 123 ≤ u) (h1 : u ≤ 223) (w : World) : Calls Tryd.prog 36 #[.int .u16 u] w fun e w' => e = .returned (.int .u16 (upM u)) ∧ w' = w := by
  have hm : upM u = u := by
    unfold upM
    simp only [rowsL, upL]
    rw [if_neg (by simp only [hitR]; omega), if_neg (by simp only [hitR]; omega), if_neg (by simp only [hitR]; omega), if_neg (by simp only [hitR]; omega), if_neg (by simp only [hitR]; omega), if_neg (by simp only [hitR]; omega), if_neg (by simp only [hitR]; omega), if_neg (by simp only [hitR]; omega), if_neg (by simp only [hitR]; omega), if_neg (by simp only [hitR]; omega), if_neg (by simp only [hitR]; omega), if_neg (by simp only [hitR]; omega), if_neg (by simp only [hitR]; omega)]
  rw [hm]
  have g97 : 97 ≤ u := by omega
  have g224 : ¬ 224 ≤ u := by omega
  have g248 : ¬ 248 ≤ u := by omega
  have g945 : ¬ 945 ≤ u := by omega
  have g963 : ¬ 963 ≤ u := by omega
  have g1072 : ¬ 1072 ≤ u := by omega
  have g257 : ¬ 257 ≤ u := by omega
  have g331 : ¬ 331 ≤ u := by omega
  have g1121 : ¬ 1121 ≤ u := by omega
  have g314 : ¬ 314 ≤ u := by omega
  have g1104 : ¬ 1104 ≤ u := by omega
  have l122 : ¬ u ≤ 122 := by omega
  have l246 : u ≤ 246 := by omega
  have l254 : u ≤ 254 := by omega
  have l961 : u ≤ 961 := by omega
  have l969 : u ≤ 969 := by omega
  have l1103 : u ≤ 1103 := by omega
  have l311 : u ≤ 311 := by omega
  have l375 : u ≤ 375 := by omega
  have l1153 : u ≤ 1153 := by omega
  have l328 : u ≤ 328 := by omega
  have l1119 : u ≤ 1119 := by omega
  have e255 : ¬ u = 255 := by omega
  have e962 : ¬ u = 962 := by omega
  obtain ⟨q, hq⟩ : ∃ q : Bool, decide (u % 2 = 1) = q := ⟨_, rfl⟩
  clear h0 h1 hm
  go_enter Tryd.func36, Tryd.ntmps36
  go_wp2
  all_goals (go_ret; exact ⟨rfl, rfl⟩)

theorem rup_3 (u : Int) (h0 : 224 ≤ u) (h1 : u ≤ 246) (w : World) : Calls Tryd.prog 36 #[.int .u16 u] w fun e w' => e = .returned (.int .u16 (upM u)) ∧ w' = w := by
  have hm : upM u = u - 32 := by
    unfold upM
    simp only [rowsL, upL]
    rw [if_neg (by simp only [hitR]; omega), if_pos (by simp only [hitR]; omega)]
    rfl
  rw [hm]
  have g97 : 97 ≤ u := by omega
  have g224 : 224 ≤ u := by omega
  have g248 : ¬ 248 ≤ u := by omega
  have g945 : ¬ 945 ≤ u := by omega
  have g963 : ¬ 963 ≤ u := by omega
  have g1072 : ¬ 1072 ≤ u := by omega
  have g257 : ¬ 257 ≤ u := by omega
  have g331 : ¬ 331 ≤ u := by omega
  have g1121 : ¬ 1121 ≤ u := by omega
  have g314 : ¬ 314 ≤ u := by omega
  have g1104 : ¬ 1104 ≤ u := by omega
  have l122 : ¬ u ≤ 122 := by omega
  have l246 : u ≤ 246 := by omega
  have l254 : u ≤ 254 := by omega
  have l961 : u ≤ 961 := by omega
  have l969 : u ≤ 969 := by omega
  have l1103 : u ≤ 1103 := by omega
  have l311 : u ≤ 311 := by omega
  have l375 : u ≤ 375 := by omega
  have l1153 : u ≤ 1153 := by omega
  have l328 : u ≤ 328 := by omega
  have l1119 : u ≤ 1119 := by omega
  have e255 : ¬ u = 255 := by omega
  have e962 : ¬ u = 962 := by omega
  obtain ⟨q, hq⟩ : ∃ q : Bool, decide (u % 2 = 1) = q := ⟨_, rfl⟩
  have hw : IntKind.u16.wrap (u - 32) = u - 32 := u16_in _ (by omega) (by omega)
  clear h0 h1 hm
  go_enter Tryd.func36, Tryd.ntmps36
  go_wp2
  all_goals (go_ret; exact ⟨rfl, rfl⟩)

theorem rup_4 (u : Int) (h0 : 247 ≤ u) (h1 : u ≤ 247) (w : World) : Calls Tryd.prog 36 #[.int .u16 u] w fun e w' => e = .returned (.int .u16 (upM u)) ∧ w' = w := by
  have hm : upM u = u := by
    unfold upM
    simp only [rowsL, upL]
    rw [if_neg (by simp only [hitR]; omega), if_neg (by simp only [hitR]; omega), if_neg (by simp only [hitR]; omega), if_neg (by simp only [hitR]; omega), if_neg (by simp only [hitR]; omega), if_neg (by simp only [hitR]; omega), if_neg (by simp only [hitR]; omega), if_neg (by simp only [hitR]; omega), if_neg (by simp only [hitR]; omega), if_neg (by simp only [hitR]; omega), if_neg (by simp only [hitR]; omega), if_neg (by simp only [hitR]; omega), if_neg (by simp only [hitR]; omega)]
  rw [hm]
  have g97 : 97 ≤ u := by omega
  have g224 : 224 ≤ u := by omega
  have g248 : ¬ 248 ≤ u := by omega
  have g945 : ¬ 945 ≤ u := by omega
  have g963 : ¬ 963 ≤ u := by omega
  have g1072 : ¬ 1072 ≤ u := by omega
  have g257 : ¬ 257 ≤ u := by omega
  have g331 : ¬ 331 ≤ u := by omega
  have g1121 : ¬ 1121 ≤ u := by omega
  have g314 : ¬ 314 ≤ u := by omega
  have g1104 : ¬ 1104 ≤ u := by omega
  have l122 : ¬ u ≤ 122 := by omega
  have l246 : ¬ u ≤ 246 := by omega
  have l254 : u ≤ 254 := by omega
  have l961 : u ≤ 961 := by omega
  have l969 : u ≤ 969 := by omega
  have l1103 : u ≤ 1103 := by omega
  have l311 : u ≤ 311 := by omega
  have l375 : u ≤ 375 := by omega
  have l1153 : u ≤ 1153 := by omega
  have l328 : u ≤ 328 := by omega
  have l1119 : u ≤ 1119 := by omega
  have e255 : ¬ u = 255 := by omega
  have e962 : ¬ u = 962 := by omega
  obtain ⟨q, hq⟩ : ∃ q : Bool, decide (u % 2 = 1) = q := ⟨_, rfl⟩
  clear h0 h1 hm
  go_enter Tryd.func36, Tryd.ntmps36
  go_wp2
  all_goals (go_ret; exact ⟨rfl, rfl⟩)

theorem rup_5 (u : Int) (h0 : 248 ≤ u) (h1 : u ≤ 254) (w : World) : Calls Tryd.prog 36 #[.int .u16 u] w fun e w' => e = .returned (.int .u16 (upM u)) ∧ w' = w := by
  have hm : upM u = u - 32 := by
    unfold upM
    simp only [rowsL, upL]
    rw [if_neg (by simp only [hitR]; omega), if_neg (by simp only [hitR]; omega), if_pos (by simp only [hitR]; omega)]
    rfl
  rw [hm]
  have g97 : 97 ≤ u := by omega
  have g224 : 224 ≤ u := by omega
  have g248 : 248 ≤ u := by omega
  have g945 : ¬ 945 ≤ u := by omega
  have g963 : ¬ 963 ≤ u := by omega
  have g1072 : ¬ 1072 ≤ u := by omega
  have g257 : ¬ 257 ≤ u := by omega
  have g331 : ¬ 331 ≤ u := by omega
  have g1121 : ¬ 1121 ≤ u := by omega
  have g314 : ¬ 314 ≤ u := by omega
  have g1104 : ¬ 1104 ≤ u := by omega
  have l122 : ¬ u ≤ 122 := by omega
  have l246 : ¬ u ≤ 246 := by omega
  have l254 : u ≤ 254 := by omega
  have l961 : u ≤ 961 := by omega
  have l969 : u ≤ 969 := by omega
  have l1103 : u ≤ 1103 := by omega
  have l311 : u ≤ 311 := by omega
  have l375 : u ≤ 375 := by omega
  have l1153 : u ≤ 1153 := by omega
  have l328 : u ≤ 328 := by omega
  have l1119 : u ≤ 1119 := by omega
  have e255 : ¬ u = 255 := by omega
  have e962 : ¬ u = 962 := by omega
  obtain ⟨q, hq⟩ : ∃ q : Bool, decide (u % 2 = 1) = q := ⟨_, rfl⟩
  have hw : IntKind.u16.wrap (u - 32) = u - 32 := u16_in _ (by omega) (by omega)
  clear h0 h1 hm
  go_enter Tryd.func36, Tryd.ntmps36
  go_wp2
  all_goals (go_ret; exact ⟨rfl, rfl⟩)

theorem rup_6 (u : Int) (h0 : 255 ≤ u) (h1 : u ≤ 255) (w : World) : Calls Tryd.prog 36 #[.int .u16 u] w fun e w' => e = .returned (.int .u16 (upM u)) ∧ w' = w := by
  have hm : upM u = 376 := by
    unfold upM
    simp only [rowsL, upL]
    rw [if_neg (by simp only [hitR]; omega), if_neg (by simp only [hitR]; omega), if_neg (by simp only [hitR]; omega), if_pos (by simp only [hitR]; omega)]
    omega
  rw [hm]
  have g97 : 97 ≤ u := by omega
  have g224 : 224 ≤ u := by omega
  have g248 : 248 ≤ u := by omega
  have g945 : ¬ 945 ≤ u := by omega
  have g963 : ¬ 963 ≤ u := by omega
  have g1072 : ¬ 1072 ≤ u := by omega
  have g257 : ¬ 257 ≤ u := by omega
  have g331 : ¬ 331 ≤ u := by omega
  have g1121 : ¬ 1121 ≤ u := by omega
  have g314 : ¬ 314 ≤ u := by omega
  have g1104 : ¬ 1104 ≤ u := by omega
  have l122 : ¬ u ≤ 122 := by omega
  have l246 : ¬ u ≤ 246 := by omega
  have l254 : ¬ u ≤ 254 := by omega
  have l961 : u ≤ 961 := by omega
  have l969 : u ≤ 969 := by omega
  have l1103 : u ≤ 1103 := by omega
  have l311 : u ≤ 311 := by omega
  have l375 : u ≤ 375 := by omega
  have l1153 : u ≤ 1153 := by omega
  have l328 : u ≤ 328 := by omega
  have l1119 : u ≤ 1119 := by omega
  have e255 : u = 255 := by omega
  have e962 : ¬ u = 962 := by omega
  obtain ⟨q, hq⟩ : ∃ q : Bool, decide (u % 2 = 1) = q := ⟨_, rfl⟩
  clear h0 h1 hm
  go_enter Tryd.func36, Tryd.ntmps36
  go_wp2
  all_goals (go_ret; exact ⟨rfl, rfl⟩)

theorem rup_7 (u : Int) (h0 : 256 ≤ u) (h1 : u ≤ 256) (w : World) : Calls Tryd.prog 36 #[.int .u16 u] w fun e w' => e = .returned (.int .u16 (upM u)) ∧ w' = w := by
  have hm : upM u = u := by
    unfold upM
    simp only [rowsL, upL]
    rw [if_neg (by simp only [hitR]; omega), if_neg (by simp only [hitR]; omega), if_neg (by simp only [hitR]; omega), if_neg (by simp only [hitR]; omega), if_neg (by simp only [hitR]; omega), if_neg (by simp only [hitR]; omega), if_neg (by simp only [hitR]; omega), if_neg (by simp only [hitR]; omega), if_neg (by simp only [hitR]; omega), if_neg (by simp only [hitR]; omega), if_neg (by simp only [hitR]; omega), if_neg (by simp only [hitR]; omega), if_neg (by simp only [hitR]; omega)]
  rw [hm]
  have g97 : 97 ≤ u := by omega
  have g224 : 224 ≤ u := by omega
  have g248 : 248 ≤ u := by omega
  have g945 : ¬ 945 ≤ u := by omega
  have g963 : ¬ 963 ≤ u := by omega
  have g1072 : ¬ 1072 ≤ u := by omega
  have g257 : ¬ 257 ≤ u := by omega
  have g331 : ¬ 331 ≤ u := by omega
  have g1121 : ¬ 1121 ≤ u := by omega
  have g314 : ¬ 314 ≤ u := by omega
  have g1104 : ¬ 1104 ≤ u := by omega
  have l122 : ¬ u ≤ 122 := by omega
  have l246 : ¬ u ≤ 246 := by omega
  have l254 : ¬ u ≤ 254 := by omega
  have l961 : u ≤ 961 := by omega
  have l969 : u ≤ 969 := by omega
  have l1103 : u ≤ 1103 := by omega
  have l311 : u ≤ 311 := by omega
  have l375 : u ≤ 375 := by omega
  have l1153 : u ≤ 1153 := by omega
  have l328 : u ≤ 328 := by omega
  have l1119 : u ≤ 1119 := by omega
  have e255 : ¬ u = 255 := by omega
  have e962 : ¬ u = 962 := by omega
  obtain ⟨q, hq⟩ : ∃ q : Bool, decide (u % 2 = 1) = q := ⟨_, rfl⟩
  clear h0 h1 hm
  go_enter Tryd.func36, Tryd.ntmps36
  go_wp2
  all_goals (go_ret; exact ⟨rfl, rfl⟩)

theorem rup_8 (u : Int) (h0 : 257 ≤ u) (h1 : u ≤ 311) (hp : u % 2 = 1) (w : World) : Calls Tryd.prog 36 #[.int .u16 u] w fun e w' => e = .returned (.int .u16 (upM u)) ∧ w' = w := by
  have hm : upM u = u - 1 := by
    unfold upM
    simp only [rowsL, upL]
    rw [if_neg (by simp only [hitR]; omega), if_neg (by simp only [hitR]; omega), if_neg (by simp only [hitR]; omega), if_neg (by simp only [hitR]; omega), if_pos (by simp only [hitR]; omega)]
    rfl
  rw [hm]
  have g97 : 97 ≤ u := by omega
  have g224 : 224 ≤ u := by omega
  have g248 : 248 ≤ u := by omega
  have g945 : ¬ 945 ≤ u := by omega
  have g963 : ¬ 963 ≤ u := by omega
  have g1072 : ¬ 1072 ≤ u := by omega
  have g257 : 257 ≤ u := by omega
  have g331 : ¬ 331 ≤ u := by omega
  have g1121 : ¬ 1121 ≤ u := by omega
  have g314 : ¬ 314 ≤ u := by omega
  have g1104 : ¬ 1104 ≤ u := by omega
  have l122 : ¬ u ≤ 122 := by omega
  have l246 : ¬ u ≤ 246 := by omega
  have l254 : ¬ u ≤ 254 := by omega
  have l961 : u ≤ 961 := by omega
  have l969 : u ≤ 969 := by omega
  have l1103 : u ≤ 1103 := by omega
  have l311 : u ≤ 311 := by omega
  have l375 : u ≤ 375 := by omega
  have l1153 : u ≤ 1153 := by omega
  have l328 : u ≤ 328 := by omega
  have l1119 : u ≤ 1119 := by omega
  have e255 : ¬ u = 255 := by omega
  have e962 : ¬ u = 962 := by omega
  have hpar : u % 2 = 1 := by omega
  have hw : IntKind.u16.wrap (u - 1) = u - 1 := u16_in _ (by omega) (by omega)
  clear h0 h1 hm
  go_enter Tryd.func36, Tryd.ntmps36
  go_wp2
  all_goals (go_ret; exact ⟨rfl, rfl⟩)

theorem rup_9 (u : Int) (h0 : 257 ≤ u) (h1 : u ≤ 311) (hp : u % 2 = 0) (w : World) : Calls Tryd.prog 36 #[.int .u16 u] w fun e w' => e = .returned (.int .u16 (upM u)) ∧ w' = w := by
  have hm : upM u = u := by
    unfold upM
    simp only [rowsL, upL]
    rw [if_neg (by simp only [hitR]; omega), if_neg (by simp only [hitR]; omega), if_neg (by simp only [hitR]; omega), if_neg (by simp only [hitR]; omega), if_neg (by simp only [hitR]; omega), if_neg (by simp only [hitR]; omega), if_neg (by simp only [hitR]; omega), if_neg (by simp only [hitR]; omega), if_neg (by simp only [hitR]; omega), if_neg (by simp only [hitR]; omega), if_neg (by simp only [hitR]; omega), if_neg (by simp only [hitR]; omega), if_neg (by simp only [hitR]; omega)]
  rw [hm]
  have g97 : 97 ≤ u := by omega
  have g224 : 224 ≤ u := by omega
  have g248 : 248 ≤ u := by omega
  have g945 : ¬ 945 ≤ u := by omega
  have g963 : ¬ 963 ≤ u := by omega
  have g1072 : ¬ 1072 ≤ u := by omega
  have g257 : 257 ≤ u := by omega
  have g331 : ¬ 331 ≤ u := by omega
  have g1121 : ¬ 1121 ≤ u := by omega
  have g314 : ¬ 314 ≤ u := by omega
  have g1104 : ¬ 1104 ≤ u := by omega
  have l122 : ¬ u ≤ 122 := by omega
  have l246 : ¬ u ≤ 246 := by omega
  have l254 : ¬ u ≤ 254 := by omega
  have l961 : u ≤ 961 := by omega
  have l969 : u ≤ 969 := by omega
  have l1103 : u ≤ 1103 := by omega
  have l311 : u ≤ 311 := by omega
  have l375 : u ≤ 375 := by omega
  have l1153 : u ≤ 1153 := by omega
  have l328 : u ≤ 328 := by omega
  have l1119 : u ≤ 1119 := by omega
  have e255 : ¬ u = 255 := by omega
  have e962 : ¬ u = 962 := by omega
  have hpar : ¬ u % 2 = 1 := by omega
  clear h0 h1 hm
  go_enter Tryd.func36, Tryd.ntmps36
  go_wp2
  all_goals (go_ret; exact ⟨rfl, rfl⟩)

theorem rup_10 (u : Int) (h0 : 312 ≤ u) (h1 : u ≤ 313) (w : World) : Calls Tryd.prog 36 #[.int .u16 u] w fun e w' => e = .returned (.int .u16 (upM u)) ∧ w' = w := by
  have hm : upM u = u := by
    unfold upM
    simp only [rowsL, upL]
    rw [if_neg (by simp only [hitR]; omega), if_neg (by simp only [hitR]; omega), if_neg (by simp only [hitR]; omega), if_neg (by simp only [hitR]; omega), if_neg (by simp only [hitR]; omega), if_neg (by simp only [hitR]; omega), if_neg (by simp only [hitR]; omega), if_neg (by simp only [hitR]; omega), if_neg (by simp only [hitR]; omega), if_neg (by simp only [hitR]; omega), if_neg (by simp only [hitR]; omega), if_neg (by simp only [hitR]; omega), if_neg (by simp only [hitR]; omega)]
  rw [hm]
  have g97 : 97 ≤ u := by omega
  have g224 : 224 ≤ u := by omega
  have g248 : 248 ≤ u := by omega
  have g945 : ¬ 945 ≤ u := by omega
  have g963 : ¬ 963 ≤ u := by omega
  have g1072 : ¬ 1072 ≤ u := by omega
  have g257 : 257 ≤ u := by omega
  have g331 : ¬ 331 ≤ u := by omega
  have g1121 : ¬ 1121 ≤ u := by omega
  have g314 : ¬ 314 ≤ u := by omega
  have g1104 : ¬ 1104 ≤ u := by omega
  have l122 : ¬ u ≤ 122 := by omega
  have l246 : ¬ u ≤ 246 := by omega
  have l254 : ¬ u ≤ 254 := by omega
  have l961 : u ≤ 961 := by omega
  have l969 : u ≤ 969 := by omega
  have l1103 : u ≤ 1103 := by omega
  have l311 : ¬ u ≤ 311 := by omega
  have l375 : u ≤ 375 := by omega
  have l1153 : u ≤ 1153 := by omega
  have l328 : u ≤ 328 := by omega
  have l1119 : u ≤ 1119 := by omega
  have e255 : ¬ u = 255 := by omega
  have e962 : ¬ u = 962 := by omega
  obtain ⟨q, hq⟩ : ∃ q : Bool, decide (u % 2 = 1) = q := ⟨_, rfl⟩
  clear h0 h1 hm
  go_enter Tryd.func36, Tryd.ntmps36
  go_wp2
  all_goals (go_ret; exact ⟨rfl, rfl⟩)

theorem rup_11 (u : Int) (h0 : 314 ≤ u) (h1 : u ≤ 328) (hp : u % 2 = 1) (w : World) : Calls Tryd.prog 36 #[.int .u16 u] w fun e w' => e = .returned (.int .u16 (upM u)) ∧ w' = w := by
  have hm : upM u = u := by
    unfold upM
    simp only [rowsL, upL]
    rw [if_neg (by simp only [hitR]; omega), if_neg (by simp only [hitR]; omega), if_neg (by simp only [hitR]; omega), if_neg (by simp only [hitR]; omega), if_neg (by simp only [hitR]; omega), if_neg (by simp only [hitR]; omega), if_neg (by simp only [hitR]; omega), if_neg (by simp only [hitR]; omega), if_neg (by simp only [hitR]; omega), if_neg (by simp only [hitR]; omega), if_neg (by simp only [hitR]; omega), if_neg (by simp only [hitR]; omega), if_neg (by simp only [hitR]; omega)]
  rw [hm]
  have g97 : 97 ≤ u := by omega
  have g224 : 224 ≤ u := by omega
  have g248 : 248 ≤ u := by omega
  have g945 : ¬ 945 ≤ u := by omega
  have g963 : ¬ 963 ≤ u := by omega
  have g1072 : ¬ 1072 ≤ u := by omega
  have g257 : 257 ≤ u := by omega
  have g331 : ¬ 331 ≤ u := by omega
  have g1121 : ¬ 1121 ≤ u := by omega
  have g314 : 314 ≤ u := by omega
  have g1104 : ¬ 1104 ≤ u := by omega
  have l122 : ¬ u ≤ 122 := by omega
  have l246 : ¬ u ≤ 246 := by omega
  have l254 : ¬ u ≤ 254 := by omega
  have l961 : u ≤ 961 := by omega
  have l969 : u ≤ 969 := by omega
  have l1103 : u ≤ 1103 := by omega
  have l311 : ¬ u ≤ 311 := by omega
  have l375 : u ≤ 375 := by omega
  have l1153 : u ≤ 1153 := by omega
  have l328 : u ≤ 328 := by omega
  have l1119 : u ≤ 1119 := by omega
  have e255 : ¬ u = 255 := by omega
  have e962 : ¬ u = 962 := by omega
  have hpar : u % 2 = 1 := by omega
  clear h0 h1 hm
  go_enter Tryd.func36, Tryd.ntmps36
  go_wp2
  all_goals (go_ret; exact ⟨rfl, rfl⟩)

theorem rup_12 (u : Int) (h0 : 314 ≤ u) (h1 : u ≤ 328) (hp : u % 2 = 0) (w : World) : Calls Tryd.prog 36 #[.int .u16 u] w fun e w' => e = .returned (.int .u16 (upM u)) ∧ w' = w := by
  have hm : upM u = u - 1 := by
    unfold upM
    simp only [rowsL, upL]
    rw [if_neg (by simp only [hitR]; omega), if_neg (by simp only [hitR]; omega), if_neg (by simp only [hitR]; omega), if_neg (by simp only [hitR]; omega), if_neg (by simp only [hitR]; omega), if_pos (by simp only [hitR]; omega)]
    rfl
  rw [hm]
  have g97 : 97 ≤ u := by omega
  have g224 : 224 ≤ u := by omega
  have g248 : 248 ≤ u := by omega
  have g945 : ¬ 945 ≤ u := by omega
  have g963 : ¬ 963 ≤ u := by omega
  have g1072 : ¬ 1072 ≤ u := by omega
  have g257 : 257 ≤ u := by omega
  have g331 : ¬ 331 ≤ u := by omega
  have g1121 : ¬ 1121 ≤ u := by omega
  have g314 : 314 ≤ u := by omega
  have g1104 : ¬ 1104 ≤ u := by omega
  have l122 : ¬ u ≤ 122 := by omega
  have l246 : ¬ u ≤ 246 := by omega
  have l254 : ¬ u ≤ 254 := by omega
  have l961 : u ≤ 961 := by omega
  have l969 : u ≤ 969 := by omega
  have l1103 : u ≤ 1103 := by omega
  have l311 : ¬ u ≤ 311 := by omega
  have l375 : u ≤ 375 := by omega
  have l1153 : u ≤ 1153 := by omega
  have l328 : u ≤ 328 := by omega
  have l1119 : u ≤ 1119 := by omega
  have e255 : ¬ u = 255 := by omega
  have e962 : ¬ u = 962 := by omega
  have hpar : ¬ u % 2 = 1 := by omega
  have hw : IntKind.u16.wrap (u - 1) = u - 1 := u16_in _ (by omega) (by omega)
  clear h0 h1 hm
  go_enter Tryd.func36, Tryd.ntmps36
  go_wp2
  all_goals (go_ret; exact ⟨rfl, rfl⟩)

theorem rup_13 (u : Int) (h0 : 329 ≤ u) (h1 : u ≤ 330) (w : World) : Calls Tryd.prog 36 #[.int .u16 u] w fun e w' => e = .returned (.int .u16 (upM u)) ∧ w' = w := by
  have hm : upM u = u := by
    unfold upM
    simp only [rowsL, upL]
    rw [if_neg (by simp only [hitR]; omega), if_neg (by simp only [hitR]; omega), if_neg (by simp only [hitR]; omega), if_neg (by simp only [hitR]; omega), if_neg (by simp only [hitR]; omega), if_neg (by simp only [hitR]; omega), if_neg (by simp only [hitR]; omega), if_neg (by simp only [hitR]; omega), if_neg (by simp only [hitR]; omega), if_neg (by simp only [hitR]; omega), if_neg (by simp only [hitR]; omega), if_neg (by simp only [hitR]; omega), if_neg (by simp only [hitR]; omega)]
  rw [hm]
  have g97 : 97 ≤ u := by omega
  have g224 : 224 ≤ u := by omega
  have g248 : 248 ≤ u := by omega
  have g945 : ¬ 945 ≤ u := by omega
  have g963 : ¬ 963 ≤ u := by omega
  have g1072 : ¬ 1072 ≤ u := by omega
  have g257 : 257 ≤ u := by omega
  have g331 : ¬ 331 ≤ u := by omega
  have g1121 : ¬ 1121 ≤ u := by omega
  have g314 : 314 ≤ u := by omega
  have g1104 : ¬ 1104 ≤ u := by omega
  have l122 : ¬ u ≤ 122 := by omega
  have l246 : ¬ u ≤ 246 := by omega
  have l254 : ¬ u ≤ 254 := by omega
  have l961 : u ≤ 961 := by omega
  have l969 : u ≤ 969 := by omega
  have l1103 : u ≤ 1103 := by omega
  have l311 : ¬ u ≤ 311 := by omega
  have l375 : u ≤ 375 := by omega
  have l1153 : u ≤ 1153 := by omega
  have l328 : ¬ u ≤ 328 := by omega
  have l1119 : u ≤ 1119 := by omega
  have e255 : ¬ u = 255 := by omega
  have e962 : ¬ u = 962 := by omega
  obtain ⟨q, hq⟩ : ∃ q : Bool, decide (u % 2 = 1) = q := ⟨_, rfl⟩
  clear h0 h1 hm
  go_enter Tryd.func36, Tryd.ntmps36
  go_wp2
  all_goals (go_ret; exact ⟨rfl, rfl⟩)

theorem rup_14 (u : Int) (h0 : 331 ≤ u) (h1 : u ≤ 375) (hp : u % 2 = 1) (w : World) : Calls Tryd.prog 36 #[.int .u16 u] w fun e w' => e = .returned (.int .u16 (upM u)) ∧ w' = w := by
  have hm : upM u = u - 1 := by
    unfold upM
    simp only [rowsL, upL]
    rw [if_neg (by simp only [hitR]; omega), if_neg (by simp only [hitR]; omega), if_neg (by simp only [hitR]; omega), if_neg (by simp only [hitR]; omega), if_neg (by simp only [hitR]; omega), if_neg (by simp only [hitR]; omega), if_pos (by simp only [hitR]; omega)]
    rfl
  rw [hm]
  have g97 : 97 ≤ u := by omega
  have g224 : 224 ≤ u := by omega
  have g248 : 248 ≤ u := by omega
  have g945 : ¬ 945 ≤ u := by omega
  have g963 : ¬ 963 ≤ u := by omega
  have g1072 : ¬ 1072 ≤ u := by omega
  have g257 : 257 ≤ u := by omega
  have g331 : 331 ≤ u := by omega
  have g1121 : ¬ 1121 ≤ u := by omega
  have g314 : 314 ≤ u := by omega
  have g1104 : ¬ 1104 ≤ u := by omega
  have l122 : ¬ u ≤ 122 := by omega
  have l246 : ¬ u ≤ 246 := by omega
  have l254 : ¬ u ≤ 254 := by omega
  have l961 : u ≤ 961 := by omega
  have l969 : u ≤ 969 := by omega
  have l1103 : u ≤ 1103 := by omega
  have l311 : ¬ u ≤ 311 := by omega
  have l375 : u ≤ 375 := by omega
  have l1153 : u ≤ 1153 := by omega
  have l328 : ¬ u ≤ 328 := by omega
  have l1119 : u ≤ 1119 := by omega
  have e255 : ¬ u = 255 := by omega
  have e962 : ¬ u = 962 := by omega
  have hpar : u % 2 = 1 := by omega
  have hw : IntKind.u16.wrap (u - 1) = u - 1 := u16_in _ (by omega) (by omega)
  clear h0 h1 hm
  go_enter Tryd.func36, Tryd.ntmps36
  go_wp2
  all_goals (go_ret; exact ⟨rfl, rfl⟩)

theorem rup_15 (u : Int) (h0 : 331 ≤ u) (h1 : u ≤ 375) (hp : u % 2 = 0) (w : World) : Calls Tryd.prog 36 #[.int .u16 u] w fun e w' => e = .returned (.int .u16 (upM u)) ∧ w' = w := by
  have hm : upM u = u := by
    unfold upM
    simp only [rowsL, upL]
    rw [if_neg (by simp only [hitR]; omega), if_neg (by simp only [hitR]; omega), if_neg (by simp only [hitR]; omega), if_neg (by simp only [hitR]; omega), if_neg (by simp only [hitR]; omega), if_neg (by simp only [hitR]; omega), if_neg (by simp only [hitR]; omega), if_neg (by simp only [hitR]; omega), if_neg (by simp only [hitR]; omega), if_neg (by simp only [hitR]; omega), if_neg (by simp only [hitR]; omega), if_neg (by simp only [hitR]; omega), if_neg (by simp only [hitR]; omega)]
  rw [hm]
  have g97 : 97 ≤ u := by omega
  have g224 : 224 ≤ u := by omega
  have g248 : 248 ≤ u := by omega
  have g945 : ¬ 945 ≤ u := by omega
  have g963 : ¬ 963 ≤ u := by omega
  have g1072 : ¬ 1072 ≤ u := by omega
  have g257 : 257 ≤ u := by omega
  have g331 : 331 ≤ u := by omega
  have g1121 : ¬ 1121 ≤ u := by omega
  have g314 : 314 ≤ u := by omega
  have g1104 : ¬ 1104 ≤ u := by omega
  have l122 : ¬ u ≤ 122 := by omega
  have l246 : ¬ u ≤ 246 := by omega
  have l254 : ¬ u ≤ 254 := by omega
  have l961 : u ≤ 961 := by omega
  have l969 : u ≤ 969 := by omega
  have l1103 : u ≤ 1103 := by omega
  have l311 : ¬ u ≤ 311 := by omega
  have l375 : u ≤ 375 := by omega
  have l1153 : u ≤ 1153 := by omega
  have l328 : ¬ u ≤ 328 := by omega
  have l1119 : u ≤ 1119 := by omega
  have e255 : ¬ u = 255 := by omega
  have e962 : ¬ u = 962 := by omega
  have hpar : ¬ u % 2 = 1 := by omega
  clear h0 h1 hm
  go_enter Tryd.func36, Tryd.ntmps36
  go_wp2
  all_goals (go_ret; exact ⟨rfl, rfl⟩)

theorem rup_16 (u : Int) (h0 : 376 ≤ u) (h1 : u ≤ 944) (w : World) : Calls Tryd.prog 36 #[.int .u16 u] w fun e w' => e = .returned (.int .u16 (upM u)) ∧ w' = w := by
  have hm : upM u = u := by
    unfold upM
    simp only [rowsL, upL]
    rw [if_neg (by simp only [hitR]; omega), if_neg (by simp only [hitR]; omega), if_neg (by simp only [hitR]; omega), if_neg (by simp only [hitR]; omega), if_neg (by simp only [hitR]; omega), if_neg (by simp only [hitR]; omega), if_neg (by simp only [hitR]; omega), if_neg (by simp only [hitR]; omega), if_neg (by simp only [hitR]; omega), if_neg (by simp only [hitR]; omega), if_neg (by simp only [hitR]; omega), if_neg (by simp only [hitR]; omega), if_neg (by simp only [hitR]; omega)]
  rw [hm]
  have g97 : 97 ≤ u := by omega
  have g224 : 224 ≤ u := by omega
  have g248 : 248 ≤ u := by omega
  have g945 : ¬ 945 ≤ u := by omega
  have g963 : ¬ 963 ≤ u := by omega
  have g1072 : ¬ 1072 ≤ u := by omega
  have g257 : 257 ≤ u := by omega
  have g331 : 331 ≤ u := by omega
  have g1121 : ¬ 1121 ≤ u := by omega
  have g314 : 314 ≤ u := by omega
  have g1104 : ¬ 1104 ≤ u := by omega
  have l122 : ¬ u ≤ 122 := by omega
  have l246 : ¬ u ≤ 246 := by omega
  have l254 : ¬ u ≤ 254 := by omega
  have l961 : u ≤ 961 := by omega
  have l969 : u ≤ 969 := by omega
  have l1103 : u ≤ 1103 := by omega
  have l311 : ¬ u ≤ 311 := by omega
  have l375 : ¬ u ≤ 375 := by omega
  have l1153 : u ≤ 1153 := by omega
  have l328 : ¬ u ≤ 328 := by omega
  have l1119 : u ≤ 1119 := by omega
  have e255 : ¬ u = 255 := by omega
  have e962 : ¬ u = 962 := by omega
  obtain ⟨q, hq⟩ : ∃ q : Bool, decide (u % 2 = 1) = q := ⟨_, rfl⟩
  clear h0 h1 hm
  go_enter Tryd.func36, Tryd.ntmps36
  go_wp2
  all_goals (go_ret; exact ⟨rfl, rfl⟩)

theorem rup_17 (u : Int) (h0 : 945 ≤ u) (h1 : u ≤ 961) (w : World) : Calls Tryd.prog 36 #[.int .u16 u] w fun e w' => e = .returned (.int .u16 (upM u)) ∧ w' = w := by
  have hm : upM u = u - 32 := by
    unfold upM
    simp only [rowsL, upL]
    rw [if_neg (by simp only [hitR]; omega), if_neg (by simp only [hitR]; omega), if_neg (by simp only [hitR]; omega), if_neg (by simp only [hitR]; omega), if_neg (by simp only [hitR]; omega), if_neg (by simp only [hitR]; omega), if_neg (by simp only [hitR]; omega), if_pos (by simp only [hitR]; omega)]
    rfl
  rw [hm]
  have g97 : 97 ≤ u := by omega
  have g224 : 224 ≤ u := by omega
  have g248 : 248 ≤ u := by omega
  have g945 : 945 ≤ u := by omega
  have g963 : ¬ 963 ≤ u := by omega
  have g1072 : ¬ 1072 ≤ u := by omega
  have g257 : 257 ≤ u := by omega
  have g331 : 331 ≤ u := by omega
  have g1121 : ¬ 1121 ≤ u := by omega
  have g314 : 314 ≤ u := by omega
  have g1104 : ¬ 1104 ≤ u := by omega
  have l122 : ¬ u ≤ 122 := by omega
  have l246 : ¬ u ≤ 246 := by omega
  have l254 : ¬ u ≤ 254 := by omega
  have l961 : u ≤ 961 := by omega
  have l969 : u ≤ 969 := by omega
  have l1103 : u ≤ 1103 := by omega
  have l311 : ¬ u ≤ 311 := by omega
  have l375 : ¬ u ≤ 375 := by omega
  have l1153 : u ≤ 1153 := by omega
  have l328 : ¬ u ≤ 328 := by omega
  have l1119 : u ≤ 1119 := by omega
  have e255 : ¬ u = 255 := by omega
  have e962 : ¬ u = 962 := by omega
  obtain ⟨q, hq⟩ : ∃ q : Bool, decide (u % 2 = 1) = q := ⟨_, rfl⟩
  have hw : IntKind.u16.wrap (u - 32) = u - 32 := u16_in _ (by omega) (by omega)
  clear h0 h1 hm
  go_enter Tryd.func36, Tryd.ntmps36
  go_wp2
  all_goals (go_ret; exact ⟨rfl, rfl⟩)

theorem rup_18 (u : Int) (h0 : 962 ≤ u) (h1 : u ≤ 962) (w : World) : Calls Tryd.prog 36 #[.int .u16 u] w fun e w' => e = .returned (.int .u16 (upM u)) ∧ w' = w := by
  have hm : upM u = 931 := by
    unfold upM
    simp only [rowsL, upL]
    rw [if_neg (by simp only [hitR]; omega), if_neg (by simp only [hitR]; omega), if_neg (by simp only [hitR]; omega), if_neg (by simp only [hitR]; omega), if_neg (by simp only [hitR]; omega), if_neg (by simp only [hitR]; omega), if_neg (by simp only [hitR]; omega), if_neg (by simp only [hitR]; omega), if_pos (by simp only [hitR]; omega)]
    omega
  rw [hm]
  have g97 : 97 ≤ u := by omega
  have g224 : 224 ≤ u := by omega
  have g248 : 248 ≤ u := by omega
  have g945 : 945 ≤ u := by omega
  have g963 : ¬ 963 ≤ u := by omega
  have g1072 : ¬ 1072 ≤ u := by omega
  have g257 : 257 ≤ u := by omega
  have g331 : 331 ≤ u := by omega
  have g1121 : ¬ 1121 ≤ u := by omega
  have g314 : 314 ≤ u := by omega
  have g1104 : ¬ 1104 ≤ u := by omega
  have l122 : ¬ u ≤ 122 := by omega
  have l246 : ¬ u ≤ 246 := by omega
  have l254 : ¬ u ≤ 254 := by omega
  have l961 : ¬ u ≤ 961 := by omega
  have l969 : u ≤ 969 := by omega
  have l1103 : u ≤ 1103 := by omega
  have l311 : ¬ u ≤ 311 := by omega
  have l375 : ¬ u ≤ 375 := by omega
  have l1153 : u ≤ 1153 := by omega
  have l328 : ¬ u ≤ 328 := by omega
  have l1119 : u ≤ 1119 := by omega
  have e255 : ¬ u = 255 := by omega
  have e962 : u = 962 := by omega
  obtain ⟨q, hq⟩ : ∃ q : Bool, decide (u % 2 = 1) = q := ⟨_, rfl⟩
  clear h0 h1 hm
  go_enter Tryd.func36, Tryd.ntmps36
  go_wp2
  all_goals (go_ret; exact ⟨rfl, rfl⟩)

theorem rup_19 (u : Int) (h0 : 963 ≤ u) (h1 : u ≤ 969) (w : World) : Calls Tryd.prog 36 #[.int .u16 u] w fun e w' => e = .returned (.int .u16 (upM u)) ∧ w' = w := by
  have hm : upM u = u - 32 := by
    unfold upM
    simp only [rowsL, upL]
    rw [if_neg (by simp only [hitR]; omega), if_neg (by simp only [hitR]; omega), if_neg (by simp only [hitR]; omega), if_neg (by simp only [hitR]; omega), if_neg (by simp only [hitR]; omega), if_neg (by simp only [hitR]; omega), if_neg (by simp only [hitR]; omega), if_neg (by simp only [hitR]; omega), if_neg (by simp only [hitR]; omega), if_pos (by simp only [hitR]; omega)]
    rfl
  rw [hm]
  have g97 : 97 ≤ u := by omega
  have g224 : 224 ≤ u := by omega
  have g248 : 248 ≤ u := by omega
  have g945 : 945 ≤ u := by omega
  have g963 : 963 ≤ u := by omega
  have g1072 : ¬ 1072 ≤ u := by omega
  have g257 : 257 ≤ u := by omega
  have g331 : 331 ≤ u := by omega
  have g1121 : ¬ 1121 ≤ u := by omega
  have g314 : 314 ≤ u := by omega
  have g1104 : ¬ 1104 ≤ u := by omega
  have l122 : ¬ u ≤ 122 := by omega
  have l246 : ¬ u ≤ 246 := by omega
  have l254 : ¬ u ≤ 254 := by omega
  have l961 : ¬ u ≤ 961 := by omega
  have l969 : u ≤ 969 := by omega
  have l1103 : u ≤ 1103 := by omega
  have l311 : ¬ u ≤ 311 := by omega
  have l375 : ¬ u ≤ 375 := by omega
  have l1153 : u ≤ 1153 := by omega
  have l328 : ¬ u ≤ 328 := by omega
  have l1119 : u ≤ 1119 := by omega
  have e255 : ¬ u = 255 := by omega
  have e962 : ¬ u = 962 := by omega
  obtain ⟨q, hq⟩ : ∃ q : Bool, decide (u % 2 = 1) = q := ⟨_, rfl⟩
  have hw : IntKind.u16.wrap (u - 32) = u - 32 := u16_in _ (by omega) (by omega)
  clear h0 h1 hm
  go_enter Tryd.func36, Tryd.ntmps36
  go_wp2
  all_goals (go_ret; exact ⟨rfl, rfl⟩)

theorem rup_20 (u : Int) (h0 : 970 ≤ u) (h1 : u ≤ 1071) (w : World) : Calls Tryd.prog 36 #[.int .u16 u] w fun e w' => e = .returned (.int .u16 (upM u)) ∧ w' = w := by
  have hm : upM u = u := by
    unfold upM
    simp only [rowsL, upL]
    rw [if_neg (by simp only [hitR]; omega), if_neg (by simp only [hitR]; omega), if_neg (by simp only [hitR]; omega), if_neg (by simp only [hitR]; omega), if_neg (by simp only [hitR]; omega), if_neg (by simp only [hitR]; omega), if_neg (by simp only [hitR]; omega), if_neg (by simp only [hitR]; omega), if_neg (by simp only [hitR]; omega), if_neg (by simp only [hitR]; omega), if_neg (by simp only [hitR]; omega), if_neg (by simp only [hitR]; omega), if_neg (by simp only [hitR]; omega)]
  rw [hm]
  have g97 : 97 ≤ u := by omega
  have g224 : 224 ≤ u := by omega
  have g248 : 248 ≤ u := by omega
  have g945 : 945 ≤ u := by omega
  have g963 : 963 ≤ u := by omega
  have g1072 : ¬ 1072 ≤ u := by omega
  have g257 : 257 ≤ u := by omega
  have g331 : 331 ≤ u := by omega
  have g1121 : ¬ 1121 ≤ u := by omega
  have g314 : 314 ≤ u := by omega
  have g1104 : ¬ 1104 ≤ u := by omega
  have l122 : ¬ u ≤ 122 := by omega
  have l246 : ¬ u ≤ 246 := by omega
  have l254 : ¬ u ≤ 254 := by omega
  have l961 : ¬ u ≤ 961 := by omega
  have l969 : ¬ u ≤ 969 := by omega
  have l1103 : u ≤ 1103 := by omega
  have l311 : ¬ u ≤ 311 := by omega
  have l375 : ¬ u ≤ 375 := by omega
  have l1153 : u ≤ 1153 := by omega
  have l328 : ¬ u ≤ 328 := by omega
  have l1119 : u ≤ 1119 := by omega
  have e255 : ¬ u = 255 := by omega
  have e962 : ¬ u = 962 := by omega
  obtain ⟨q, hq⟩ : ∃ q : Bool, decide (u % 2 = 1) = q := ⟨_, rfl⟩
  clear h0 h1 hm
  go_enter Tryd.func36, Tryd.ntmps36
  go_wp2
  all_goals (go_ret; exact ⟨rfl, rfl⟩)

theorem rup_21 (u : Int) (h0 : 1072 ≤ u) (h1 : u ≤ 1103) (w : World) : Calls Tryd.prog 36 #[.int .u16 u] w fun e w' => e = .returned (.int .u16 (upM u)) ∧ w' = w := by
  have hm : upM u = u - 32 := by
    unfold upM
    simp only [rowsL, upL]
    rw [if_neg (by simp only [hitR]; omega), if_neg (by simp only [hitR]; omega), if_neg (by simp only [hitR]; omega), if_neg (by simp only [hitR]; omega), if_neg (by simp only [hitR]; omega), if_neg (by simp only [hitR]; omega), if_neg (by simp only [hitR]; omega), if_neg (by simp only [hitR]; omega), if_neg (by simp only [hitR]; omega), if_neg (by simp only [hitR]; omega), if_pos (by simp only [hitR]; omega)]
    rfl
  rw [hm]
  have g97 : 97 ≤ u := by omega
  have g224 : 224 ≤ u := by omega
  have g248 : 248 ≤ u := by omega
  have g945 : 945 ≤ u := by omega
  have g963 : 963 ≤ u := by omega
  have g1072 : 1072 ≤ u := by omega
  have g257 : 257 ≤ u := by omega
  have g331 : 331 ≤ u := by omega
  have g1121 : ¬ 1121 ≤ u := by omega
  have g314 : 314 ≤ u := by omega
  have g1104 : ¬ 1104 ≤ u := by omega
  have l122 : ¬ u ≤ 122 := by omega
  have l246 : ¬ u ≤ 246 := by omega
  have l254 : ¬ u ≤ 254 := by omega
  have l961 : ¬ u ≤ 961 := by omega
  have l969 : ¬ u ≤ 969 := by omega
  have l1103 : u ≤ 1103 := by omega
  have l311 : ¬ u ≤ 311 := by omega
  have l375 : ¬ u ≤ 375 := by omega
  have l1153 : u ≤ 1153 := by omega
  have l328 : ¬ u ≤ 328 := by omega
  have l1119 : u ≤ 1119 := by omega
  have e255 : ¬ u = 255 := by omega
  have e962 : ¬ u = 962 := by omega
  obtain ⟨q, hq⟩ : ∃ q : Bool, decide (u % 2 = 1) = q := ⟨_, rfl⟩
  have hw : IntKind.u16.wrap (u - 32) = u - 32 := u16_in _ (by omega) (by omega)
  clear h0 h1 hm
  go_enter Tryd.func36, Tryd.ntmps36
  go_wp2
  all_goals (go_ret; exact ⟨rfl, rfl⟩)

theorem rup_22 (u : Int) (h0 : 1104 ≤ u) (h1 : u ≤ 1119) (w : World) : Calls Tryd.prog 36 #[.int .u16 u] w fun e w' => e = .returned (.int .u16 (upM u)) ∧ w' = w := by
  have hm : upM u = u - 80 := by
    unfold upM
    simp only [rowsL, upL]
    rw [if_neg (by simp only [hitR]; omega), if_neg (by simp only [hitR]; omega), if_neg (by simp only [hitR]; omega), if_neg (by simp only [hitR]; omega), if_neg (by simp only [hitR]; omega), if_neg (by simp only [hitR]; omega), if_neg (by simp only [hitR]; omega), if_neg (by simp only [hitR]; omega), if_neg (by simp only [hitR]; omega), if_neg (by simp only [hitR]; omega), if_neg (by simp only [hitR]; omega), if_pos (by simp only [hitR]; omega)]
    rfl
  rw [hm]
  have g97 : 97 ≤ u := by omega
  have g224 : 224 ≤ u := by omega
  have g248 : 248 ≤ u := by omega
  have g945 : 945 ≤ u := by omega
  have g963 : 963 ≤ u := by omega
  have g1072 : 1072 ≤ u := by omega
  have g257 : 257 ≤ u := by omega
  have g331 : 331 ≤ u := by omega
  have g1121 : ¬ 1121 ≤ u := by omega
  have g314 : 314 ≤ u := by omega
  have g1104 : 1104 ≤ u := by omega
  have l122 : ¬ u ≤ 122 := by omega
  have l246 : ¬ u ≤ 246 := by omega
  have l254 : ¬ u ≤ 254 := by omega
  have l961 : ¬ u ≤ 961 := by omega
  have l969 : ¬ u ≤ 969 := by omega
  have l1103 : ¬ u ≤ 1103 := by omega
  have l311 : ¬ u ≤ 311 := by omega
  have l375 : ¬ u ≤ 375 := by omega
  have l1153 : u ≤ 1153 := by omega
  have l328 : ¬ u ≤ 328 := by omega
  have l1119 : u ≤ 1119 := by omega
  have e255 : ¬ u = 255 := by omega
  have e962 : ¬ u = 962 := by omega
  obtain ⟨q, hq⟩ : ∃ q : Bool, decide (u % 2 = 1) = q := ⟨_, rfl⟩
  have hw : IntKind.u16.wrap (u - 80) = u - 80 := u16_in _ (by omega) (by omega)
  clear h0 h1 hm
  go_enter Tryd.func36, Tryd.ntmps36
  go_wp2
  all_goals (go_ret; exact ⟨rfl, rfl⟩)

theorem rup_23 (u : Int) (h0 : 1120 ≤ u) (h1 : u ≤ 1120) (w : World) : Calls Tryd.prog 36 #[.int .u16 u] w fun e w' => e = .returned (.int .u16 (upM u)) ∧ w' = w := by
  have hm : upM u = u := by
    unfold upM
    simp only [rowsL, upL]
    rw [if_neg (by simp only [hitR]; omega), if_neg (by simp only [hitR]; omega), if_neg (by simp only [hitR]; omega), if_neg (by simp only [hitR]; omega), if_neg (by simp only [hitR]; omega), if_neg (by simp only [hitR]; omega), if_neg (by simp only [hitR]; omega), if_neg (by simp only [hitR]; omega), if_neg (by simp only [hitR]; omega), if_neg (by simp only [hitR]; omega), if_neg (by simp only [hitR]; omega), if_neg (by simp only [hitR]; omega), if_neg (by simp only [hitR]; omega)]
  rw [hm]
  have g97 : 97 ≤ u := by omega
  have g224 : 224 ≤ u := by omega
  have g248 : 248 ≤ u := by omega
  have g945 : 945 ≤ u := by omega
  have g963 : 963 ≤ u := by omega
  have g1072 : 1072 ≤ u := by omega
  have g257 : 257 ≤ u := by omega
  have g331 : 331 ≤ u := by omega
  have g1121 : ¬ 1121 ≤ u := by omega
  have g314 : 314 ≤ u := by omega
  have g1104 : 1104 ≤ u := by omega
  have l122 : ¬ u ≤ 122 := by omega
  have l246 : ¬ u ≤ 246 := by omega
  have l254 : ¬ u ≤ 254 := by omega
  have l961 : ¬ u ≤ 961 := by omega
  have l969 : ¬ u ≤ 969 := by omega
  have l1103 : ¬ u ≤ 1103 := by omega
  have l311 : ¬ u ≤ 311 := by omega
  have l375 : ¬ u ≤ 375 := by omega
  have l1153 : u ≤ 1153 := by omega
  have l328 : ¬ u ≤ 328 := by omega
  have l1119 : ¬ u ≤ 1119 := by omega
  have e255 : ¬ u = 255 := by omega
  have e962 : ¬ u = 962 := by omega
  obtain ⟨q, hq⟩ : ∃ q : Bool, decide (u % 2 = 1) = q := ⟨_, rfl⟩
  clear h0 h1 hm
  go_enter Tryd.func36, Tryd.ntmps36
  go_wp2
  all_goals (go_ret; exact ⟨rfl, rfl⟩)

theorem rup_24 (u : Int) (h0 : 1121 ≤ u) (h1 : u ≤ 1153) (hp : u % 2 = 1) (w : World) : Calls Tryd.prog 36 #[.int .u16 u] w fun e w' => e = .returned (.int .u16 (upM u)) ∧ w' = w := by
  have hm : upM u = u - 1 := by
    unfold upM
    simp only [rowsL, upL]
    rw [if_neg (by simp only [hitR]; omega), if_neg (by simp only [hitR]; omega), if_neg (by simp only [hitR]; omega), if_neg (by simp only [hitR]; omega), if_neg (by simp only [hitR]; omega), if_neg (by simp only [hitR]; omega), if_neg (by simp only [hitR]; omega), if_neg (by simp only [hitR]; omega), if_neg (by simp only [hitR]; omega), if_neg (by simp only [hitR]; omega), if_neg (by simp only [hitR]; omega), if_neg (by simp only [hitR]; omega), if_pos (by simp only [hitR]; omega)]
    rfl
  rw [hm]
  have g97 : 97 ≤ u := by omega
  have g224 : 224 ≤ u := by omega
  have g248 : 248 ≤ u := by omega
  have g945 : 945 ≤ u := by omega
  have g963 : 963 ≤ u := by omega
  have g1072 : 1072 ≤ u := by omega
  have g257 : 257 ≤ u := by omega
  have g331 : 331 ≤ u := by omega
  have g1121 : 1121 ≤ u := by omega
  have g314 : 314 ≤ u := by omega
  have g1104 : 1104 ≤ u := by omega
  have l122 : ¬ u ≤ 122 := by omega
  have l246 : ¬ u ≤ 246 := by omega
  have l254 : ¬ u ≤ 254 := by omega
  have l961 : ¬ u ≤ 961 := by omega
  have l969 : ¬ u ≤ 969 := by omega
  have l1103 : ¬ u ≤ 1103 := by omega
  have l311 : ¬ u ≤ 311 := by omega
  have l375 : ¬ u ≤ 375 := by omega
  have l1153 : u ≤ 1153 := by omega
  have l328 : ¬ u ≤ 328 := by omega
  have l1119 : ¬ u ≤ 1119 := by omega
  have e255 : ¬ u = 255 := by omega
  have e962 : ¬ u = 962 := by omega
  have hpar : u % 2 = 1 := by omega
  have hw : IntKind.u16.wrap (u - 1) = u - 1 := u16_in _ (by omega) (by omega)
  clear h0 h1 hm
  go_enter Tryd.func36, Tryd.ntmps36
  go_wp2
  all_goals (go_ret; exact ⟨rfl, rfl⟩)

theorem rup_25 (u : Int) (h0 : 1121 ≤ u) (h1 : u ≤ 1153) (hp : u % 2 = 0) (w : World) : Calls Tryd.prog 36 #[.int .u16 u] w fun e w' => e = .returned (.int .u16 (upM u)) ∧ w' = w := by
  have hm : upM u = u := by
    unfold upM
    simp only [rowsL, upL]
    rw [if_neg (by simp only [hitR]; omega), if_neg (by simp only [hitR]; omega), if_neg (by simp only [hitR]; omega), if_neg (by simp only [hitR]; omega), if_neg (by simp only [hitR]; omega), if_neg (by simp only [hitR]; omega), if_neg (by simp only [hitR]; omega), if_neg (by simp only [hitR]; omega), if_neg (by simp only [hitR]; omega), if_neg (by simp only [hitR]; omega), if_neg (by simp only [hitR]; omega), if_neg (by simp only [hitR]; omega), if_neg (by simp only [hitR]; omega)]
  rw [hm]
  have g97 : 97 ≤ u := by omega
  have g224 : 224 ≤ u := by omega
  have g248 : 248 ≤ u := by omega
  have g945 : 945 ≤ u := by omega
  have g963 : 963 ≤ u := by omega
  have g1072 : 1072 ≤ u := by omega
  have g257 : 257 ≤ u := by omega
  have g331 : 331 ≤ u := by omega
  have g1121 : 1121 ≤ u := by omega
  have g314 : 314 ≤ u := by omega
  have g1104 : 1104 ≤ u := by omega
  have l122 : ¬ u ≤ 122 := by omega
  have l246 : ¬ u ≤ 246 := by omega
  have l254 : ¬ u ≤ 254 := by omega
  have l961 : ¬ u ≤ 961 := by omega
  have l969 : ¬ u ≤ 969 := by omega
  have l1103 : ¬ u ≤ 1103 := by omega
  have l311 : ¬ u ≤ 311 := by omega
  have l375 : ¬ u ≤ 375 := by omega
  have l1153 : u ≤ 1153 := by omega
  have l328 : ¬ u ≤ 328 := by omega
  have l1119 : ¬ u ≤ 1119 := by omega
  have e255 : ¬ u = 255 := by omega
  have e962 : ¬ u = 962 := by omega
  have hpar : ¬ u % 2 = 1 := by omega
  clear h0 h1 hm
  go_enter Tryd.func36, Tryd.ntmps36
  go_wp2
  all_goals (go_ret; exact ⟨rfl, rfl⟩)

theorem rup_26 (u : Int) (h0 : 1154 ≤ u) (h1 : u ≤ 65535) (w : World) : Calls Tryd.prog 36 #[.int .u16 u] w fun e w' => e = .returned (.int .u16 (upM u)) ∧ w' = w := by
  have hm : upM u = u := by
    unfold upM
    simp only [rowsL, upL]
    rw [if_neg (by simp only [hitR]; omega), if_neg (by simp only [hitR]; omega), if_neg (by simp only [hitR]; omega), if_neg (by simp only [hitR]; omega), if_neg (by simp only [hitR]; omega), if_neg (by simp only [hitR]; omega), if_neg (by simp only [hitR]; omega), if_neg (by simp only [hitR]; omega), if_neg (by simp only [hitR]; omega), if_neg (by simp only [hitR]; omega), if_neg (by simp only [hitR]; omega), if_neg (by simp only [hitR]; omega), if_neg (by simp only [hitR]; omega)]
  rw [hm]
  have g97 : 97 ≤ u := by omega
  have g224 : 224 ≤ u := by omega
  have g248 : 248 ≤ u := by omega
  have g945 : 945 ≤ u := by omega
  have g963 : 963 ≤ u := by omega
  have g1072 : 1072 ≤ u := by omega
  have g257 : 257 ≤ u := by omega
  have g331 : 331 ≤ u := by omega
  have g1121 : 1121 ≤ u := by omega
  have g314 : 314 ≤ u := by omega
  have g1104 : 1104 ≤ u := by omega
  have l122 : ¬ u ≤ 122 := by omega
  have l246 : ¬ u ≤ 246 := by omega
  have l254 : ¬ u ≤ 254 := by omega
  have l961 : ¬ u ≤ 961 := by omega
  have l969 : ¬ u ≤ 969 := by omega
  have l1103 : ¬ u ≤ 1103 := by omega
  have l311 : ¬ u ≤ 311 := by omega
  have l375 : ¬ u ≤ 375 := by omega
  have l1153 : ¬ u ≤ 1153 := by omega
  have l328 : ¬ u ≤ 328 := by omega
  have l1119 : ¬ u ≤ 1119 := by omega
  have e255 : ¬ u = 255 := by omega
  have e962 : ¬ u = 962 := by omega
  obtain ⟨q, hq⟩ : ∃ q : Bool, decide (u % 2 = 1) = q := ⟨_, rfl⟩
  clear h0 h1 hm
  go_enter Tryd.func36, Tryd.ntmps36
  go_wp2
  all_goals (go_ret; exact ⟨rfl, rfl⟩)

theorem rup_any (u : Int) (h0 : 0 ≤ u) (h1 : u ≤ 65535) (w : World) : Calls Tryd.prog 36 #[.int .u16 u] w fun e w' => e = .returned (.int .u16 (upM u)) ∧ w' = w := by
  by_cases b0 : u ≤ 96
  · exact rup_0 u (by omega) b0 w
  by_cases b1 : u ≤ 122
  · exact rup_1 u (by omega) b1 w
  by_cases b2 : u ≤ 223
  · exact rup_2 u (by omega) b2 w
  by_cases b3 : u ≤ 246
  · exact rup_3 u (by omega) b3 w
  by_cases b4 : u ≤ 247
  · exact rup_4 u (by omega) b4 w
  by_cases b5 : u ≤ 254
  · exact rup_5 u (by omega) b5 w
  by_cases b6 : u ≤ 255
  · exact rup_6 u (by omega) b6 w
  by_cases b7 : u ≤ 256
  · exact rup_7 u (by omega) b7 w
  by_cases b8 : u ≤ 311
  · by_cases hp : u % 2 = 1
    · exact rup_8 u (by omega) b8 hp w
    · exact rup_9 u (by omega) b8 (by omega) w
  by_cases b10 : u ≤ 313
  · exact rup_10 u (by omega) b10 w
  by_cases b11 : u ≤ 328
  · by_cases hp : u % 2 = 1
    · exact rup_11 u (by omega) b11 hp w
    · exact rup_12 u (by omega) b11 (by omega) w
  by_cases b13 : u ≤ 330
  · exact rup_13 u (by omega) b13 w
  by_cases b14 : u ≤ 375
  · by_cases hp : u % 2 = 1
    · exact rup_14 u (by omega) b14 hp w
    · exact rup_15 u (by omega) b14 (by omega) w
  by_cases b16 : u ≤ 944
  · exact rup_16 u (by omega) b16 w
  by_cases b17 : u ≤ 961
  · exact rup_17 u (by omega) b17 w
  by_cases b18 : u ≤ 962
  · exact rup_18 u (by omega) b18 w
  by_cases b19 : u ≤ 969
  · exact rup_19 u (by omega) b19 w
  by_cases b20 : u ≤ 1071
  · exact rup_20 u (by omega) b20 w
  by_cases b21 : u ≤ 1103
  · exact rup_21 u (by omega) b21 w
  by_cases b22 : u ≤ 1119
  · exact rup_22 u (by omega) b22 w
  by_cases b23 : u ≤ 1120
  · exact rup_23 u (by omega) b23 w
  by_cases b24 : u ≤ 1153
  · by_cases hp : u % 2 = 1
    · exact rup_24 u (by omega) b24 hp w
    · exact rup_25 u (by omega) b24 (by omega) w
  exact rup_26 u (by omega) (by omega) w
end Go.Proofs.YtmbdiimenmnfjaaDoor
/- Walks: the document's order, Raised, Compare, Same. -/
namespace Go.Proofs.YtmbdiimenmnfjaaDoor
open Go.RowKit Go.Deep
open Go.Proofs.YtmbdiimenmnfjaaDoor.PNamesNames
open Go.Proofs.YtmbdiimenmnfjaaDoorW.PrintWords (rd bt Drawn0 Kd)
set_option linter.unusedVariables false
set_option linter.unusedSimpArgs false

theorem order_l (x y : List Int) (hx : x.length ≤ 1000000) : ∀ (k i : Nat), i ≤ x.length → i ≤ y.length → 2 * x.length + 2 < 2 * i + k → archivoltref05_order.l0 k x y (i : Int) = some (cmpU (x.drop i) (y.drop i))
  | 0, i, h1, h2, h3 => by omega
  | 1, i, h1, h2, h3 => by omega
  | k + 2, i, h1, h2, h3 => by
    rw [archivoltref05_order.l0]
    by_cases hi : i < x.length
    · rw [if_pos (by omega)]
      by_cases hj : i < y.length
      · have e1 : decide ((i : Int) < (y.length : Int)) = true := by rw [decide_eq_true_eq]; omega
        have ex : rd x (i : Int) = x.getD i 0 := rfl
        have ey : rd y (i : Int) = y.getD i 0 := rfl
        rw [e1, archivoltref05_order.j1, if_pos rfl, if_pos (by omega), if_pos (by omega), if_pos (by omega), ex, ey, drop_cons hi, drop_cons hj]
        simp only [cmpU]
        by_cases q1 : x.getD i 0 < y.getD i 0
        · rw [if_pos q1, if_pos q1]
        · rw [if_neg q1, if_neg q1]
          by_cases q2 : x.getD i 0 > y.getD i 0
          · rw [if_pos q2, if_pos q2]
          · have ew : wrap64 ((i : Int) + 1) = ((i + 1 : Nat) : Int) := by rw [w64 _ (by omega) (by omega)]; rfl
            rw [if_neg q2, if_neg q2, ew]
            exact order_l x y hx k (i + 1) (by omega) (by omega) (by omega)
      · have e1 : decide ((i : Int) < (y.length : Int)) = false := by rw [decide_eq_false_iff_not]; omega
        rw [e1, archivoltref05_order.j1, if_neg (by decide), drop_cons hi, List.drop_eq_nil_of_le (by omega : y.length ≤ i), if_neg (by omega), if_pos (by omega)]
        rfl
    · rw [if_neg (by omega), archivoltref05_order.j1, if_neg (by decide), List.drop_eq_nil_of_le (by omega : x.length ≤ i)]
      by_cases hj : i < y.length
      · rw [if_pos (by omega), drop_cons hj]; rfl
      · rw [if_neg (by omega), if_neg (by omega), List.drop_eq_nil_of_le (by omega : y.length ≤ i)]; rfl
theorem rorder_any (A0 A1 : Option Addr) (c0 c1 : Nat) (x y : List Int) (w : World) (h0 : Rd w .u16 A0 x.length x) (h1 : Rd w .u16 A1 y.length y) (k0 : x.length ≤ c0) (k1 : y.length ≤ c1) (hl : x.length ≤ 1000000) :
    Calls Tryd.prog 53 #[.slice A0 x.length c0, .slice A1 y.length c1] w fun e w' => e = .returned (.int .i64 (cmpU x y)) ∧ Drawn w w' :=
  (archivoltref05_order.calls (2 * x.length + 3) A0 c0 x A1 c1 y (cmpU x y) w (rdC h0) k0 (rdC h1) k1 (by
    unfold archivoltref05_order.f
    exact order_l x y hl (2 * x.length + 3) 0 (by omega) (by omega) (by omega))).mono fun e w' h => ⟨h.1, drawn0 h.2⟩
theorem rorder_up (A0 A1 : Option Addr) (c0 c1 : Nat) (x y : List Int) (w : World) (h0 : Rd w .u16 A0 x.length (x.map upM)) (h1 : Rd w .u16 A1 y.length (y.map upM)) (k0 : x.length ≤ c0) (k1 : y.length ≤ c1) (hl : x.length ≤ 1000000) :
    Calls Tryd.prog 53 #[.slice A0 x.length c0, .slice A1 y.length c1] w fun e w' => e = .returned (.int .i64 (cmpU (x.map upM) (y.map upM))) ∧ Drawn w w' := by
  have := rorder_any A0 A1 c0 c1 (x.map upM) (y.map upM) w (by rw [map_len]; exact h0) (by rw [map_len]; exact h1) (by rw [map_len]; exact k0) (by rw [map_len]; exact k1) (by rw [map_len]; exact hl)
  rwa [map_len, map_len] at this
theorem runits_ok (s : ByteArray) (hs : s.size ≤ 100000) (x : List Int) (hg : getU s = some x) (w : World) :
    Calls Tryd.prog 34 #[.string s] w fun e w' => (∃ A c, e = .returned (.agg #[.slice A x.length c, .int .i64 0]) ∧ x.length ≤ c ∧ Rd w' .u16 A x.length x) ∧ Below w.heap.size w w' := by
  have h := runits_any s hs w
  have e : refU s = (x, 0) := by unfold refU; rw [hg]
  rw [e] at h
  exact h
theorem runits_no (s : ByteArray) (hs : s.size ≤ 100000) (hg : getU s = none) (w : World) :
    Calls Tryd.prog 34 #[.string s] w fun e w' => (∃ A c, e = .returned (.agg #[.slice A 0 c, .int .i64 4])) ∧ Below w.heap.size w w' := by
  have h := runits_any s hs w
  have e : refU s = ([], 4) := by unfold refU; rw [hg]
  rw [e] at h
  exact h.mono fun e w' ⟨⟨A, c, he, _⟩, hB⟩ => ⟨⟨_, _, he⟩, hB⟩

set_option maxRecDepth 100000 in
set_option maxHeartbeats 4000000 in
theorem rraised_any (A : Option Addr) (c : Nat) (xs : List Int) (hn : xs.length ≤ 40000) (hx : U16 xs) (w : World) (hR : Rd w .u16 A xs.length xs) :
    Calls Tryd.prog 39 #[.slice A xs.length c] w fun e w' => (∃ A' c', e = .returned (.slice A' xs.length c') ∧ xs.length ≤ c' ∧ Rd w' .u16 A' xs.length (xs.map upM)) ∧ Below w.heap.size w w' := by
  obtain ⟨i0, hi, hz0, hz1, hz2⟩ := info_parts info46
  have HR := Lib.hid hR
  have HX := Lib.hid hx
  clear hR hx
  go_enter Tryd.func39, Tryd.ntmps39
  go_wp2
  go_loopw [3, 4] (fun v i W => ∃ j : Nat, j ≤ xs.length ∧ i = .int .i64 j ∧ Hid (W.ownsRow w.heap.size 46 1 v j (numK .u16 ((xs.take j).map upM))) ∧ Hid (Below w.heap.size w W)) (fun _ i _ => xs.length - (intOf i).toNat)
  case atStart => exact ⟨0, by omega, rfl, Lib.hid (World.ownsRow_nil _ _ _ _), Lib.hid (Below.refl _ _)⟩
  case round =>
    obtain ⟨j, hj, rfl, HO, HB⟩ := hrel
    obtain ⟨Aq, cq, rfl, hcq⟩ := own_is_slice HO.out
    by_cases hlt : j < xs.length
    · have hlti : (j : Int) < xs.length := by omega
      obtain ⟨ad, hA, hcl⟩ := (HR.out.below HB.out).at_ j hlt
      subst hA
      obtain ⟨x, hx⟩ : ∃ x, xs.getD j 0 = x := ⟨_, rfl⟩
      have hxb := HX.out.get j
      rw [hx] at hcl hxb
      have htk : (xs.take (j + 1)).map upM = (xs.take j).map upM ++ [upM x] := by rw [List.take_add_one, ← hx, List.getD_eq_getElem?_getD, List.getElem?_eq_getElem hlt, List.map_append]; rfl
      obtain ⟨U, hU⟩ : ∃ U, upM x = U := ⟨_, rfl⟩
      rw [hU] at htk
      have HTK := Lib.hid htk
      have HU := Lib.hid hU
      have hbs := HB.out.size
      clear hx htk hU
      go_wp2_with (first
        | (go_at_call 36; refine (rup_any x (by omega) (by omega) _).mono ?_; rintro e w2 ⟨rfl, rfl⟩; rw [HU.out])
        | (at_builtin; refine wpList_append_own _ rfl _ _ 49 rfl w.heap.size 46 i0 (.int .u16 0) 1 2 Tryd.underlying49 hi hz0 hz1 hz2 rfl (by decide) _ j (numK .u16 ((xs.take j).map upM)) rfl (World.ownsRow.alloc HO.out _) ⟨_, 0, none⟩ 1 1 [.int .u16 U] rfl rfl (cell_new1 _ _ rfl _ _) (by simp [Value.oneCell']) (by simp only [maxLen]; omega) (by omega) (by simp; omega) ?_; intro v' w6 hown6 hgrow6 _; (have HQ6 := Lib.hid hown6); (have HB6 := Lib.hid ((below_al HB.out _).grown hgrow6 (by simp; omega) (fun kk hk => (HO.out.lt kk hk).1))); clear hown6 hgrow6))
      refine ⟨⟨j + 1, by omega, by simp, Lib.hid ?_, HB6⟩, by simp only [intOf]; omega⟩
      rw [HTK.out, numK_append]
      exact HQ6.out
    · have hie : j = xs.length := by omega
      subst hie
      have hlti : ¬ ((xs.length : Int) < xs.length) := by omega
      go_wp2
      go_ret
      have hO := HO.out
      rw [List.take_of_length_le (Nat.le_refl _)] at hO
      obtain ⟨A', c', e, hc', hRd, -⟩ := own_nums hO (by omega)
      cases e
      exact ⟨⟨_, _, rfl, hc', hRd⟩, HB.out⟩

theorem Rd.drew1 {w : World} {k : IntKind} {A : Option Addr} {n : Nat} {xs : List Int} (h : Rd w k A n xs) : Rd w.drew k A n xs := ⟨h.len, h.max, fun j hj => let ⟨ad, e, hc⟩ := h.at_ j hj; ⟨ad, e, hc⟩⟩
theorem two_at {W : World} {b : Nat} {u v : Value} {t : TypeId} (h : W.heap[b]? = some (.cells #[u, v] t (0, 0))) : W.cell? ⟨b, 0, none⟩ = some u ∧ W.cell? ⟨b, 1, none⟩ = some v ∧ W.frozen? ⟨b, 0, none⟩ = false ∧ b < W.heap.size :=
  ⟨by rw [cell_of_row _ _ _ _ _ _ h]; rfl, by rw [cell_of_row _ _ _ _ _ _ h]; rfl, by simp [World.frozen?, h], (Array.getElem?_eq_some_iff.1 h).1⟩

set_option maxRecDepth 100000 in
set_option maxHeartbeats 8000000 in
theorem rsame_any (a b : ByteArray) (ha : a.size ≤ 40000) (hb : b.size ≤ 40000) (w : World) : Calls Tryd.prog 24 #[.string a, .string b] w fun e w' => e = .returned (.bool (sameM a b)) ∧ Below w.heap.size w w' := by
  obtain ⟨C, hC⟩ : ∃ C, sameM a b = C := ⟨_, rfl⟩
  rw [hC]
  have HC := Lib.hid hC
  clear hC
  by_cases he : (a.toList == b.toList) = true
  · have hCt : C = true := by rw [← HC.out]; unfold sameM; rw [he]; rfl
    subst hCt
    go_enter Tryd.func24, Tryd.ntmps24
    go_wp2
    go_ret
    exact ⟨rfl, Below.refl _ _⟩
  · have he' : (a.toList == b.toList) = false := by simpa using he
    clear he
    cases hga : getU a with
    | none =>
      have hCf : C = false := by rw [← HC.out]; unfold sameM; rw [he', hga]; rfl
      subst hCf
      have hb2 : ∀ w, Calls Tryd.prog 34 #[.string b] w fun e w' => (∃ A n c q, e = .returned (.agg #[.slice A n c, .int .i64 q])) ∧ Below w.heap.size w w' := fun w => (runits_any b (by omega) w).mono fun e w' ⟨⟨A, c, he, _⟩, hB⟩ => ⟨⟨_, _, _, _, he⟩, hB⟩
      have HGA := Lib.hid hga
      have HB2 := Lib.hid hb2
      clear hga hb2
      go_enter Tryd.func24, Tryd.ntmps24
      go_upto_region 5 with (first
        | ((have hgd := HB1); clear hgd; go_at_call 34; refine (HB2.out _).mono ?_; rintro e w2 ⟨⟨A2, n2, c2, q2, rfl⟩, hB⟩; (have HX1 := Lib.hid (below_heap HX1.out hB)); (have HB3 := Lib.hid (below_then (below_al HB1.out _) (below_al HB1.out _).size hB)); clear hB)
        | (go_at_call 34; refine (runits_no a (by omega) HGA.out _).mono ?_; rintro e w1 ⟨⟨A1, c1, rfl⟩, hB⟩; (have HX1 := Lib.hid (heap_alloc_new w1 (.cells #[.slice A1 0 c1, .int .i64 4] 55))); (have HB1 := Lib.hid hB); clear hB))
      obtain ⟨B1, hB1⟩ : ∃ B1, w1.heap.size = B1 := ⟨_, rfl⟩
      obtain ⟨B2, hB2⟩ : ∃ B2, w2.heap.size = B2 := ⟨_, rfl⟩
      obtain ⟨W5, hW5⟩ : ∃ W5, w2.alloc (.cells #[.slice A2 n2 c2, .int .i64 q2] 55) = W5 := ⟨_, rfl⟩
      have k1 : W5.heap[B1]? = some (.cells #[.slice A1 0 c1, .int .i64 4] 55 (0, 0)) := by rw [← hW5, ← hB1]; exact heap_al HX1.out
      have k2 : W5.heap[B2]? = some (.cells #[.slice A2 n2 c2, .int .i64 q2] 55 (0, 0)) := by rw [← hW5, ← hB2]; exact heap_alloc_new _ _
      have HB5 : Hid (Below w.heap.size w W5) := Lib.hid (by rw [← hW5]; exact below_al HB3.out _)
      rw [hB1, hB2, hW5]
      obtain ⟨a0, a1, -, a3⟩ := two_at k1
      obtain ⟨b0, b1, -, b3⟩ := two_at k2
      clear hB1 hB2 hW5 k1 k2 HX1
      go_quiet (fail)
      go_wp2
      go_ret
      exact ⟨rfl, below_drewN HB5.out _⟩
    | some x =>
      cases hgb : getU b with
      | none =>
        have hCf : C = false := by rw [← HC.out]; unfold sameM; rw [he', hga, hgb]; rfl
        subst hCf
        have HGA := Lib.hid hga
        have HGB := Lib.hid hgb
        clear hga hgb
        go_enter Tryd.func24, Tryd.ntmps24
        go_upto_region 5 with (first
          | ((have hgd := HB1); clear hgd; go_at_call 34; refine (runits_no b (by omega) HGB.out _).mono ?_; rintro e w2 ⟨⟨A2, c2, rfl⟩, hB⟩; (have HX1 := Lib.hid (below_heap HX1.out hB)); (have HB3 := Lib.hid (below_then (below_al HB1.out _) (below_al HB1.out _).size hB)); clear hB)
          | (go_at_call 34; refine (runits_ok a (by omega) x HGA.out _).mono ?_; rintro e w1 ⟨⟨A1, c1, rfl, hc1, hR⟩, hB⟩; (have HX1 := Lib.hid (heap_alloc_new w1 (.cells #[.slice A1 x.length c1, .int .i64 0] 55))); (have HB1 := Lib.hid hB); clear hB hR))
        obtain ⟨B1, hB1⟩ : ∃ B1, w1.heap.size = B1 := ⟨_, rfl⟩
        obtain ⟨B2, hB2⟩ : ∃ B2, w2.heap.size = B2 := ⟨_, rfl⟩
        obtain ⟨W5, hW5⟩ : ∃ W5, w2.alloc (.cells #[.slice A2 0 c2, .int .i64 4] 55) = W5 := ⟨_, rfl⟩
        have k1 : W5.heap[B1]? = some (.cells #[.slice A1 x.length c1, .int .i64 0] 55 (0, 0)) := by rw [← hW5, ← hB1]; exact heap_al HX1.out
        have k2 : W5.heap[B2]? = some (.cells #[.slice A2 0 c2, .int .i64 4] 55 (0, 0)) := by rw [← hW5, ← hB2]; exact heap_alloc_new _ _
        have HB5 : Hid (Below w.heap.size w W5) := Lib.hid (by rw [← hW5]; exact below_al HB3.out _)
        rw [hB1, hB2, hW5]
        obtain ⟨a0, a1, -, a3⟩ := two_at k1
        obtain ⟨b0, b1, -, b3⟩ := two_at k2
        clear hB1 hB2 hW5 k1 k2 HX1
        go_quiet (fail)
        go_wp2
        go_ret
        exact ⟨rfl, below_drewN HB5.out _⟩
      | some y =>
        obtain ⟨r, hr⟩ : ∃ r, cmpU (x.map upM) (y.map upM) = r := ⟨_, rfl⟩
        have hCr : (r == 0) = C := by
          rw [← HC.out]; unfold sameM; rw [he', hga, hgb]
          simp only [Bool.false_or]
          rw [Bool.eq_iff_iff, beq_iff_eq, decide_eq_true_eq, ← hr, cmpU_zero]
        have hpx := getU_props hga
        have hpy := getU_props hgb
        have HR := Lib.hid hr
        have HXU := Lib.hid hpx.1
        have HYU := Lib.hid hpy.1
        have hlx : x.length ≤ 4096 := hpx.2.2
        have hly : y.length ≤ 4096 := hpy.2.2
        have HGA := Lib.hid hga
        have HGB := Lib.hid hgb
        clear hga hgb hpx hpy hr
        go_enter Tryd.func24, Tryd.ntmps24
        go_upto_region 5 with (first
          | ((have hgd := HB1); clear hgd; go_at_call 34; refine (runits_ok b (by omega) y HGB.out _).mono ?_; rintro e w2 ⟨⟨A2, c2, rfl, hc2, hR⟩, hB⟩; (have HX1 := Lib.hid (below_heap HX1.out hB)); (have HR1 := Lib.hid ((HR1.out.below (one_alloc _ _)).below hB)); (have HR2 := Lib.hid hR); (have HB3 := Lib.hid (below_then (below_al HB1.out _) (below_al HB1.out _).size hB)); clear hB hR)
          | (go_at_call 34; refine (runits_ok a (by omega) x HGA.out _).mono ?_; rintro e w1 ⟨⟨A1, c1, rfl, hc1, hR⟩, hB⟩; (have HX1 := Lib.hid (heap_alloc_new w1 (.cells #[.slice A1 x.length c1, .int .i64 0] 55))); (have HR1 := Lib.hid hR); (have HB1 := Lib.hid hB); clear hB hR))
        obtain ⟨B1, hB1⟩ : ∃ B1, w1.heap.size = B1 := ⟨_, rfl⟩
        obtain ⟨B2, hB2⟩ : ∃ B2, w2.heap.size = B2 := ⟨_, rfl⟩
        obtain ⟨W5, hW5⟩ : ∃ W5, w2.alloc (.cells #[.slice A2 y.length c2, .int .i64 0] 55) = W5 := ⟨_, rfl⟩
        have HX1' : Hid (W5.heap[B1]? = some (.cells #[.slice A1 x.length c1, .int .i64 0] 55 (0, 0))) := Lib.hid (by rw [← hW5, ← hB1]; exact heap_al HX1.out)
        have HX2 : Hid (W5.heap[B2]? = some (.cells #[.slice A2 y.length c2, .int .i64 0] 55 (0, 0))) := Lib.hid (by rw [← hW5, ← hB2]; exact heap_alloc_new _ _)
        have HB5 : Hid (Below w.heap.size w W5) := Lib.hid (by rw [← hW5]; exact below_al HB3.out _)
        have HRx : Hid (Rd W5 .u16 A1 x.length x) := Lib.hid (by rw [← hW5]; exact HR1.out.below (one_alloc _ _))
        have HRy : Hid (Rd W5 .u16 A2 y.length y) := Lib.hid (by rw [← hW5]; exact HR2.out.below (one_alloc _ _))
        rw [hB1, hB2, hW5]
        obtain ⟨a0, a1, -, a3⟩ := two_at HX1'.out
        obtain ⟨b0, b1, -, b3⟩ := two_at HX2.out
        clear hB1 hB2 hW5 HX1 HR1 HR2
        go_region_with (first
          | (go_at_call 53; refine (rorder_up A3 A4 c3 c4 x y _ HS1.out HS2.out hc3 hc4 (by omega)).mono ?_; rintro e w8 ⟨rfl, hD⟩; rw [HR.out]; (have HB8 := Lib.hid (below_drawn HB7.out hD)); clear hD)
          | ((have hgd := HS1); clear hgd; go_at_call 39; refine (rraised_any A2 c2 y (by omega) HYU.out _ HRy6.out).mono ?_; rintro e w7 ⟨⟨A4, c4, rfl, hc4, hR⟩, hB⟩; (have HS2 := Lib.hid hR); (have HS1 := Lib.hid (HS1.out.below hB)); (have HB7 := Lib.hid (below_then HB6.out HB6.out.size hB)); clear hB hR)
          | (go_at_call 39; refine (rraised_any A1 c1 x (by omega) HXU.out _ HRx.out.drew1).mono ?_; rintro e w6 ⟨⟨A3, c3, rfl, hc3, hR⟩, hB⟩; (have HS1 := Lib.hid hR); (have HRy6 := Lib.hid (HRy.out.drew1.below hB)); obtain ⟨a60, a61, -, a63⟩ := two_at (below_heap (w := W5.drew) HX1'.out hB); obtain ⟨b60, b61, -, b63⟩ := two_at (below_heap (w := W5.drew) HX2.out hB); (have HB6 := Lib.hid (below_then (below_drew1 HB5.out) (below_drew1 HB5.out).size hB)); clear hB hR))
        all_goals
          go_wp2
          go_ret
          exact ⟨rfl, HB8.out⟩
end Go.Proofs.YtmbdiimenmnfjaaDoor
/- The rows' words: what the condition on the listed variables gives; a world that meets it; an argument that is a slice of strings. -/
namespace Go.Proofs.YtmbdiimenmnfjaaDoor
open Go.Shelf Go.ChangeShapes Go.WideShapes Go.ChangeAt Go.RowKit Go.Deep
open Go.ChangeMaps (open_string shut_string)
set_option linter.unusedVariables false
set_option maxRecDepth 100000

theorem Tryd.own : ownKnob Tryd.prog.godebug = none := by kernel_rfl
theorem Tryd.laidOut : laidOutB Tryd.prog = true := by kernel_rfl
theorem Tryd.cells9 : Tryd.prog.cellsOf 9 = 1 := by kernel_rfl
theorem Tryd.cells46 : Tryd.prog.cellsOf 46 = 1 := by kernel_rfl
theorem Tryd.cells120 : Tryd.prog.cellsOf 120 = 1 := by kernel_rfl
theorem Tryd.cells126 : Tryd.prog.cellsOf 126 = 20 := by kernel_rfl
theorem Tryd.gP : Tryd.prog.globalNamed "internal/strconv.uint64pow10" = some 1 := by kernel_rfl
theorem Tryd.gPType : (Tryd.prog.globals[1]?).map (·.type) = some 126 := by kernel_rfl

def laidL : List (String × DataW Unit) := [("math/bits.deBruijn32tab", Rows.laid_math_bits_deBruijn32tab), ("math/bits.deBruijn64tab", Rows.laid_math_bits_deBruijn64tab), ("internal/strconv.uint64pow10", Rows.laid_internal_strconv_uint64pow10)]
theorem tab_of_laid {W : World} (h : laidMet Tryd.prog laidL W) : Tab W := by
  have h3 : laidMet Tryd.prog [("internal/strconv.uint64pow10", Lib.tabData .u64 Lib.pow10Tab)] W := h.tail.tail
  exact Lib.tabIs_of_head Tryd.gP Tryd.gPType Tryd.underlying126 Tryd.underlying120 Tryd.cells120 Tryd.cells126 h3

def cellsOfData : DataW Unit → Array Value
  | .agg l => (l.map fun
    | .lit (.int k z) => Value.int k z
    | _ => .int .i64 0).toArray
  | _ => #[]
/-- A world that meets the condition: the settled one, the three variables laid. -/
noncomputable def laidWorld (os : Os) : World :=
  let w0 := World.holding Tryd.prog os ⟨#[], #[], []⟩
  let put (h : Array Obj) (g : Nat) (cs : Array Value) : Array Obj := h.modify g fun
    | .cells _ t frozen => .cells cs t frozen
    | o => o
  let h1 := put w0.heap 1 (cellsOfData Rows.laid_internal_strconv_uint64pow10)
  let h2 := put h1 2 (cellsOfData Rows.laid_math_bits_deBruijn32tab)
  let h3 := put h2 3 (cellsOfData Rows.laid_math_bits_deBruijn64tab)
  { w0 with heap := h3 }
theorem laid_met (os : Os) (args : Array Value) : laidMet Tryd.prog laidL ((laidWorld os).forCall (fun _ _ => 0) ⟨#[], args, []⟩).memory :=
  (LaidIn.of_run [2, 3, 1] 8 (by kernel_rfl) (by kernel_rfl) (by kernel_rfl) (by kernel_rfl)).met

section
variable {H : Type} {enc : TypeId × Value → H}
/-- A slice of strings that came in. -/
theorem open_taken {W : World} {base : Nat} {v1 : Value} {d1 : DataW H} {p1 : List MemPlace} (hval : Value.okWide Tryd.prog W .any base 33 v1) (h1 : DataW.Trod enc Tryd.prog W 0 (fun _ => true) true 33 v1 d1 p1) :
    ∃ A c b, v1 = .slice A b.length c ∧ b.length ≤ c ∧ b.length ≤ maxLen ∧ RdS W A b.length b := by
  obtain ⟨a1, len, cap, rfl⟩ := okWide_slice Tryd.underlying33 hval
  obtain ⟨fuel, hf⟩ := h1
  rcases open_strings Tryd.underlying33 Tryd.underlying9 Tryd.cells9 hf with ⟨hcs, hx⟩ | ⟨a, len', cap', zs, hcs, _, hl, hm, hz, hx, hcell, hwz⟩
  · simp [Value.cells] at hcs
    obtain ⟨rfl, rfl, rfl⟩ := hcs
    exact ⟨none, 0, [], rfl, by simp, by simp, ⟨rfl, by simp, fun j hj => absurd hj (Nat.not_lt_zero _)⟩⟩
  · simp [Value.cells] at hcs
    obtain ⟨rfl, rfl, rfl⟩ := hcs
    simp only [if_true] at hz
    have hlen : (zs.take len).length = len := by simp; omega
    have hget : ∀ j, j < len → (zs.take len).getD j ByteArray.empty = zs.getD j ByteArray.empty := fun j hj => by
      simp [List.getD_eq_getElem?_getD, hj]
    refine ⟨some a, cap, zs.take len, by rw [hlen], by rw [hlen]; exact hl, by rw [hlen]; omega, ⟨rfl, by rw [hlen]; simp only [maxLen] at hm; omega, fun j hj => ⟨a, rfl, ?_⟩⟩⟩
    rw [hlen] at hj
    rw [hget j hj]
    exact hcell j (by omega)
theorem shut_bool {W : World} {base : Nat} {spare : Nat → Bool} {held : Bool} (b : Bool) : DataW.Trod enc Tryd.prog W base spare held 4 (.bool b) (.lit (.bool b)) [] :=
  ⟨1, by simp [DataW.trod, Value.cells, Tryd.underlying4]⟩
end
end Go.Proofs.YtmbdiimenmnfjaaDoor
/- Walk: surrogate; SameUnits of equal lists; an argument that is a slice of units. -/
namespace Go.Proofs.YtmbdiimenmnfjaaDoor
open Go.RowKit Go.Deep Go.ChangeShapes Go.WideShapes Go.ChangeAt
open Go.Proofs.YtmbdiimenmnfjaaDoor.PNamesNames
set_option linter.unusedVariables false
set_option linter.unusedSimpArgs false
set_option maxRecDepth 100000

section
variable {H : Type} {enc : TypeId × Value → H}
/-- A slice of units that came in. -/
theorem open_units {W : World} {base : Nat} {v1 : Value} {d1 : DataW H} {p1 : List MemPlace} (hval : Value.okWide Tryd.prog W .any base 49 v1) (h1 : DataW.Trod enc Tryd.prog W 0 (fun _ => true) true 49 v1 d1 p1) :
    ∃ A c b, v1 = .slice A b.length c ∧ b.length ≤ c ∧ b.length ≤ maxLen ∧ Rd W .u16 A b.length b ∧ U16 b ∧ (A = none → c = 0) := by
  obtain ⟨a1, len, cap, rfl⟩ := okWide_slice Tryd.underlying49 hval
  obtain ⟨fuel, hf⟩ := h1
  rcases open_ints Tryd.underlying49 Tryd.underlying46 Tryd.cells46 hf with ⟨hcs, hx⟩ | ⟨a, len', cap', zs, hcs, _, hl, hm, hz, hx, hcell, hwz⟩
  · simp [Value.cells] at hcs
    obtain ⟨rfl, rfl, rfl⟩ := hcs
    exact ⟨none, 0, [], rfl, by simp, by simp, ⟨rfl, by simp, fun j hj => absurd hj (Nat.not_lt_zero _)⟩, (fun x hx => by cases hx), fun _ => rfl⟩
  · simp [Value.cells] at hcs
    obtain ⟨rfl, rfl, rfl⟩ := hcs
    simp only [if_true] at hz
    have hlen : (zs.take len).length = len := by simp; omega
    have hget : ∀ j, j < len → (zs.take len).getD j 0 = zs.getD j 0 := fun j hj => by
      simp [List.getD_eq_getElem?_getD, hj]
    refine ⟨some a, cap, zs.take len, by rw [hlen], by rw [hlen]; exact hl, by rw [hlen]; omega, ⟨rfl, by rw [hlen]; simp only [maxLen] at hm; omega, fun j hj => ⟨a, rfl, ?_⟩⟩, fun x hx => ?_, fun e => by cases e⟩
    · rw [hlen] at hj
      rw [hget j hj]
      exact hcell j (by omega)
    · have := hwz x (List.mem_of_mem_take hx)
      simp only [Lit.wf, Bool.and_eq_true, decide_eq_true_eq] at this
      exact ⟨this.1, this.2⟩
end

theorem units_rd2 (s : ByteArray) (hs : s.size ≤ 100000) (w : World) (r : List Int) (h : getU s = some r) :
    Calls Tryd.prog 33 #[.string s] w fun e w' => (∃ A c, e = .returned (.tuple #[.slice A r.length c, .int .i64 0]) ∧ (Rd w' .u16 A r.length r ∧ r.length ≤ c)) ∧ Below w.heap.size w w' :=
  (units_ok s hs w r h).mono fun e w' ⟨v, he, hO, hB⟩ => by
    obtain ⟨A, c, rfl, hc, hRd, -⟩ := own_nums hO (by have := (getU_props h).2.2; omega)
    exact ⟨⟨A, c, he, hRd, hc⟩, hB⟩
theorem order_K (x : List Int) (hx : x.length ≤ 1000000) : archivoltref05_SameUnits.f (2 * x.length + 3) x x = some true := by
  unfold archivoltref05_SameUnits.f archivoltref05_order.f
  have h := order_l x x hx (2 * x.length + 3) 0 (by omega) (by omega) (by omega)
  have h' : archivoltref05_order.l0 (2 * x.length + 3) x x 0 = some (cmpU x x) := h
  rw [h', cmpU_self]
  rfl
theorem sameu_any (A0 A1 : Option Addr) (c0 c1 : Nat) (x : List Int) (w : World) (h0 : Rd w .u16 A0 x.length x) (h1 : Rd w .u16 A1 x.length x) (k0 : x.length ≤ c0) (k1 : x.length ≤ c1) (hl : x.length ≤ 1000000) :
    Calls Tryd.prog 35 #[.slice A0 x.length c0, .slice A1 x.length c1] w fun e w' => e = .returned (.bool true) ∧ Drawn w w' :=
  (archivoltref05_SameUnits.calls (2 * x.length + 3) A0 c0 x A1 c1 x true w (rdC h0) k0 (rdC h1) k1 (order_K x hl)).mono fun e w' h => ⟨h.1, drawn0 h.2⟩

/-- Is a unit a surrogate: 1 a high one, 2 a low one? -/
def surM (l : List Int) (i : Int) : Int := if i < 0 ∨ (l.length : Int) ≤ i then 0 else if l.getD i.toNat 0 < 55296 ∨ 57343 < l.getD i.toNat 0 then 0 else if l.getD i.toNat 0 < 56320 then 1 else 2
set_option maxHeartbeats 4000000 in
theorem sur_any (A : Option Addr) (c : Nat) (l : List Int) (hc : l.length ≤ c) (hl : l.length ≤ 1000000) (i : Int) (hi : -1 ≤ i) (hi2 : i ≤ 1000000) (w : World) (hR : Rd w .u16 A l.length l) :
    Calls Tryd.prog 40 #[.slice A l.length c, .int .i64 i] w fun e w' => e = .returned (.int .i64 (surM l i)) ∧ w' = w := by
  by_cases h1 : i < 0
  · have e : surM l i = 0 := by unfold surM; rw [if_pos (Or.inl h1)]
    rw [e]
    go_enter Tryd.func40, Tryd.ntmps40
    go_wp2
    go_ret
    exact ⟨rfl, rfl⟩
  · by_cases h2 : (l.length : Int) ≤ i
    · have e : surM l i = 0 := by unfold surM; rw [if_pos (Or.inr h2)]
      rw [e]
      go_enter Tryd.func40, Tryd.ntmps40
      go_wp2
      go_ret
      exact ⟨rfl, rfl⟩
    · obtain ⟨j, rfl⟩ : ∃ j : Nat, i = j := ⟨i.toNat, by omega⟩
      have hj : j < l.length := by omega
      obtain ⟨ad, hA, hcl⟩ := hR.at_ j hj
      subst hA
      obtain ⟨x, hx⟩ : ∃ x, l.getD j 0 = x := ⟨_, rfl⟩
      rw [hx] at hcl
      have e : surM l (j : Int) = if x < 55296 ∨ 57343 < x then 0 else if x < 56320 then 1 else 2 := by
        unfold surM
        rw [if_neg (by omega), Int.toNat_natCast, hx]
      rw [e]
      have h2' : ¬ (l.length : Int) ≤ j := h2
      have hlt : (j : Int) < l.length := by omega
      clear hR hx e
      by_cases q1 : x < 55296
      · rw [if_pos (Or.inl q1)]
        go_enter Tryd.func40, Tryd.ntmps40
        go_wp2
        go_ret
        exact ⟨rfl, rfl⟩
      · by_cases q2 : 57343 < x
        · rw [if_pos (Or.inr q2)]
          go_enter Tryd.func40, Tryd.ntmps40
          go_wp2
          go_ret
          exact ⟨rfl, rfl⟩
        · rw [if_neg (by omega)]
          by_cases q3 : x < 56320
          · rw [if_pos q3]
            go_enter Tryd.func40, Tryd.ntmps40
            go_wp2
            go_ret
            exact ⟨rfl, rfl⟩
          · rw [if_neg q3]
            go_enter Tryd.func40, Tryd.ntmps40
            go_wp2
            go_ret
            exact ⟨rfl, rfl⟩
theorem mkB_append (x y : List Int) (hx : ∀ b ∈ x, 0 ≤ b ∧ b ≤ 255) (hy : ∀ b ∈ y, 0 ≤ b ∧ b ≤ 255) : mkB (x ++ y) = mkB x ++ mkB y := by
  apply bts_inj
  rw [bts_append, bts_mkB _ hx, bts_mkB _ hy, bts_mkB]
  intro b hb
  rcases List.mem_append.1 hb with h | h
  · exact hx b h
  · exact hy b h
/-- Lists one behind the other, unless a pair of surrogates meets. -/
theorem text_two {l m : List Int} (hl : U16 l) (hm : U16 m) (h : ¬ (surM l ((l.length : Int) - 1) = 1 ∧ surM m 0 = 2)) : mkB (textM (l ++ m)) = mkB (textM l) ++ mkB (textM m) := by
  rw [textM_append l m, mkB_append _ _ (textM_bytes l hl) (textM_bytes m hm)]
  intro c d hc hd hp
  apply h
  unfold pairU at hp
  cases m with
  | nil => cases hd
  | cons d' m =>
    simp only [List.head?_cons, Option.some.injEq] at hd
    subst hd
    have hne : l ≠ [] := by rintro rfl; cases hc
    have hll : 1 ≤ l.length := by cases l with | nil => exact absurd rfl hne | cons _ _ => simp
    have hcl : l.getD (l.length - 1) 0 = c := by
      rw [List.getLast?_eq_getElem?] at hc
      rw [List.getD_eq_getElem?_getD, hc]; rfl
    have e1 : ((l.length : Int) - 1).toNat = l.length - 1 := by omega
    constructor
    · unfold surM
      rw [if_neg (by omega), e1, hcl, if_neg (by omega), if_pos (by omega)]
    · unfold surM
      simp only [List.length_cons, Int.toNat_zero, List.getD_cons_zero]
      rw [if_neg (by omega), if_neg (by omega), if_neg (by omega)]
end Go.Proofs.YtmbdiimenmnfjaaDoor
/- The document's String: what was printed of it is the model. -/
namespace Go.Proofs.YtmbdiimenmnfjaaDoor
open Go.RowKit Go.Deep
open Go.Proofs.YtmbdiimenmnfjaaDoor.PNamesUnits
open Go.Proofs.YtmbdiimenmnfjaaDoorW.PrintWords (rd Drawn0 Kd)
set_option linter.unusedVariables false
set_option linter.unusedSimpArgs false

theorem bytes_f (c : Int) (h0 : 0 ≤ c) (h1 : c ≤ 1114111) : archivoltref05_bytes.f c = some (encB c) := by
  have d1 : Int.tdiv c 64 = c / 64 := Int.tdiv_eq_ediv_of_nonneg h0
  have d2 : Int.tdiv c 4096 = c / 4096 := Int.tdiv_eq_ediv_of_nonneg h0
  have d3 : Int.tdiv c 262144 = c / 262144 := Int.tdiv_eq_ediv_of_nonneg h0
  have m1 : Int.tmod c 64 = c % 64 := Int.tmod_eq_emod_of_nonneg h0
  have w1 : wrap64 (c / 64) = c / 64 := w64 _ (by omega) (by omega)
  have w2 : wrap64 (c / 4096) = c / 4096 := w64 _ (by omega) (by omega)
  have w3 : wrap64 (c / 262144) = c / 262144 := w64 _ (by omega) (by omega)
  have m2 : Int.tmod (c / 64) 64 = c / 64 % 64 := Int.tmod_eq_emod_of_nonneg (by omega)
  have m3 : Int.tmod (c / 4096) 64 = c / 4096 % 64 := Int.tmod_eq_emod_of_nonneg (by omega)
  unfold archivoltref05_bytes.f
  rw [d1, d2, d3, m1, w1, w2, w3, m2, m3]
  have v1 : wrap64 (128 + c % 64) = 128 + c % 64 := w64 _ (by omega) (by omega)
  have v2 : wrap64 (128 + c / 64 % 64) = 128 + c / 64 % 64 := w64 _ (by omega) (by omega)
  have v3 : wrap64 (128 + c / 4096 % 64) = 128 + c / 4096 % 64 := w64 _ (by omega) (by omega)
  have v4 : wrap64 (192 + c / 64) = 192 + c / 64 := w64 _ (by omega) (by omega)
  have v5 : wrap64 (224 + c / 4096) = 224 + c / 4096 := w64 _ (by omega) (by omega)
  have v6 : wrap64 (240 + c / 262144) = 240 + c / 262144 := w64 _ (by omega) (by omega)
  rw [v1, v2, v3, v4, v5, v6]
  unfold encB
  by_cases q1 : c < 128
  · rw [if_pos q1, if_pos q1, show c % 256 = c by omega]
  rw [if_neg q1, if_neg q1]
  by_cases q2 : c < 2048
  · rw [if_pos q2, if_pos q2, show (192 + c / 64) % 256 = 192 + c / 64 by omega, show (128 + c % 64) % 256 = 128 + c % 64 by omega]
  rw [if_neg q2, if_neg q2]
  by_cases q3 : c < 65536
  · rw [if_pos q3, if_pos q3, show (224 + c / 4096) % 256 = 224 + c / 4096 by omega, show (128 + c / 64 % 64) % 256 = 128 + c / 64 % 64 by omega, show (128 + c % 64) % 256 = 128 + c % 64 by omega]
  · rw [if_neg q3, if_neg q3, show (240 + c / 262144) % 256 = 240 + c / 262144 by omega, show (128 + c / 4096 % 64) % 256 = 128 + c / 4096 % 64 by omega, show (128 + c / 64 % 64) % 256 = 128 + c / 64 % 64 by omega, show (128 + c % 64) % 256 = 128 + c % 64 by omega]
theorem hiU_f (c : Int) : Go.Proofs.YtmbdiimenmnfjaaDoor.PNamesUnits.archivoltref05_high.f c = some (decide (55296 ≤ c ∧ c < 56320)) := by
  unfold Go.Proofs.YtmbdiimenmnfjaaDoor.PNamesUnits.archivoltref05_high.f
  by_cases h : c ≥ 55296
  · rw [if_pos h]; congr 1; rw [decide_eq_decide]; omega
  · rw [if_neg h]; congr 1; symm; rw [decide_eq_false_iff_not]; omega
theorem loU_f (c : Int) : Go.Proofs.YtmbdiimenmnfjaaDoor.PNamesUnits.archivoltref05_low.f c = some (decide (56320 ≤ c ∧ c < 57344)) := by
  unfold Go.Proofs.YtmbdiimenmnfjaaDoor.PNamesUnits.archivoltref05_low.f
  by_cases h : c ≥ 56320
  · rw [if_pos h]; congr 1; rw [decide_eq_decide]; omega
  · rw [if_neg h]; congr 1; symm; rw [decide_eq_false_iff_not]; omega
theorem wsucc (i : Nat) (h : i ≤ 1000001) : wrap64 ((i : Int) + 1) = ((i + 1 : Nat) : Int) := by rw [w64 _ (by omega) (by omega)]; omega
theorem wcomb (x y : Int) (hx : 0 ≤ x ∧ x ≤ 65535) (hy : 0 ≤ y ∧ y ≤ 65535) : wrap64 (wrap64 (wrap64 (65536 + wrap64 (wrap64 (x - 55296) * 1024)) + y) - 56320) = 65536 + (x - 55296) * 1024 + y - 56320 := by
  rw [w64 (x - 55296) (by omega) (by omega), w64 ((x - 55296) * 1024) (by omega) (by omega), w64 (65536 + (x - 55296) * 1024) (by omega) (by omega), w64 (65536 + (x - 55296) * 1024 + y) (by omega) (by omega), w64 _ (by omega) (by omega)]
set_option maxHeartbeats 400000 in
theorem string_l (l : List Int) (hu : U16 l) (hl : l.length ≤ 1000000) : ∀ (k i : Nat) (acc : List Int), i ≤ l.length → l.length < i + k → acc.length ≤ 4 * i → archivoltref05_String.l0 k l acc (i : Int) = some (strOfNums (acc ++ textM (l.drop i)))
  | 0, i, acc, h1, h2, h3 => by omega
  | k + 1, i, acc, h1, h2, h3 => by
    unfold archivoltref05_String.l0
    by_cases hi : i < l.length
    · have hb := hu.get i
      have ex : rd l (i : Int) = l.getD i 0 := rfl
      have ew := Lib.hid (wsucc i (by omega))
      rw [if_pos (by omega), if_pos (by omega), ex, w64 (l.getD i 0) (by omega) (by omega), ew.out]
      have hdr := drop_cons hi
      obtain ⟨x, hx⟩ : ∃ x, l.getD i 0 = x := ⟨_, rfl⟩
      rw [hx] at hb hdr ⊢
      have hone : (∀ d r, l.drop (i + 1) = d :: r → ¬ pairU x d) → ((archivoltref05_bytes.f x).bind fun t => if acc.length + t.length < 140737488355328 then archivoltref05_String.l0 k l (acc ++ t) ((i + 1 : Nat) : Int) else none) = some (strOfNums (acc ++ textM (l.drop i))) := by
        intro hn
        have hbl := encB_len x
        rw [bytes_f x hb.1 (by omega), Option.bind_some, if_pos (by omega), string_l l hu hl k (i + 1) _ (by omega) (by omega) (by rw [List.length_append]; omega), hdr, textM_one x _ hn, List.append_assoc]
      rw [hiU_f, Option.bind_some]
      by_cases hh : 55296 ≤ x ∧ x < 56320
      · rw [decide_eq_true hh, if_pos rfl]
        by_cases hj : i + 1 < l.length
        · have hb2 := hu.get (i + 1)
          have ey : rd l ((i + 1 : Nat) : Int) = l.getD (i + 1) 0 := rfl
          have hdr2 := drop_cons hj
          rw [if_pos (by omega), if_pos (by omega), ey, w64 (l.getD (i + 1) 0) (by omega) (by omega)]
          obtain ⟨y, hy⟩ : ∃ y, l.getD (i + 1) 0 = y := ⟨_, rfl⟩
          rw [hy] at hb2 hdr2 ⊢
          rw [loU_f, Option.bind_some]
          by_cases hlo : 56320 ≤ y ∧ y < 57344
          · have ew2 := Lib.hid (wsucc (i + 1) (by omega))
            have htp := textM_pair x y (l.drop (i + 1 + 1)) ⟨hh.1, hh.2, hlo.1, hlo.2⟩
            have ec := Lib.hid (wcomb x y hb hb2)
            have hCb : 65536 ≤ 65536 + (x - 55296) * 1024 + y - 56320 ∧ 65536 + (x - 55296) * 1024 + y - 56320 ≤ 1114111 := by omega
            obtain ⟨C, hC⟩ : ∃ C, 65536 + (x - 55296) * 1024 + y - 56320 = C := ⟨_, rfl⟩
            rw [hC] at ec htp hCb
            clear hC
            have hbl := encB_len C
            obtain ⟨E, hE⟩ : ∃ E, encB C = E := ⟨_, rfl⟩
            have hbf := bytes_f C (by omega) hCb.2
            rw [hE] at hbl htp hbf
            have hlt : acc.length + E.length < 140737488355328 := by omega
            rw [decide_eq_true hlo, if_pos rfl, ec.out, hbf, Option.bind_some, if_pos hlt, ew2.out, string_l l hu hl k (i + 1 + 1) _ (by omega) (by omega) (by rw [List.length_append]; omega), hdr, hdr2, htp, List.append_assoc]
          · rw [decide_eq_false hlo, if_neg (by decide)]
            exact hone (fun d r e => by rw [hdr2] at e; cases e; unfold pairU; exact fun h => hlo h.2.2)
        · rw [if_neg (by omega)]
          exact hone (fun d r e => by rw [List.drop_eq_nil_of_le (by omega)] at e; cases e)
      · rw [decide_eq_false hh, if_neg (by decide)]
        exact hone (fun d r e => by unfold pairU; exact fun h => hh ⟨h.1, h.2.1⟩)
    · rw [if_neg (by omega), List.drop_eq_nil_of_le (by omega)]
      simp [textM]
theorem strOf_mkB (xs : List Int) (h : ∀ x ∈ xs, 0 ≤ x ∧ x ≤ 255) : strOfNums xs = mkB xs := by
  apply bts_inj
  rw [bts_mkB xs h]
  unfold strOfNums bts
  rw [List.map_map]
  conv => rhs; rw [← List.map_id xs]
  refine List.map_congr_left fun x hx => ?_
  have := h x hx
  simp only [Function.comp, id]
  rw [UInt8.toNat_ofNat']
  omega
theorem rstring_any (A : Option Addr) (c : Nat) (l : List Int) (hc : l.length ≤ c) (hl : l.length ≤ 1000000) (hu : U16 l) (w : World) (hR : Rd w .u16 A l.length l) :
    Calls Tryd.prog 38 #[.slice A l.length c] w fun e w' => e = .returned (.string (mkB (textM l))) ∧ Below w.heap.size w w' :=
  (archivoltref05_String.calls (l.length + 1) A c l (mkB (textM l)) w (rdC hR) hc (by
    unfold archivoltref05_String.f
    have h := string_l l hu hl (l.length + 1) 0 [] (by omega) (by omega) (by simp)
    have h' : archivoltref05_String.l0 (l.length + 1) l [] 0 = some (strOfNums (textM l)) := by simpa using h
    rw [h', strOf_mkB _ (textM_bytes l hu)])).mono fun e w' h => h
end Go.Proofs.YtmbdiimenmnfjaaDoor
/- Walk: the law NamesUnits. -/
namespace Go.Proofs.YtmbdiimenmnfjaaDoor
open Go.RowKit Go.Deep
set_option linter.unusedVariables false
set_option linter.unusedSimpArgs false

theorem rstring_up (A : Option Addr) (c : Nat) (r : List Int) (hc : r.length ≤ c) (hl : r.length ≤ 1000000) (hu : U16 r) (w : World) (hR : Rd w .u16 A r.length (r.map upM)) :
    Calls Tryd.prog 38 #[.slice A r.length c] w fun e w' => e = .returned (.string (mkB (textM (r.map upM)))) ∧ Below w.heap.size w w' := by
  have := rstring_any A c (r.map upM) (by rw [List.length_map]; exact hc) (by rw [List.length_map]; exact hl) hu.map_up w (by rw [List.length_map]; exact hR)
  rwa [List.length_map] at this

set_option maxRecDepth 100000 in
set_option maxHeartbeats 8000000 in
theorem law_NamesUnits (s : ByteArray) (A1 : Option Addr) (c1 : Nat) (l : List Int) (hc1 : l.length ≤ c1) (hN1 : A1 = none → c1 = 0) (hm1 : l.length ≤ 9223372036854775807) (hU1 : U16 l) (u : Int) (hu : 0 ≤ u ∧ u ≤ 65535)
    (w : World) (ht : Tab w) (hR1 : Rd w .u16 A1 l.length l) : Calls Tryd.prog 9 #[.string s, .slice A1 l.length c1, .int .u16 u] w fun e w' => e = .returned (.bool true) ∧ Below w.heap.size w w' := by
  have HT := Lib.hid ht
  have HR1 := Lib.hid hR1
  have HU1 := Lib.hid hU1
  clear ht hR1 hU1
  by_cases q1 : 20000 < s.size
  · have q1' : 20000 < (s.size : Int) := by omega
    go_enter Tryd.func9, Tryd.ntmps9
    go_wp2_with (go_at_call 15; refine (sanity_any _ HT.out).mono ?_; rintro e w1 ⟨rfl, hB⟩; (have HB1 := Lib.hid hB); clear hB)
    go_ret
    exact ⟨rfl, HB1.out⟩
  have q1' : ¬ 20000 < (s.size : Int) := by omega
  by_cases q2 : 5000 < l.length
  · have q2' : 5000 < (l.length : Int) := by omega
    go_enter Tryd.func9, Tryd.ntmps9
    go_wp2_with (go_at_call 15; refine (sanity_any _ HT.out).mono ?_; rintro e w1 ⟨rfl, hB⟩; (have HB1 := Lib.hid hB); clear hB)
    go_ret
    exact ⟨rfl, HB1.out⟩
  have q2' : ¬ 5000 < (l.length : Int) := by omega
  obtain ⟨U, hUU⟩ : ∃ U, upM u = U := ⟨_, rfl⟩
  have HU := Lib.hid hUU
  clear hUU
  by_cases q3 : l.length ≤ 4096
  · have q3' : ¬ 4096 < (l.length : Int) := by omega
    obtain ⟨T1, hT1⟩ : ∃ T, mkB (textM l) = T := ⟨_, rfl⟩
    have HT1 := Lib.hid hT1
    have HST : Hid (strM l = (T1, 0)) := Lib.hid (by unfold strM; rw [if_pos q3, hT1])
    clear hT1
    cases hg : getU s with
    | none =>
      have HG := Lib.hid hg
      clear hg
      go_enter Tryd.func9, Tryd.ntmps9
      go_wp2_with (first
        | ((have hgd := HB8); clear hgd; go_at_call 15; refine (sanity_any _ (HT.out.below HB8.out)).mono ?_; rintro e w9 ⟨rfl, hB⟩; (have HX9 := Lib.hid (below_heap HX9.out hB)); obtain ⟨x0, x1, -, x3⟩ := two_at HX9.out; (have HB9 := Lib.hid (below_then HB8.out HB8.out.size hB)); clear hB)
        | ((have hgd := HB7); clear hgd; go_at_call 32; refine (upper_no s (by omega) _ HG.out).mono ?_; rintro e w8 ⟨rfl, hB⟩; (have HX9 := Lib.hid (below_heap HX9.out hB)); obtain ⟨x0, x1, -, x3⟩ := two_at HX9.out; (have HB8 := Lib.hid (below_then HB7.out HB7.out.size hB)); clear hB)
        | ((have hgd := HB6); clear hgd; go_at_call 38; refine (rstring_any A1 c1 l hc1 (by omega) HU1.out _ (HR1.out.below HB6.out)).mono ?_; rintro e w7 ⟨rfl, hB⟩; rw [HT1.out]; (have HX9 := Lib.hid (below_heap HX9.out hB)); obtain ⟨x0, x1, -, x3⟩ := two_at HX9.out; (have HB7 := Lib.hid (below_then HB6.out HB6.out.size hB)); clear hB)
        | ((have hgd := HB5); clear hgd; go_at_call 37; refine (string_any A1 c1 l HU1.out _ (HR1.out.below HB5.out)).mono ?_; rintro e w6 ⟨rfl, hB⟩; rw [HST.out]; (have HX9 := Lib.hid (below_heap HX9.out hB)); obtain ⟨x0, x1, -, x3⟩ := two_at HX9.out; (have HB6 := Lib.hid (below_then HB5.out HB5.out.size hB)); clear hB)
        | ((have hgd := HB4); clear hgd; go_at_call 36; refine (rup_any u hu.1 hu.2 _).mono ?_; rintro e w5 ⟨rfl, rfl⟩; rw [HU.out]; (have HB5 := HB4))
        | ((have hgd := HB3); clear hgd; go_at_call 31; refine (up_any _ u hu.1 hu.2).mono ?_; rintro e w4 ⟨rfl, hB⟩; rw [HU.out]; (have HX9 := Lib.hid (below_heap HX9.out hB)); obtain ⟨x0, x1, -, x3⟩ := two_at HX9.out; (have HB4 := Lib.hid (below_then HB3.out HB3.out.size hB)); clear hB)
        | ((have hgd := HB2); clear hgd; go_at_call 35; refine (sameu_any none A9 0 c9 [] _ (rd_none _ .u16) ⟨rfl, by decide, fun j h => absurd h (Nat.not_lt_zero _)⟩ (by decide) (Nat.zero_le _) (by decide)).mono ?_; rintro e w3 ⟨rfl, hB⟩; (have HX9 := Lib.hid (below_heap HX9.out (drawn_below hB))); obtain ⟨x0, x1, -, x3⟩ := two_at HX9.out; (have HB3 := Lib.hid (below_drawn HB2.out hB)); clear hB)
        | ((have hgd := HB1); clear hgd; go_at_call 34; refine (runits_no s (by omega) HG.out _).mono ?_; rintro e w2 ⟨⟨A9, c9, rfl⟩, hB⟩; (have HX9 := Lib.hid (heap_alloc_new w2 (.cells #[.slice A9 0 c9, .int .i64 4] 55))); (have HB2 := Lib.hid (below_al (below_then HB1.out HB1.out.size hB) (.cells #[.slice A9 0 c9, .int .i64 4] 55))); clear hB)
        | (go_at_call 33; refine (units_no s (by omega) _ HG.out).mono ?_; rintro e w1 ⟨rfl, hB⟩; (have HB1 := Lib.hid hB); clear hB))
      go_ret
      exact ⟨rfl, HB9.out⟩
    | some r =>
      have hp := getU_props hg
      have HXU := Lib.hid hp.1
      have hrl : r.length ≤ 4096 := hp.2.2
      have HG := Lib.hid hg
      obtain ⟨S, hS⟩ : ∃ S, mkB (textM (r.map upM)) = S := ⟨_, rfl⟩
      have HS := Lib.hid hS
      clear hg hp hS
      go_enter Tryd.func9, Tryd.ntmps9
      go_wp2_with (first
        | ((have hgd := HB10); clear hgd; go_at_call 15; refine (sanity_any _ (HT.out.below HB10.out)).mono ?_; rintro e w11 ⟨rfl, hB⟩; (have HX9 := Lib.hid (below_heap HX9.out hB)); obtain ⟨x0, x1, -, x3⟩ := two_at HX9.out; (have HB11 := Lib.hid (below_then HB10.out HB10.out.size hB)); clear hB)
        | ((have hgd := HB9); clear hgd; go_at_call 38; refine (rstring_up A3 c3 r hc3 (by omega) HXU.out _ HR3.out).mono ?_; rintro e w10 ⟨rfl, hB⟩; rw [HS.out]; (have HX9 := Lib.hid (below_heap HX9.out hB)); obtain ⟨x0, x1, -, x3⟩ := two_at HX9.out; (have HB10 := Lib.hid (below_then HB9.out HB9.out.size hB)); clear hB)
        | ((have hgd := HB8); clear hgd; go_at_call 39; refine (rraised_any A9 c9 r (by omega) HXU.out _ HR9.out).mono ?_; rintro e w9 ⟨⟨A3, c3, rfl, hc3, hR3⟩, hB⟩; (have HX9 := Lib.hid (below_heap HX9.out hB)); obtain ⟨x0, x1, -, x3⟩ := two_at HX9.out; (have HR3 := Lib.hid hR3); clear hR3; (have HB9 := Lib.hid (below_then HB8.out HB8.out.size hB)); clear hB)
        | ((have hgd := HB7); clear hgd; go_at_call 32; refine (upper_ok s (by omega) _ r HG.out).mono ?_; rintro e w8 ⟨rfl, hB⟩; rw [HS.out]; (have HX9 := Lib.hid (below_heap HX9.out hB)); obtain ⟨x0, x1, -, x3⟩ := two_at HX9.out; (have HR9 := Lib.hid (HR9.out.below hB)); (have HB8 := Lib.hid (below_then HB7.out HB7.out.size hB)); clear hB)
        | ((have hgd := HB6); clear hgd; go_at_call 38; refine (rstring_any A1 c1 l hc1 (by omega) HU1.out _ (HR1.out.below HB6.out)).mono ?_; rintro e w7 ⟨rfl, hB⟩; rw [HT1.out]; (have HX9 := Lib.hid (below_heap HX9.out hB)); obtain ⟨x0, x1, -, x3⟩ := two_at HX9.out; (have HR9 := Lib.hid (HR9.out.below hB)); (have HB7 := Lib.hid (below_then HB6.out HB6.out.size hB)); clear hB)
        | ((have hgd := HB5); clear hgd; go_at_call 37; refine (string_any A1 c1 l HU1.out _ (HR1.out.below HB5.out)).mono ?_; rintro e w6 ⟨rfl, hB⟩; rw [HST.out]; (have HX9 := Lib.hid (below_heap HX9.out hB)); obtain ⟨x0, x1, -, x3⟩ := two_at HX9.out; (have HR9 := Lib.hid (HR9.out.below hB)); (have HB6 := Lib.hid (below_then HB5.out HB5.out.size hB)); clear hB)
        | ((have hgd := HB4); clear hgd; go_at_call 36; refine (rup_any u hu.1 hu.2 _).mono ?_; rintro e w5 ⟨rfl, rfl⟩; rw [HU.out]; (have HB5 := HB4))
        | ((have hgd := HB3); clear hgd; go_at_call 31; refine (up_any _ u hu.1 hu.2).mono ?_; rintro e w4 ⟨rfl, hB⟩; rw [HU.out]; (have HX9 := Lib.hid (below_heap HX9.out hB)); obtain ⟨x0, x1, -, x3⟩ := two_at HX9.out; (have HR9 := Lib.hid (HR9.out.below hB)); (have HB4 := Lib.hid (below_then HB3.out HB3.out.size hB)); clear hB)
        | ((have hgd := HB2); clear hgd; go_at_call 35; refine (sameu_any A7 A9 c7 c9 r _ HR7.out.1 HR9.out HR7.out.2 hc9 (by omega)).mono ?_; rintro e w3 ⟨rfl, hB⟩; (have HX9 := Lib.hid (below_heap HX9.out (drawn_below hB))); obtain ⟨x0, x1, -, x3⟩ := two_at HX9.out; (have HR9 := Lib.hid (HR9.out.drawn hB)); (have HB3 := Lib.hid (below_drawn HB2.out hB)); clear hB)
        | ((have hgd := HB1); clear hgd; go_at_call 34; refine (runits_ok s (by omega) r HG.out _).mono ?_; rintro e w2 ⟨⟨A9, c9, rfl, hc9, hR9⟩, hB⟩; (have HX9 := Lib.hid (heap_alloc_new w2 (.cells #[.slice A9 r.length c9, .int .i64 0] 55))); (have HR7 := Lib.hid (And.intro ((HR7.out.1.below hB).below (one_alloc _ (.cells #[.slice A9 r.length c9, .int .i64 0] 55))) HR7.out.2)); (have HR9 := Lib.hid (hR9.below (one_alloc _ (.cells #[.slice A9 r.length c9, .int .i64 0] 55)))); clear hR9; (have HB2 := Lib.hid (below_al (below_then HB1.out HB1.out.size hB) (.cells #[.slice A9 r.length c9, .int .i64 0] 55))); clear hB)
        | (go_at_call 33; refine (units_rd2 s (by omega) _ r HG.out).mono ?_; rintro e w1 ⟨⟨A7, c7, rfl, hR7⟩, hB⟩; (have HR7 := Lib.hid hR7); clear hR7; (have HB1 := Lib.hid hB); clear hB))
      go_ret
      exact ⟨rfl, HB11.out⟩
  · have q3' : 4096 < (l.length : Int) := by omega
    have HST : Hid (strM l = (⟨#[]⟩, 2)) := Lib.hid (by unfold strM; rw [if_neg q3]; rfl)
    cases hg : getU s with
    | none =>
      have HG := Lib.hid hg
      clear hg
      go_enter Tryd.func9, Tryd.ntmps9
      go_wp2_with (first
        | ((have hgd := HB7); clear hgd; go_at_call 15; refine (sanity_any _ (HT.out.below HB7.out)).mono ?_; rintro e w8 ⟨rfl, hB⟩; (have HX9 := Lib.hid (below_heap HX9.out hB)); obtain ⟨x0, x1, -, x3⟩ := two_at HX9.out; (have HB8 := Lib.hid (below_then HB7.out HB7.out.size hB)); clear hB)
        | ((have hgd := HB6); clear hgd; go_at_call 32; refine (upper_no s (by omega) _ HG.out).mono ?_; rintro e w7 ⟨rfl, hB⟩; (have HX9 := Lib.hid (below_heap HX9.out hB)); obtain ⟨x0, x1, -, x3⟩ := two_at HX9.out; (have HB7 := Lib.hid (below_then HB6.out HB6.out.size hB)); clear hB)
        | ((have hgd := HB5); clear hgd; go_at_call 37; refine (string_any A1 c1 l HU1.out _ (HR1.out.below HB5.out)).mono ?_; rintro e w6 ⟨rfl, hB⟩; rw [HST.out]; (have HX9 := Lib.hid (below_heap HX9.out hB)); obtain ⟨x0, x1, -, x3⟩ := two_at HX9.out; (have HB6 := Lib.hid (below_then HB5.out HB5.out.size hB)); clear hB)
        | ((have hgd := HB4); clear hgd; go_at_call 36; refine (rup_any u hu.1 hu.2 _).mono ?_; rintro e w5 ⟨rfl, rfl⟩; rw [HU.out]; (have HB5 := HB4))
        | ((have hgd := HB3); clear hgd; go_at_call 31; refine (up_any _ u hu.1 hu.2).mono ?_; rintro e w4 ⟨rfl, hB⟩; rw [HU.out]; (have HX9 := Lib.hid (below_heap HX9.out hB)); obtain ⟨x0, x1, -, x3⟩ := two_at HX9.out; (have HB4 := Lib.hid (below_then HB3.out HB3.out.size hB)); clear hB)
        | ((have hgd := HB2); clear hgd; go_at_call 35; refine (sameu_any none A9 0 c9 [] _ (rd_none _ .u16) ⟨rfl, by decide, fun j h => absurd h (Nat.not_lt_zero _)⟩ (by decide) (Nat.zero_le _) (by decide)).mono ?_; rintro e w3 ⟨rfl, hB⟩; (have HX9 := Lib.hid (below_heap HX9.out (drawn_below hB))); obtain ⟨x0, x1, -, x3⟩ := two_at HX9.out; (have HB3 := Lib.hid (below_drawn HB2.out hB)); clear hB)
        | ((have hgd := HB1); clear hgd; go_at_call 34; refine (runits_no s (by omega) HG.out _).mono ?_; rintro e w2 ⟨⟨A9, c9, rfl⟩, hB⟩; (have HX9 := Lib.hid (heap_alloc_new w2 (.cells #[.slice A9 0 c9, .int .i64 4] 55))); (have HB2 := Lib.hid (below_al (below_then HB1.out HB1.out.size hB) (.cells #[.slice A9 0 c9, .int .i64 4] 55))); clear hB)
        | (go_at_call 33; refine (units_no s (by omega) _ HG.out).mono ?_; rintro e w1 ⟨rfl, hB⟩; (have HB1 := Lib.hid hB); clear hB))
      go_ret
      exact ⟨rfl, HB8.out⟩
    | some r =>
      have hp := getU_props hg
      have HXU := Lib.hid hp.1
      have hrl : r.length ≤ 4096 := hp.2.2
      have HG := Lib.hid hg
      obtain ⟨S, hS⟩ : ∃ S, mkB (textM (r.map upM)) = S := ⟨_, rfl⟩
      have HS := Lib.hid hS
      clear hg hp hS
      go_enter Tryd.func9, Tryd.ntmps9
      go_wp2_with (first
        | ((have hgd := HB9); clear hgd; go_at_call 15; refine (sanity_any _ (HT.out.below HB9.out)).mono ?_; rintro e w10 ⟨rfl, hB⟩; (have HX9 := Lib.hid (below_heap HX9.out hB)); obtain ⟨x0, x1, -, x3⟩ := two_at HX9.out; (have HB10 := Lib.hid (below_then HB9.out HB9.out.size hB)); clear hB)
        | ((have hgd := HB8); clear hgd; go_at_call 38; refine (rstring_up A3 c3 r hc3 (by omega) HXU.out _ HR3.out).mono ?_; rintro e w9 ⟨rfl, hB⟩; rw [HS.out]; (have HX9 := Lib.hid (below_heap HX9.out hB)); obtain ⟨x0, x1, -, x3⟩ := two_at HX9.out; (have HB9 := Lib.hid (below_then HB8.out HB8.out.size hB)); clear hB)
        | ((have hgd := HB7); clear hgd; go_at_call 39; refine (rraised_any A9 c9 r (by omega) HXU.out _ HR9.out).mono ?_; rintro e w8 ⟨⟨A3, c3, rfl, hc3, hR3⟩, hB⟩; (have HX9 := Lib.hid (below_heap HX9.out hB)); obtain ⟨x0, x1, -, x3⟩ := two_at HX9.out; (have HR3 := Lib.hid hR3); clear hR3; (have HB8 := Lib.hid (below_then HB7.out HB7.out.size hB)); clear hB)
        | ((have hgd := HB6); clear hgd; go_at_call 32; refine (upper_ok s (by omega) _ r HG.out).mono ?_; rintro e w7 ⟨rfl, hB⟩; rw [HS.out]; (have HX9 := Lib.hid (below_heap HX9.out hB)); obtain ⟨x0, x1, -, x3⟩ := two_at HX9.out; (have HR9 := Lib.hid (HR9.out.below hB)); (have HB7 := Lib.hid (below_then HB6.out HB6.out.size hB)); clear hB)
        | ((have hgd := HB5); clear hgd; go_at_call 37; refine (string_any A1 c1 l HU1.out _ (HR1.out.below HB5.out)).mono ?_; rintro e w6 ⟨rfl, hB⟩; rw [HST.out]; (have HX9 := Lib.hid (below_heap HX9.out hB)); obtain ⟨x0, x1, -, x3⟩ := two_at HX9.out; (have HR9 := Lib.hid (HR9.out.below hB)); (have HB6 := Lib.hid (below_then HB5.out HB5.out.size hB)); clear hB)
        | ((have hgd := HB4); clear hgd; go_at_call 36; refine (rup_any u hu.1 hu.2 _).mono ?_; rintro e w5 ⟨rfl, rfl⟩; rw [HU.out]; (have HB5 := HB4))
        | ((have hgd := HB3); clear hgd; go_at_call 31; refine (up_any _ u hu.1 hu.2).mono ?_; rintro e w4 ⟨rfl, hB⟩; rw [HU.out]; (have HX9 := Lib.hid (below_heap HX9.out hB)); obtain ⟨x0, x1, -, x3⟩ := two_at HX9.out; (have HR9 := Lib.hid (HR9.out.below hB)); (have HB4 := Lib.hid (below_then HB3.out HB3.out.size hB)); clear hB)
        | ((have hgd := HB2); clear hgd; go_at_call 35; refine (sameu_any A7 A9 c7 c9 r _ HR7.out.1 HR9.out HR7.out.2 hc9 (by omega)).mono ?_; rintro e w3 ⟨rfl, hB⟩; (have HX9 := Lib.hid (below_heap HX9.out (drawn_below hB))); obtain ⟨x0, x1, -, x3⟩ := two_at HX9.out; (have HR9 := Lib.hid (HR9.out.drawn hB)); (have HB3 := Lib.hid (below_drawn HB2.out hB)); clear hB)
        | ((have hgd := HB1); clear hgd; go_at_call 34; refine (runits_ok s (by omega) r HG.out _).mono ?_; rintro e w2 ⟨⟨A9, c9, rfl, hc9, hR9⟩, hB⟩; (have HX9 := Lib.hid (heap_alloc_new w2 (.cells #[.slice A9 r.length c9, .int .i64 0] 55))); (have HR7 := Lib.hid (And.intro ((HR7.out.1.below hB).below (one_alloc _ (.cells #[.slice A9 r.length c9, .int .i64 0] 55))) HR7.out.2)); (have HR9 := Lib.hid (hR9.below (one_alloc _ (.cells #[.slice A9 r.length c9, .int .i64 0] 55)))); clear hR9; (have HB2 := Lib.hid (below_al (below_then HB1.out HB1.out.size hB) (.cells #[.slice A9 r.length c9, .int .i64 0] 55))); clear hB)
        | (go_at_call 33; refine (units_rd2 s (by omega) _ r HG.out).mono ?_; rintro e w1 ⟨⟨A7, c7, rfl, hR7⟩, hB⟩; (have HR7 := Lib.hid hR7); clear hR7; (have HB1 := Lib.hid hB); clear hB))
      go_ret
      exact ⟨rfl, HB10.out⟩
end Go.Proofs.YtmbdiimenmnfjaaDoor
/- NamesUnits: for every input the law returns true and leaves its arguments as they were; the three listed tables of the library are tied to the program's text. Conditions: none beyond the row. -/
namespace Go.Proofs.YtmbdiimenmnfjaaDoor
open Go.Shelf Go.ChangeShapes Go.WideShapes Go.ChangeAt Go.RowKit Go.Deep
open Go.ChangeMaps (open_string shut_string)
set_option linter.unusedVariables false
set_option maxRecDepth 100000

theorem namesUnits_witness (os : Os) {H : Type} (enc : TypeId × Value → H) :
    (OpenSpec.ofChange Rows.namesUnitsSpec).preRow enc Tryd.prog Tryd.f9 Rows.namesUnitsRow.domain false Rows.namesUnitsRow.laid ((laidWorld os).forCall (fun _ _ => 0) ⟨#[], #[.string ⟨#[]⟩, .slice none 0 0, .int .u16 0], []⟩).memory #[.string ⟨#[]⟩, .slice none 0 0, .int .u16 0] := by
  have hw : (DataW.whole enc Tryd.prog ((laidWorld os).forCall (fun _ _ => 0) ⟨#[], #[.string ⟨#[]⟩, .slice none 0 0, .int .u16 0], []⟩).memory Tryd.f9.params.toList (OpenSpec.ofChange Rows.namesUnitsSpec).vars false ((#[.string ⟨#[]⟩, .slice none 0 0, .int .u16 0] : Array Value).toList) 8).map (fun x => (x.1, x.2.1)) =
      some ([.lit (.string []), .nil, .lit (.int .u16 0)], []) := by kernel_rfl
  obtain ⟨⟨x1, x2, x3⟩, hx, hx1⟩ := Option.map_eq_some_iff.1 hw
  simp only [Prod.mk.injEq] at hx1
  obtain ⟨rfl, rfl⟩ := hx1
  exact OpenSpec.preRow_of_cond 8 hx (by kernel_rfl) (fun k hk => by cases hk) (by kernel_rfl) (laid_met os _)

set_option maxHeartbeats 2000000 in
theorem namesUnits_lifted (os : Os) (started : os.Started) (H : Type) (enc : TypeId × Value → H) (F : Stop.Interp) :
    ReturnsInHanded {} Tryd.checked os 9 .any ((OpenSpec.ofChange Rows.namesUnitsSpec).preRow enc Tryd.prog Tryd.f9 Rows.namesUnitsRow.domain false Rows.namesUnitsRow.laid) (((OpenSpec.ofChange Rows.namesUnitsSpec).at F).post enc Tryd.prog Tryd.f9 false true false false) := by
  refine returnsInHanded_of_row (C := Tryd.checked) (s := (OpenSpec.ofChange Rows.namesUnitsSpec)) Tryd.own started (by kernel_rfl) Tryd.func9
    (witness_row_atRef (enc := enc) (C := Tryd.checked) false (laidWorld os) #[.string ⟨#[]⟩, .slice none 0 0, .int .u16 0] rfl (by kernel_rfl) (by kernel_rfl) (by kernel_rfl) (namesUnits_witness os enc)) ?_
  intro W base args ds gs before hval0 hW hcnd0 _ _ hL _ _
  have hval : ∀ (j : Nat) t v, Tryd.f9.params[j]? = some t → args[j]? = some v → Value.okWide Tryd.prog W .any base t v := hval0
  have hW' := hW
  obtain ⟨p, q, hA0, hV0, rfl, _, _⟩ := hW
  have hA : DataW.TrodAll enc Tryd.prog W 0 (fun _ => true) true Tryd.f9.params.toList args.toList ds p := hA0
  rw [Tryd.params9] at hA hval
  obtain ⟨v0, v1, v2, d0, d1, d2, p0, p1, p2, rfl, rfl, rfl, h0, h1, h2⟩ := trodAll_three hA
  obtain ⟨rfl, rfl⟩ := trodVars_none hV0
  obtain ⟨s0, rfl, rfl, rfl, ws0⟩ := open_string Tryd.underlying9 (hval 0 9 v0 rfl rfl) h0
  obtain ⟨A1, c1, b1, rfl, hc1, hm1, hR1, hU1, hN1⟩ := open_units (hval 1 49 v1 rfl rfl) h1
  obtain ⟨a2, rfl, rfl, rfl, wa2⟩ := open_int Tryd.underlying46 (hval 2 46 v2 rfl rfl) h2
  clear hA0 hV0 hval0
  have hlt1 : ∀ x ∈ p1, x.block < W.heap.size := fun x hx => hW'.lt x (by simp [hx])
  refine (law_NamesUnits s0 A1 c1 b1 hc1 hN1 (by unfold maxLen at hm1; omega) hU1 a2 (by simp only [Lit.wf, Bool.and_eq_true, decide_eq_true_eq] at wa2; exact wa2) W (tab_of_laid hL) hR1).mono ?_
  rintro e W' ⟨rfl, bel⟩
  refine ⟨_, rfl, _, _, _, [], _, [], hW', trodAll_mk1 (shut_bool true), trodAll_mk3 (shut_string Tryd.underlying9 ws0) (Below.trod Tryd.laidOut (by kernel_rfl) (of_decide_eq_true (by kernel_rfl)) h1 bel hlt1) (shut_int Tryd.underlying46 wa2), rfl, bel.frame _, fun h => by cases h⟩

theorem namesUnits_said : Rows.NamesUnitsSaid :=
  OpenClaim.holds_of_cond 9 Tryd.f9 rfl rfl rfl rfl rfl rfl rfl ⟨rfl, rfl, rfl, rfl, rfl⟩ rfl rfl rfl rfl rfl (by kernel_rfl) Tryd.func9 (by kernel_rfl)
    (of_decide_eq_true (by kernel_rfl)) (by unfold Func.isWrapper; rw [if_neg (of_decide_eq_false (by kernel_rfl))]; exact ⟨rfl, rfl⟩)
    (fun os started H enc _ F0 => by rw [OpenClaim.pre_eq_preRow]; exact namesUnits_lifted os started H enc F0)

/-- The tied card. -/
theorem namesUnits_holds : Rows.NamesUnitsCardSaid :=
  Claim7.holds_tied_plain_at .later [] [.data, .data, .data] true (true, "66086631d20495c7847d46aa70f2f13bc49942b8d180c92b9434ef6fd88d0904") true
    namesUnits_said (fun _ h => by cases h) (by kernel_rfl) (fun _ h => by cases h) namesUnits_row_tie rfl ⟨rfl, rfl⟩ (by kernel_rfl) rfl
    (fun f fn hf hfn => by
      obtain rfl : f = 9 := Option.some.inj ((show Tryd.prog.funcNamed "archivolt/archivoltlaw05.NamesUnits" = some 9 by kernel_rfl).symm.trans hf) |>.symm
      obtain rfl : fn = Tryd.f9 := (Option.some.inj (Tryd.func9.symm.trans hfn)).symm
      refine ⟨by kernel_rfl, fun j t ht => ?_⟩
      rw [Tryd.params9] at ht
      have hm := List.mem_of_getElem? (l := [9, 49, 46]) (by simpa using ht)
      have hall : ∀ t ∈ ([9, 49, 46] : List TypeId), Tryd.prog.wantsStandIn t = false := by
        intro t ht
        simp only [List.mem_cons, List.not_mem_nil, or_false] at ht
        rcases ht with rfl | rfl | rfl <;> kernel_rfl
      exact hall t hm)
    (by kernel_rfl)
#print axioms namesUnits_holds
end Go.Proofs.YtmbdiimenmnfjaaDoor
