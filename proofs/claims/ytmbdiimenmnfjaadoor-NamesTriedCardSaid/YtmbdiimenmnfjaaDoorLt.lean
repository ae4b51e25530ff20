/- The upper case: plain facts. -/
import Derived.Test.YtmbdiimenmnfjaaDoorGa
import Derived.Test.YtmbdiimenmnfjaaDoorGd
import Derived.Test.YtmbdiimenmnfjaaDoorGb
import Derived.Test.YtmbdiimenmnfjaaDoorGc
import Derived.Test.YtmbdiimenmnfjaaDoorPNamesNamesx48
import Derived.Test.YtmbdiimenmnfjaaDoorPNamesNamesx50
import Derived.Test.YtmbdiimenmnfjaaDoorPNamesNamesx57
import Derived.Test.YtmbdiimenmnfjaaDoorTie
import Derived.Test.YtmbdiimenmnfjaaDoorCards
import Derived.Test.YtmbdiimenmnfjaaDoorGf
import Derived.Deep.DeepHandedRow
import Derived.Deep.DeepWitnessRowRef
import Derived.ProofKit
import Derived.SizedLaws
import Derived.Lib.LaidTab
import Derived.Lib.LaidIn
import Derived.Carry
import Derived.Stop.LaidErr
import Derived.SliceStrings
import Derived.Laws.AppendOwnNone
namespace Go.Proofs.YtmbdiimenmnfjaaDoor
open Go.RowKit
set_option linter.unusedVariables false
set_option maxRecDepth 100000

theorem upL_big (u : Int) (h : 1153 < u) : ∀ l, (∀ r ∈ l, r ∈ rowsL) → upL u l = u
  | [], _ => rfl
  | r :: rs, hr => by
    simp only [upL]
    rw [if_neg, upL_big u h rs fun x hx => hr x (List.mem_cons_of_mem _ hx)]
    intro hh
    have hm := hr r (List.mem_cons_self ..)
    simp only [rowsL, List.mem_cons, List.not_mem_nil, or_false] at hm
    unfold hitR at hh
    rcases hm with rfl | rfl | rfl | rfl | rfl | rfl | rfl | rfl | rfl | rfl | rfl | rfl | rfl <;> simp only at hh <;> omega
theorem upM_big (u : Int) (h : 1153 < u) : upM u = u := upL_big u h rowsL fun r hr => hr
theorem up_small : ∀ n : Nat, n < 1154 → upM (upM (n : Int)) = upM (n : Int) := by decide +kernel
theorem upM_idem (u : Int) (h0 : 0 ≤ u) : upM (upM u) = upM u := by
  rcases Int.lt_or_le 1153 u with h | h
  · rw [upM_big u h, upM_big u h]
  · obtain ⟨n, rfl⟩ : ∃ n : Nat, u = n := ⟨u.toNat, by omega⟩
    exact up_small n (by omega)
theorem map_up_idem {l : List Int} (h : U16 l) : (l.map upM).map upM = l.map upM := by
  rw [List.map_map]
  exact List.map_congr_left fun u hu => upM_idem u (h u hu).1
end Go.Proofs.YtmbdiimenmnfjaaDoor
/- What several laws share. -/
namespace Go.Proofs.YtmbdiimenmnfjaaDoor
open Go.RowKit Go.Deep
set_option linter.unusedVariables false

/-- Key, whatever the string. -/
theorem key_gen (s : ByteArray) (hs : s.size ≤ 40000) (w : World) : Calls Tryd.prog 17 #[.string s] w fun e w' => ∃ v, e = .returned (.tuple #[v, .int .i64 (checkM s)]) ∧ Below w.heap.size w w' := by
  by_cases hc : checkM s = 0
  · obtain ⟨r, hg, -⟩ := check_units hc
    rw [hc]
    exact (key_ok s hs w hc r hg).mono fun e w' ⟨v, he, _, hB⟩ => ⟨v, he, hB⟩
  · exact (key_no s hs w hc).mono fun e w' ⟨he, hB⟩ => ⟨_, he, hB⟩
theorem key_rd (s : ByteArray) (hs : s.size ≤ 40000) (w : World) (hc : checkM s = 0) (r : List Int) (hg : getU s = some r) :
    Calls Tryd.prog 17 #[.string s] w fun e w' => ∃ A c, e = .returned (.tuple #[.slice A (keyM r).length c, .int .i64 0]) ∧ Rd w' .u8 A (keyM r).length (keyM r) ∧ Below w.heap.size w w' :=
  (key_ok s hs w hc r hg).mono fun e w' ⟨v, he, hO, hB⟩ => by
    obtain ⟨A, c, rfl, hc', hRd, -⟩ := own_nums hO (by
      obtain ⟨r', hg', h1, h2, -⟩ := check_units hc
      rw [hg] at hg'; cases hg'
      rw [show keyM r = keyB (r.map upM ++ [0] ++ r) from rfl, keyB_len]
      simp; omega)
    exact ⟨A, c, he, hRd, hB⟩

theorem sameM_symm (a b : ByteArray) : sameM b a = sameM a b := by
  rw [Bool.eq_iff_iff, sameM_iff, sameM_iff]
  constructor
  · rintro (h | ⟨x, y, h1, h2, h3⟩)
    · exact Or.inl h.symm
    · exact Or.inr ⟨y, x, h2, h1, h3.symm⟩
  · rintro (h | ⟨x, y, h1, h2, h3⟩)
    · exact Or.inl h.symm
    · exact Or.inr ⟨y, x, h2, h1, h3.symm⟩
theorem sameM_trans {a b c : ByteArray} (h1 : sameM a b = true) (h2 : sameM b c = true) : sameM a c = true := by
  rcases (sameM_iff a b).1 h1 with rfl | ⟨x, y, ha, hb, hxy⟩
  · exact h2
  · rcases (sameM_iff b c).1 h2 with rfl | ⟨y', z, hb', hc, hyz⟩
    · exact h1
    · rw [hb] at hb'
      cases hb'
      exact (sameM_iff a c).2 (Or.inr ⟨x, z, ha, hc, hxy.trans hyz⟩)
theorem units_rd (s : ByteArray) (hs : s.size ≤ 100000) (w : World) (r : List Int) (h : getU s = some r) :
    Calls Tryd.prog 33 #[.string s] w fun e w' => (∃ A c, e = .returned (.tuple #[.slice A r.length c, .int .i64 0])) ∧ Below w.heap.size w w' :=
  (units_ok s hs w r h).mono fun e w' ⟨v, he, hO, hB⟩ => by
    obtain ⟨A, c, rfl, hc⟩ := own_is_slice hO
    exact ⟨⟨A, c, he⟩, hB⟩
theorem getU_up {s : ByteArray} {r : List Int} (h : getU s = some r) : getU (upS r) = some (r.map upM) := by
  have hp := getU_props h
  exact getU_text hp.1.map_up (by rw [List.length_map]; exact hp.2.2)
theorem upS_size (r : List Int) : (upS r).size ≤ 4 * r.length := by
  unfold upS
  rw [mkB_size]
  have := textM_len (r.map upM)
  rwa [List.length_map] at this

end Go.Proofs.YtmbdiimenmnfjaaDoor
/- Bytes of parts and of sums. -/
namespace Go.Proofs.YtmbdiimenmnfjaaDoor
open Go.RowKit Go.Deep
set_option linter.unusedVariables false

theorem bts_take (s : ByteArray) (n : Nat) : bts (s.extract 0 n) = (bts s).take n := by
  unfold bts
  rw [ByteArray.data_extract, Array.toList_extract, List.extract_eq_take_drop, List.drop_zero, Nat.sub_zero, List.map_take]
theorem bts_append (x y : ByteArray) : bts (x ++ y) = bts x ++ bts y := by
  unfold bts
  rw [ByteArray.data_append, Array.toList_append, List.map_append]
theorem bts_at {s : ByteArray} {k : Nat} {c : UInt8} (h : s.data.toList[k]? = some c) : (bts s)[k]? = some (c.toNat : Int) := by
  unfold bts
  rw [List.getElem?_map, h]; rfl
end Go.Proofs.YtmbdiimenmnfjaaDoor
/- The document's Units: what was printed of it is the model. -/
namespace Go.Proofs.YtmbdiimenmnfjaaDoor
open Go.RowKit Go.Deep
open Go.Proofs.YtmbdiimenmnfjaaDoor.PNamesNames
open Go.Proofs.YtmbdiimenmnfjaaDoorW.PrintWords (rd bt Drawn0 Kd)
set_option linter.unusedVariables false
set_option linter.unusedSimpArgs false

theorem w64 (x : Int) (h0 : -4611686018427387904 ≤ x) (h1 : x ≤ 4611686018427387904) : wrap64 x = x := by unfold wrap64; omega
theorem bt_bts (s : ByteArray) (i : Nat) (h : i < s.size) : bt s (i : Int) = (bts s).getD i 0 := by
  rw [bts_get s i h]
  unfold bt
  rw [dif_pos (by simpa using h)]
  rfl
/-- A byte that goes on, as a number; -1 if it is none. -/
def contV (s : List Int) (i : Nat) : Int := match contM s i with
  | some x => x
  | none => -1
theorem contV_bd (s : List Int) (i : Nat) : -1 ≤ contV s i ∧ contV s i ≤ 63 := by
  unfold contV
  cases h : contM s i with
  | none => simp
  | some x => have := contM_bd h; simp only; omega
theorem more_f (s : ByteArray) (i : Nat) (hi : i ≤ 1000000000) : archivoltref05_more.f s (i : Int) = some (contV (bts s) i) := by
  unfold archivoltref05_more.f contV contM
  by_cases h : i < s.size
  · have hb := bts_bd s i
    rw [if_neg (by omega), if_pos (by omega), if_pos (by omega), bt_bts s i h, bts_len]
    by_cases h1 : (bts s).getD i 0 < 128
    · rw [if_pos h1, if_neg (by omega)]
    · rw [if_neg h1]
      by_cases h2 : (bts s).getD i 0 ≥ 192
      · rw [if_pos h2, if_neg (by omega)]
      · rw [if_neg h2, if_pos (by omega), w64 ((bts s).getD i 0) (by omega) (by omega), w64 _ (by omega) (by omega)]
  · rw [if_pos (by omega), if_neg (by rw [bts_len]; omega)]
/-- The code point as numbers. -/
def pointR (b x y z : Int) : Int × Int :=
  if 194 ≤ b ∧ b < 224 ∧ 0 ≤ x then ((b - 192) * 64 + x, 2)
  else if 224 ≤ b ∧ b < 240 ∧ 0 ≤ x ∧ 0 ≤ y ∧ 2048 ≤ (b - 224) * 4096 + x * 64 + y then ((b - 224) * 4096 + x * 64 + y, 3)
  else if 240 ≤ b ∧ b < 248 ∧ 0 ≤ x ∧ 0 ≤ y ∧ 0 ≤ z ∧ 65536 ≤ (b - 240) * 262144 + x * 4096 + y * 64 + z ∧ (b - 240) * 262144 + x * 4096 + y * 64 + z ≤ 1114111 then ((b - 240) * 262144 + x * 4096 + y * 64 + z, 4)
  else (0, 0)
theorem j2_f (k : Nat) (b x y z : Int) (q : Bool) (hb : 0 ≤ b ∧ b ≤ 255) (hx : -1 ≤ x ∧ x ≤ 63) (hy : -1 ≤ y ∧ y ≤ 63) (hz : -1 ≤ z ∧ z ≤ 63) :
    archivoltref05_first.j2 (k + 1) b x y z q = some (if q = true ∧ 65536 ≤ (b - 240) * 262144 + x * 4096 + y * 64 + z ∧ (b - 240) * 262144 + x * 4096 + y * 64 + z ≤ 1114111 then ((b - 240) * 262144 + x * 4096 + y * 64 + z, 4) else (0, 0)) := by
  have e : wrap64 ((wrap64 ((wrap64 ((wrap64 ((wrap64 (b - 240)) * 262144)) + (wrap64 (x * 4096)))) + (wrap64 (y * 64)))) + z) = (b - 240) * 262144 + x * 4096 + y * 64 + z := by
    rw [w64 (b - 240) (by omega) (by omega), w64 ((b - 240) * 262144) (by omega) (by omega), w64 (x * 4096) (by omega) (by omega), w64 ((b - 240) * 262144 + x * 4096) (by omega) (by omega), w64 (y * 64) (by omega) (by omega), w64 ((b - 240) * 262144 + x * 4096 + y * 64) (by omega) (by omega), w64 _ (by omega) (by omega)]
  rw [archivoltref05_first.j2]
  rw [e]
  cases q with
  | false => simp
  | true =>
    by_cases h1 : (b - 240) * 262144 + x * 4096 + y * 64 + z ≥ 65536
    · by_cases h2 : (b - 240) * 262144 + x * 4096 + y * 64 + z ≤ 1114111
      · rw [if_pos rfl, if_pos h1, if_pos h2, if_pos ⟨rfl, h1, h2⟩]
      · rw [if_pos rfl, if_pos h1, if_neg h2, if_neg (fun h => h2 h.2.2)]
    · rw [if_pos rfl, if_neg h1, if_neg (fun h => h1 h.2.1)]
theorem j1_f (k : Nat) (b x y z : Int) (q : Bool) (hb : 0 ≤ b ∧ b ≤ 255) (hx : -1 ≤ x ∧ x ≤ 63) (hy : -1 ≤ y ∧ y ≤ 63) (hz : -1 ≤ z ∧ z ≤ 63) :
    archivoltref05_first.j1 (k + 2) b x y z q = some (if q = true then (if 2048 ≤ (b - 224) * 4096 + x * 64 + y then ((b - 224) * 4096 + x * 64 + y, 3) else (0, 0)) else if 240 ≤ b ∧ b < 248 ∧ 0 ≤ x ∧ 0 ≤ y ∧ 0 ≤ z ∧ 65536 ≤ (b - 240) * 262144 + x * 4096 + y * 64 + z ∧ (b - 240) * 262144 + x * 4096 + y * 64 + z ≤ 1114111 then ((b - 240) * 262144 + x * 4096 + y * 64 + z, 4) else (0, 0)) := by
  have e : wrap64 ((wrap64 ((wrap64 ((wrap64 (b - 224)) * 4096)) + (wrap64 (x * 64)))) + y) = (b - 224) * 4096 + x * 64 + y := by
    rw [w64 (b - 224) (by omega) (by omega), w64 ((b - 224) * 4096) (by omega) (by omega), w64 (x * 64) (by omega) (by omega), w64 ((b - 224) * 4096 + x * 64) (by omega) (by omega), w64 _ (by omega) (by omega)]
  rw [archivoltref05_first.j1]
  rw [e]
  cases q with
  | true =>
    rw [if_pos rfl, if_pos rfl]
    by_cases h : (b - 224) * 4096 + x * 64 + y ≥ 2048
    · rw [if_pos h, if_pos h]
    · rw [if_neg h, if_neg h]
  | false =>
    have hf : ¬ (false = true) := by decide
    rw [if_neg hf, if_neg hf]
    have hj := fun q => j2_f k b x y z q hb hx hy hz
    simp only [hj]
    by_cases h1 : b ≥ 240
    · by_cases h2 : b < 248
      · by_cases h3 : x ≥ 0
        · by_cases h4 : y ≥ 0
          · rw [if_pos h1, if_pos h2, if_pos h3, if_pos h4]
            by_cases h5 : z ≥ 0
            · rw [decide_eq_true h5]
              congr 1
              by_cases h6 : 65536 ≤ (b - 240) * 262144 + x * 4096 + y * 64 + z ∧ (b - 240) * 262144 + x * 4096 + y * 64 + z ≤ 1114111
              · rw [if_pos ⟨rfl, h6⟩, if_pos ⟨h1, h2, h3, h4, h5, h6⟩]
              · rw [if_neg (fun h => h6 h.2), if_neg (fun h => h6 h.2.2.2.2.2)]
            · rw [decide_eq_false h5, if_neg (fun h => hf h.1), if_neg (fun h => h5 h.2.2.2.2.1)]
          · rw [if_pos h1, if_pos h2, if_pos h3, if_neg h4, if_neg (fun h => hf h.1), if_neg (fun h => h4 h.2.2.2.1)]
        · rw [if_pos h1, if_pos h2, if_neg h3, if_neg (fun h => hf h.1), if_neg (fun h => h3 h.2.2.1)]
      · rw [if_pos h1, if_neg h2, if_neg (fun h => hf h.1), if_neg (fun h => h2 h.2.1)]
    · rw [if_neg h1, if_neg (fun h => hf h.1), if_neg (fun h => h1 h.1)]
theorem j0_f (k : Nat) (b x y z : Int) (q : Bool) (hb : 0 ≤ b ∧ b ≤ 255) (hx : -1 ≤ x ∧ x ≤ 63) (hy : -1 ≤ y ∧ y ≤ 63) (hz : -1 ≤ z ∧ z ≤ 63) (hq : q = decide (194 ≤ b ∧ b < 224 ∧ 0 ≤ x)) :
    archivoltref05_first.j0 (k + 3) b x y z q = some (pointR b x y z) := by
  rw [archivoltref05_first.j0]
  have hf : ¬ (false = true) := by decide
  have hj := fun q => j1_f k b x y z q hb hx hy hz
  cases q with
  | true =>
    have h := of_decide_eq_true hq.symm
    rw [if_pos rfl, w64 (b - 192) (by omega) (by omega), w64 ((b - 192) * 64) (by omega) (by omega), w64 _ (by omega) (by omega)]
    unfold pointR
    rw [if_pos h]
  | false =>
    have h := of_decide_eq_false hq.symm
    rw [if_neg hf]
    simp only [hj]
    unfold pointR
    rw [if_neg h]
    by_cases h1 : b ≥ 224
    · by_cases h2 : b < 240
      · have h240 : ¬ (240 ≤ b ∧ b < 248 ∧ 0 ≤ x ∧ 0 ≤ y ∧ 0 ≤ z ∧ 65536 ≤ (b - 240) * 262144 + x * 4096 + y * 64 + z ∧ (b - 240) * 262144 + x * 4096 + y * 64 + z ≤ 1114111) := fun h => by omega
        by_cases h3 : x ≥ 0
        · rw [if_pos h1, if_pos h2, if_pos h3]
          by_cases h4 : y ≥ 0
          · rw [decide_eq_true h4, if_pos rfl]
            congr 1
            by_cases h5 : 2048 ≤ (b - 224) * 4096 + x * 64 + y
            · rw [if_pos h5, if_pos ⟨h1, h2, h3, h4, h5⟩]
            · rw [if_neg h5, if_neg (fun h => h5 h.2.2.2.2), if_neg h240]
          · rw [decide_eq_false h4, if_neg hf, if_neg h240, if_neg (fun h => h4 h.2.2.2.1)]
        · rw [if_pos h1, if_pos h2, if_neg h3, if_neg hf, if_neg h240, if_neg (fun h => h3 h.2.2.1)]
      · rw [if_pos h1, if_neg h2, if_neg hf, if_neg (fun h : 224 ≤ b ∧ b < 240 ∧ 0 ≤ x ∧ 0 ≤ y ∧ 2048 ≤ (b - 224) * 4096 + x * 64 + y => h2 h.2.1)]
    · rw [if_neg h1, if_neg hf, if_neg (fun h : 224 ≤ b ∧ b < 240 ∧ 0 ≤ x ∧ 0 ≤ y ∧ 2048 ≤ (b - 224) * 4096 + x * 64 + y => h1 h.1)]
theorem contM_drop (s : List Int) (i j : Nat) (hi : i ≤ s.length) : contM (s.drop i) j = contM s (i + j) := by
  unfold contM
  have e : (s.drop i).getD j 0 = s.getD (i + j) 0 := by simp [List.getD_eq_getElem?_getD]
  rw [e, List.length_drop]
  by_cases h : j < s.length - i
  · have h' : i + j < s.length := by omega
    simp only [h, h', true_and]
  · have h' : ¬ i + j < s.length := by omega
    simp only [h, h', false_and, if_false]
theorem contV_nonneg {s : List Int} {i : Nat} (h : 0 ≤ contV s i) : contM s i = some (contV s i) := by
  unfold contV at h ⊢
  cases hx : contM s i with
  | none => rw [hx] at h; simp at h
  | some x => rfl
theorem contV_neg {s : List Int} {i : Nat} (h : ¬ 0 ≤ contV s i) : contM s i = none := by
  unfold contV at h
  cases hx : contM s i with
  | none => rfl
  | some x => rw [hx] at h; have := contM_bd hx; simp only at h; omega
/-- What is said of a code point. -/
def pairP : Option (Int × Nat) → Int × Int
  | some (c, n) => (c, n)
  | none => (0, 0)
theorem goM_1 (s : List Int) (c : Int) : goM s 1 1 c = if 0 ≤ contV s 1 then some (c * 64 + contV s 1) else none := by
  unfold goM
  by_cases h : 0 ≤ contV s 1
  · rw [contV_nonneg h, if_pos h]; rfl
  · rw [contV_neg h, if_neg h]
theorem goM_2 (s : List Int) (c : Int) : goM s 2 1 c = if 0 ≤ contV s 1 ∧ 0 ≤ contV s 2 then some ((c * 64 + contV s 1) * 64 + contV s 2) else none := by
  unfold goM
  by_cases h : 0 ≤ contV s 1
  · rw [contV_nonneg h]
    simp only
    unfold goM
    by_cases h2 : 0 ≤ contV s 2
    · rw [contV_nonneg h2, if_pos ⟨h, h2⟩]; rfl
    · rw [contV_neg h2, if_neg (fun q => h2 q.2)]
  · rw [contV_neg h, if_neg (fun q => h q.1)]
theorem goM_3 (s : List Int) (c : Int) : goM s 3 1 c = if 0 ≤ contV s 1 ∧ 0 ≤ contV s 2 ∧ 0 ≤ contV s 3 then some (((c * 64 + contV s 1) * 64 + contV s 2) * 64 + contV s 3) else none := by
  unfold goM
  by_cases h : 0 ≤ contV s 1
  · rw [contV_nonneg h]
    simp only
    unfold goM
    by_cases h2 : 0 ≤ contV s 2
    · rw [contV_nonneg h2]
      simp only
      unfold goM
      by_cases h3 : 0 ≤ contV s 3
      · rw [contV_nonneg h3, if_pos ⟨h, h2, h3⟩]; rfl
      · rw [contV_neg h3, if_neg (fun q => h3 q.2.2)]
    · rw [contV_neg h2, if_neg (fun q => h2 q.2.1)]
  · rw [contV_neg h, if_neg (fun q => h q.1)]
theorem point_R (s : List Int) (h0 : 128 ≤ s.getD 0 0) : pairP (pointM s) = pointR (s.getD 0 0) (contV s 1) (contV s 2) (contV s 3) := by
  obtain ⟨b, hb⟩ : ∃ b, s.getD 0 0 = b := ⟨_, rfl⟩
  obtain ⟨x, hx⟩ : ∃ x, contV s 1 = x := ⟨_, rfl⟩
  obtain ⟨y, hy⟩ : ∃ y, contV s 2 = y := ⟨_, rfl⟩
  obtain ⟨z, hz⟩ : ∃ z, contV s 3 = z := ⟨_, rfl⟩
  have bx := contV_bd s 1
  have by_ := contV_bd s 2
  have bz := contV_bd s 3
  unfold pointM pointC
  simp only [Nat.reduceSub]
  rw [goM_1, goM_2, goM_3]
  rw [hb] at h0 ⊢
  rw [hx] at bx ⊢
  rw [hy] at by_ ⊢
  rw [hz] at bz ⊢
  clear hb hx hy hz
  rw [if_neg (by omega)]
  unfold pointR
  by_cases q1 : 192 ≤ b ∧ b < 224
  · rw [if_pos q1]
    by_cases q2 : 0 ≤ x
    · rw [if_pos q2]
      simp only [pickP]
      by_cases q3 : 194 ≤ b
      · rw [if_neg (by omega), if_pos ⟨q3, q1.2, q2⟩]; rfl
      · rw [if_pos (by omega), if_neg (fun h => q3 h.1), if_neg (fun h => by omega), if_neg (fun h => by omega)]; rfl
    · rw [if_neg q2, if_neg (fun h => q2 h.2.2), if_neg (fun h => by omega), if_neg (fun h => by omega)]; rfl
  · rw [if_neg q1, if_neg (show ¬ (194 ≤ b ∧ b < 224 ∧ 0 ≤ x) from fun h => q1 ⟨by omega, h.2.1⟩)]
    by_cases q2 : 224 ≤ b ∧ b < 240
    · rw [if_pos q2]
      by_cases q3 : 0 ≤ x ∧ 0 ≤ y
      · rw [if_pos q3]
        simp only [pickP]
        have e : ((b - 224) * 64 + x) * 64 + y = (b - 224) * 4096 + x * 64 + y := by omega
        rw [e]
        by_cases q4 : 2048 ≤ (b - 224) * 4096 + x * 64 + y
        · rw [if_neg (by omega), if_pos ⟨q2.1, q2.2, q3.1, q3.2, q4⟩]; rfl
        · rw [if_pos (by omega), if_neg (fun h => q4 h.2.2.2.2), if_neg (fun h => by omega)]; rfl
      · rw [if_neg q3, if_neg (fun h => q3 ⟨h.2.2.1, h.2.2.2.1⟩), if_neg (fun h => by omega)]; rfl
    · rw [if_neg q2, if_neg (show ¬ (224 ≤ b ∧ b < 240 ∧ 0 ≤ x ∧ 0 ≤ y ∧ 2048 ≤ (b - 224) * 4096 + x * 64 + y) from fun h => q2 ⟨h.1, h.2.1⟩)]
      by_cases q3 : 240 ≤ b ∧ b < 248
      · rw [if_pos q3]
        by_cases q4 : 0 ≤ x ∧ 0 ≤ y ∧ 0 ≤ z
        · rw [if_pos q4]
          simp only [pickP]
          have e : (((b - 240) * 64 + x) * 64 + y) * 64 + z = (b - 240) * 262144 + x * 4096 + y * 64 + z := by omega
          rw [e]
          by_cases q5 : 65536 ≤ (b - 240) * 262144 + x * 4096 + y * 64 + z ∧ (b - 240) * 262144 + x * 4096 + y * 64 + z ≤ 1114111
          · rw [if_neg (by omega), if_pos ⟨q3.1, q3.2, q4.1, q4.2.1, q4.2.2, q5⟩]; rfl
          · rw [if_pos (by omega), if_neg (fun h => q5 h.2.2.2.2.2)]; rfl
        · rw [if_neg q4, if_neg (fun h => q4 ⟨h.2.2.1, h.2.2.2.1, h.2.2.2.2.1⟩)]; rfl
      · rw [if_neg q3, if_neg (fun h => q3 ⟨h.1, h.2.1⟩)]; rfl
theorem first_f (s : ByteArray) (i k : Nat) (hs : s.size ≤ 1000000) (hi : i < s.size) : archivoltref05_first.f (k + 3) s (i : Int) = some (pairP (pointM ((bts s).drop i))) := by
  have hb := bts_bd s i
  have hl : i < (bts s).length := by rw [bts_len]; exact hi
  have e0 : ((bts s).drop i).getD 0 0 = (bts s).getD i 0 := by simp [List.getD_eq_getElem?_getD]
  have ec : ∀ j, contV ((bts s).drop i) j = contV (bts s) (i + j) := fun j => by unfold contV; rw [contM_drop _ _ _ (by omega)]
  unfold archivoltref05_first.f
  rw [if_pos (by omega), if_pos (by omega), bt_bts s i hi, w64 _ (by omega) (by omega)]
  by_cases h : (bts s).getD i 0 < 128
  · rw [if_pos h]
    have : pointM ((bts s).drop i) = some ((bts s).getD i 0, 1) := by unfold pointM; rw [e0, if_pos h]
    rw [this]; rfl
  · rw [if_neg h, point_R _ (by rw [e0]; omega), e0, ec, ec, ec]
    have w1 : wrap64 ((i : Int) + 1) = ((i + 1 : Nat) : Int) := by rw [w64 _ (by omega) (by omega)]; rfl
    have w2 : wrap64 ((i : Int) + 2) = ((i + 2 : Nat) : Int) := by rw [w64 _ (by omega) (by omega)]; rfl
    have w3 : wrap64 ((i : Int) + 3) = ((i + 3 : Nat) : Int) := by rw [w64 _ (by omega) (by omega)]; rfl
    rw [w1, w2, w3, more_f s (i + 1) (by omega), more_f s (i + 2) (by omega), more_f s (i + 3) (by omega)]
    simp only [Option.bind_some]
    obtain ⟨b, hbb⟩ : ∃ b, (bts s).getD i 0 = b := ⟨_, rfl⟩
    rw [hbb] at hb h ⊢
    have hj := fun q hq => j0_f k b (contV (bts s) (i + 1)) (contV (bts s) (i + 2)) (contV (bts s) (i + 3)) q hb (contV_bd _ _) (contV_bd _ _) (contV_bd _ _) hq
    by_cases q1 : b ≥ 194
    · by_cases q2 : b < 224
      · rw [if_pos q1, if_pos q2]
        exact hj _ (by rw [decide_eq_decide]; exact ⟨fun h => ⟨q1, q2, h⟩, fun h => h.2.2⟩)
      · rw [if_pos q1, if_neg q2]
        exact hj _ (by rw [decide_eq_false]; exact fun h => q2 h.2.1)
    · rw [if_neg q1]
      exact hj _ (by rw [decide_eq_false]; exact fun h => q1 h.1)
/-- What the units of bytes come to. -/
def finU (acc : List Int) : Option (List Int) → List Int × Int
  | none => ([], 4)
  | some r => if (acc ++ r).length > 4096 then ([], 4) else (acc ++ r, 0)
theorem units_l (s : ByteArray) (hs : s.size ≤ 1000000) : ∀ (f K i : Nat) (acc : List Int) (last : Int), i ≤ s.size → s.size - i < f → 2 * f + 5 ≤ K → acc.length ≤ 2 * i →
    archivoltref05_Units.l0 K s acc last (i : Int) = some (finU acc (unitsF f ((bts s).drop i) last))
  | 0, K, i, acc, last, h1, h2, h3, h4 => by omega
  | f + 1, K, i, acc, last, h1, h2, h3, h4 => by
    obtain ⟨K, rfl⟩ : ∃ k, K = k + 2 := ⟨K - 2, by omega⟩
    rw [archivoltref05_Units.l0]
    unfold unitsF
    have hbl := bts_len s
    by_cases hi : i < s.size
    · have hne : ¬ (bts s).drop i = [] := fun e => by have := congrArg List.length e; rw [List.length_drop] at this; simp at this; omega
      obtain ⟨k3, rfl⟩ : ∃ k, K = k + 2 := ⟨K - 2, by omega⟩
      rw [if_pos (by omega), if_neg hne, show k3 + 2 + 1 = k3 + 3 from rfl, first_f s i k3 hs hi]
      cases hp : pointM ((bts s).drop i) with
      | none =>
        simp only [pairP, Option.bind_some, stepU, if_true, finU]
        rw [archivoltref05_Units.j1]
        rfl
      | some cn =>
        obtain ⟨c, n⟩ := cn
        have hb := pointM_bd hne (getD_nonneg (fun x hx => bts_range s x (mem_drop' hx)) 0) hp
        rw [List.length_drop, hbl] at hb
        simp only [pairP, Option.bind_some, stepU]
        rw [if_neg (by omega)]
        have ehi : archivoltref05_high.f last = some (decide (55296 ≤ last ∧ last < 56320)) := by
          unfold archivoltref05_high.f
          by_cases h : last ≥ 55296
          · rw [if_pos h]; congr 1; rw [decide_eq_decide]; omega
          · rw [if_neg h]; congr 1; symm; rw [decide_eq_false]; omega
        have elo : archivoltref05_low.f c = some (decide (56320 ≤ c ∧ c < 57344)) := by
          unfold archivoltref05_low.f
          by_cases h : c ≥ 56320
          · rw [if_pos h]; congr 1; rw [decide_eq_decide]; omega
          · rw [if_neg h]; congr 1; symm; rw [decide_eq_false]; omega
        have hj : ∀ q : Bool, q = decide (55296 ≤ last ∧ last < 56320 ∧ 56320 ≤ c ∧ c < 57344) → archivoltref05_Units.j1 (k3 + 3) s acc (i : Int) q c (n : Int) =
            some (finU acc (if 55296 ≤ last ∧ last < 56320 ∧ 56320 ≤ c ∧ c < 57344 then none else (unitsF f (((bts s).drop i).drop n) c).map (encU c ++ ·))) := by
          intro q hq
          rw [archivoltref05_Units.j1]
          cases q with
          | true =>
            rw [if_pos rfl, if_pos (of_decide_eq_true hq.symm)]; rfl
          | false =>
            rw [if_neg (by decide), if_neg (of_decide_eq_false hq.symm), List.drop_drop]
            have ew : wrap64 ((i : Int) + n) = ((i + n : Nat) : Int) := by rw [w64 _ (by omega) (by omega)]; rfl
            have hfin : ∀ o : Option (List Int), finU acc (o.map (encU c ++ ·)) = finU (acc ++ encU c) o := fun o => by
              cases o with
              | none => rfl
              | some r => simp only [Option.map_some, finU, List.append_assoc]
            rw [hfin, ew]
            by_cases hc : c < 65536
            · rw [if_pos hc, if_pos (by omega)]
              have e1 : IntKind.u16.wrap c = c := by simp [IntKind.wrap, IntKind.bits, IntKind.signed]; omega
              rw [e1, units_l s hs f (k3 + 2) (i + n) (acc ++ [c]) c (by omega) (by omega) (by omega) (by simp; omega), encU_1 hc]
            · rw [if_neg hc]
              simp only [Option.bind_some, List.length_cons, List.length_nil]
              rw [if_pos (by omega)]
              have t1 : Int.tdiv (wrap64 (c - 65536)) 1024 = (c - 65536) / 1024 := by rw [w64 _ (by omega) (by omega), Int.tdiv_eq_ediv_of_nonneg (by omega)]
              have t2 : Int.tmod (wrap64 (c - 65536)) 1024 = (c - 65536) % 1024 := by rw [w64 _ (by omega) (by omega), Int.tmod_eq_emod_of_nonneg (by omega)]
              rw [t1, t2, w64 ((c - 65536) / 1024) (by omega) (by omega), w64 (55296 + (c - 65536) / 1024) (by omega) (by omega), w64 (56320 + (c - 65536) % 1024) (by omega) (by omega)]
              have e1 : IntKind.u16.wrap (55296 + (c - 65536) / 1024) = 55296 + (c - 65536) / 1024 := by simp [IntKind.wrap, IntKind.bits, IntKind.signed]; omega
              have e2 : IntKind.u16.wrap (56320 + (c - 65536) % 1024) = 56320 + (c - 65536) % 1024 := by simp [IntKind.wrap, IntKind.bits, IntKind.signed]; omega
              rw [e1, e2, ← encU_2 (show 65536 ≤ c by omega), units_l s hs f (k3 + 2) (i + n) (acc ++ encU c) c (by omega) (by omega) (by omega) (by have := encU_len c; rw [List.length_append]; omega)]
        rw [ehi, elo]
        simp only [Option.bind_some]
        by_cases hh : 55296 ≤ last ∧ last < 56320
        · rw [decide_eq_true hh, if_pos rfl]
          exact hj _ (by rw [decide_eq_decide]; exact ⟨fun h => ⟨hh.1, hh.2, h⟩, fun h => h.2.2⟩)
        · rw [decide_eq_false hh, if_neg (by decide)]
          exact hj _ (by symm; rw [decide_eq_false]; exact fun h => hh ⟨h.1, h.2.1⟩)
    · have hnil : (bts s).drop i = [] := List.drop_eq_nil_of_le (by omega)
      rw [if_neg (by omega), hnil, if_pos rfl]
      simp only [finU, List.append_nil]
      by_cases h : acc.length > 4096
      · rw [if_pos (by omega), if_pos h]
      · rw [if_neg (by omega), if_neg h]
/-- What the document's 'Units' says. -/
def refU (s : ByteArray) : List Int × Int := match getU s with
  | some r => (r, 0)
  | none => ([], 4)
theorem units_f (s : ByteArray) (hs : s.size ≤ 1000000) (K : Nat) (hK : 2 * s.size + 20 ≤ K) : archivoltref05_Units.f K s = some (refU s) := by
  unfold archivoltref05_Units.f
  have h := units_l s hs (s.size + 1) K 0 [] 0 (by omega) (by omega) (by omega) (by simp)
  have h' : archivoltref05_Units.l0 K s [] 0 0 = some (finU [] (unitsM (bts s))) := by
    unfold unitsM
    rw [bts_len]
    exact h
  rw [h']
  congr 1
  unfold refU getU readM
  cases hu : unitsM (bts s) with
  | none => rfl
  | some l =>
    simp only [finU, List.nil_append]
    by_cases q : l.length > 4096
    · rw [if_pos q]
      have : decide (l.length ≤ 4096) = false := by simp; omega
      rw [this]
    · rw [if_neg q]
      have : decide (l.length ≤ 4096) = true := by simp; omega
      rw [this]

theorem rd_of_C {w : World} {k : IntKind} {A : Option Addr} {n : Nat} {xs : List Int} (h : (Kd.int k).C w A n xs) (hn : n ≤ 9223372036854775807) (hl : xs.length = n) : Rd w k A n xs := by
  refine ⟨hl, hn, fun j hj => ?_⟩
  obtain ⟨ad, hA, hc⟩ := Kd.at_int h (j : Int) (by omega) (by omega)
  refine ⟨ad, hA, ?_⟩
  simpa [rd] using hc
/-- The document's 'Units', whatever the string. -/
theorem runits_any (s : ByteArray) (hs : s.size ≤ 100000) (w : World) :
    Calls Tryd.prog 34 #[.string s] w fun e w' => (∃ A c, e = .returned (.agg #[.slice A (refU s).1.length c, .int .i64 (refU s).2]) ∧ (refU s).1.length ≤ c ∧ Rd w' .u16 A (refU s).1.length (refU s).1) ∧ Below w.heap.size w w' :=
  (archivoltref05_Units.calls _ s (refU s).1 (refU s).2 w (units_f s (by omega) _ (Nat.le_refl _))).mono fun e w' ⟨v, he, hR, hB⟩ => by
    obtain ⟨A, c, rfl, hc, hC⟩ := Kd.R_reads hR
    refine ⟨⟨A, c, he, hc, rd_of_C hC ?_ rfl⟩, hB⟩
    unfold refU
    cases hg : getU s with
    | none => simp
    | some r => have := (getU_props hg).2.2; simp only; omega
end Go.Proofs.YtmbdiimenmnfjaaDoor
/- The document's Check and IsShort: what was printed of them is the model. -/
namespace Go.Proofs.YtmbdiimenmnfjaaDoor
open Go.RowKit Go.Deep
open Go.Proofs.YtmbdiimenmnfjaaDoor.PNamesNames
open Go.Proofs.YtmbdiimenmnfjaaDoorW.PrintWords (rd bt Drawn0 Kd)
set_option linter.unusedVariables false
set_option linter.unusedSimpArgs false
set_option maxRecDepth 100000

theorem u16w (x : Int) (h0 : 0 ≤ x) (h1 : x ≤ 65535) : IntKind.u16.wrap x = x := by simp [IntKind.wrap, IntKind.bits, IntKind.signed]; omega
theorem drop_bts {s : ByteArray} {i : Nat} (h : i < s.size) : (bts s).drop i = (bts s).getD i 0 :: (bts s).drop (i + 1) := drop_cons (by rw [bts_len]; exact h)
theorem in_l (u : Int) (s : ByteArray) (hs : s.size ≤ 1000000) : ∀ (k i : Nat), i ≤ s.size → s.size < i + k → archivoltref05_in.l0 k u s (i : Int) = some (((bts s).drop i).any fun x => decide (x = u))
  | 0, i, h1, h2 => by omega
  | k + 1, i, h1, h2 => by
    unfold archivoltref05_in.l0
    by_cases hi : i < s.size
    · have hb := bts_bd s i
      have e1 : IntKind.u16.wrap ((bts s).getD i 0) = (bts s).getD i 0 := u16w _ (by omega) (by omega)
      rw [if_pos (by omega), if_pos (by omega), bt_bts s i hi, e1, drop_bts hi, List.any_cons]
      by_cases q : (bts s).getD i 0 = u
      · rw [if_pos q, decide_eq_true q]; rfl
      · have ew : wrap64 ((i : Int) + 1) = ((i + 1 : Nat) : Int) := by rw [w64 _ (by omega) (by omega)]; rfl
        rw [if_neg q, decide_eq_false q, Bool.false_or, ew]
        exact in_l u s hs k (i + 1) (by omega) (by omega)
    · rw [if_neg (by omega), List.drop_eq_nil_of_le (by rw [bts_len]; omega)]; rfl
theorem in_f (u : Int) (s : ByteArray) (hs : s.size ≤ 1000000) (k : Nat) (hk : s.size < k) : archivoltref05_in.f k u s = some ((bts s).any fun x => decide (x = u)) := by
  unfold archivoltref05_in.f
  have := in_l u s hs k 0 (by omega) (by omega)
  exact this

/-! The last unit, the last byte. -/
theorem encB_last (c : Int) (h0 : 0 ≤ c) : ∃ p b, encB c = p ++ [b] ∧ ((c < 128 ∧ b = c) ∨ (128 ≤ c ∧ 128 ≤ b)) := by
  unfold encB
  split
  · exact ⟨[], c, rfl, Or.inl ⟨by assumption, rfl⟩⟩
  split
  · exact ⟨[_], _, rfl, Or.inr ⟨by omega, by omega⟩⟩
  split
  · exact ⟨[_, _], _, rfl, Or.inr ⟨by omega, by omega⟩⟩
  · exact ⟨[_, _, _], _, rfl, Or.inr ⟨by omega, by omega⟩⟩
theorem text_last : ∀ (l : List Int) (u : Int), U16 (l ++ [u]) → ∃ p b, textM (l ++ [u]) = p ++ [b] ∧ ((u < 128 ∧ b = u) ∨ (128 ≤ u ∧ 128 ≤ b))
  | [], u, h => by
    have := h u (by simp)
    exact encB_last u this.1
  | [c], u, h => by
    have hc := h c (by simp)
    have hu := h u (by simp)
    simp only [List.cons_append, List.nil_append]
    by_cases q : pairU c u
    · rw [textM_pair c u [] q]
      unfold pairU at q
      obtain ⟨p, b, e, h1⟩ := encB_last (65536 + (c - 55296) * 1024 + u - 56320) (by omega)
      exact ⟨p, b, by rw [e]; simp [textM], Or.inr ⟨by omega, by omega⟩⟩
    · rw [textM_one c [u] (fun d r e => by cases e; exact q)]
      obtain ⟨p, b, e, h1⟩ := encB_last u hu.1
      exact ⟨encB c ++ p, b, by rw [show textM [u] = encB u from rfl, e, List.append_assoc], h1⟩
  | c :: d :: r, u, h => by
    simp only [List.cons_append]
    by_cases q : pairU c d
    · rw [textM_pair c d _ q]
      obtain ⟨p, b, e, h1⟩ := text_last r u (fun x hx => h x (by simp only [List.cons_append]; exact List.mem_cons_of_mem _ (List.mem_cons_of_mem _ hx)))
      exact ⟨_ ++ p, b, by rw [e, ← List.append_assoc], h1⟩
    · rw [textM_one c (d :: (r ++ [u])) (fun d' r' e => by cases e; exact q)]
      obtain ⟨p, b, e, h1⟩ := text_last (d :: r) u (fun x hx => h x (by simp only [List.cons_append] at hx ⊢; exact List.mem_cons_of_mem _ hx))
      simp only [List.cons_append] at e
      exact ⟨_ ++ p, b, by rw [e, ← List.append_assoc], h1⟩
theorem suffix_iff {s : ByteArray} {p : List Int} {b : Int} (h : bts s = p ++ [b]) (x : UInt8) : Lib.hasSuffix s.data.toList [x] = decide (b = x.toNat) := by
  have hne : s.data.toList ≠ [] := fun e => by unfold bts at h; rw [e] at h; simp at h
  obtain ⟨t, y, hty⟩ : ∃ t y, s.data.toList = t ++ [y] := ⟨_, _, (List.dropLast_concat_getLast hne).symm⟩
  unfold bts at h
  rw [hty, List.map_append] at h
  have hb := (List.append_inj' h rfl).2
  simp only [List.map_cons, List.map_nil, List.cons.injEq, and_true] at hb
  rw [hty, Bool.eq_iff_iff, decide_eq_true_eq]
  unfold Lib.hasSuffix
  rw [List.isSuffixOf_iff_suffix]
  constructor
  · rintro ⟨q, hq⟩
    have := (List.append_inj' hq rfl).2
    simp only [List.cons.injEq, and_true] at this
    rw [← hb, this]
  · intro e
    refine ⟨t, ?_⟩
    have : y = x := UInt8.toNat_inj.1 (by omega)
    rw [this]
theorem badL : bts ⟨#[34, 42, 47, 58, 60, 62, 63, 92, 124]⟩ = [34, 42, 47, 58, 60, 62, 63, 92, 124] := by decide
theorem bad_small : ∀ n : Nat, n < 128 → (([34, 42, 47, 58, 60, 62, 63, 92, 124] : List Int).any fun x => decide (x = (n : Int))) = decide (0 ≤ Lib.indexByte [34, 42, 47, 58, 60, 62, 63, 92, 124] (UInt8.ofNat n)) := by decide +kernel
theorem bad_in (u : Int) (h0 : 0 ≤ u) : (([34, 42, 47, 58, 60, 62, 63, 92, 124] : List Int).any fun x => decide (x = u)) = (decide (u < 128) && decide (0 ≤ Lib.indexByte [34, 42, 47, 58, 60, 62, 63, 92, 124] (UInt8.ofNat u.toNat))) := by
  rcases Int.lt_or_le u 128 with h | h
  · obtain ⟨n, rfl⟩ : ∃ n : Nat, u = n := ⟨u.toNat, by omega⟩
    rw [bad_small n (by omega), decide_eq_true h, Bool.true_and, Int.toNat_natCast]
  · rw [decide_eq_false (by omega : ¬ u < 128), Bool.false_and]
    simp
    omega
theorem check_l (l : List Int) (hu : U16 l) (hl : l.length ≤ 1000000) (e : Int) : ∀ (k i : Nat), i ≤ l.length → l.length + 12 < i + k → archivoltref05_Check.l0 k (l.length : Int) (i : Int) l e = some (if (l.drop i).any unitBad = true then 19 else 0)
  | 0, i, h1, h2 => by omega
  | k + 1, i, h1, h2 => by
    rw [archivoltref05_Check.l0]
    by_cases hi : i < l.length
    · have hb := hu.get i
      have ex : rd l (i : Int) = l.getD i 0 := rfl
      rw [if_pos (by omega), if_pos (by omega), if_pos (by omega), ex, drop_cons hi, List.any_cons]
      by_cases q : l.getD i 0 < 32
      · have : unitBad (l.getD i 0) = true := by unfold unitBad; rw [decide_eq_true q]; rfl
        rw [if_pos q, this, Bool.true_or, if_pos rfl]
      · rw [if_neg q, in_f _ _ (by decide) k (by have : (⟨#[34, 42, 47, 58, 60, 62, 63, 92, 124]⟩ : ByteArray).size = 9 := rfl; omega), badL, bad_in _ hb.1]
        simp only [Option.bind_some]
        have e1 : unitBad (l.getD i 0) = (decide (l.getD i 0 < 128) && decide (0 ≤ Lib.indexByte [34, 42, 47, 58, 60, 62, 63, 92, 124] (UInt8.ofNat (l.getD i 0).toNat))) := by unfold unitBad; rw [decide_eq_false q, Bool.false_or]
        rw [← e1]
        cases h : unitBad (l.getD i 0) with
        | true => rw [if_pos rfl, Bool.true_or, if_pos rfl]
        | false =>
          have ew : wrap64 ((i : Int) + 1) = ((i + 1 : Nat) : Int) := by rw [w64 _ (by omega) (by omega)]; rfl
          rw [if_neg (by decide), Bool.false_or, ew]
          exact check_l l hu hl e k (i + 1) (by omega) (by omega)
    · rw [if_neg (by omega), List.drop_eq_nil_of_le (by omega)]; rfl
theorem check_f (s : ByteArray) (hs : s.size ≤ 100000) (K : Nat) (hK : 2 * s.size + 40 ≤ K) : archivoltref05_Check.f K s = some (checkM s) := by
  unfold archivoltref05_Check.f
  rw [units_f s (by omega) K (by omega), Option.bind_some]
  obtain ⟨k, rfl⟩ : ∃ k, K = k + 1 := ⟨K - 1, by omega⟩
  unfold refU checkM
  cases hg : getU s with
  | none => simp
  | some l =>
    have hp := getU_props hg
    simp only [if_true]
    have h19 : ∀ (x : Int) (y : List Int) (z : Int), archivoltref05_Check.j0 (k + 1) x true y z = some 19 := fun x y z => by rw [archivoltref05_Check.j0]; rfl
    by_cases q1 : l.length < 1
    · rw [if_pos (by omega), h19, if_pos (Or.inl q1)]
    rw [if_neg (by omega)]
    by_cases q2 : 32 < l.length
    · rw [if_pos (by omega), h19, if_pos (Or.inr (Or.inl q2))]
    rw [if_neg (by omega)]
    have hnb : ∀ b : Bool, nameBad s = b → (l.length < 1 ∨ 32 < l.length ∨ nameBad s = true ↔ b = true) := fun b hb => ⟨fun h => by
      rcases h with h | h | h
      · exact absurd h q1
      · exact absurd h q2
      · rw [← hb]; exact h, fun h => Or.inr (Or.inr (hb.trans h))⟩
    by_cases q3 : s.toList = [46]
    · rw [if_pos q3, h19, if_pos ((hnb true (by unfold nameBad; simp [q3])).2 rfl)]
    rw [if_neg q3]
    by_cases q4 : s.toList = [46, 46]
    · rw [if_pos q4, h19, if_pos ((hnb true (by unfold nameBad; simp [q4])).2 rfl)]
    rw [if_neg q4]
    have e1 : wrap64 ((l.length : Int) - 1) = ((l.length - 1 : Nat) : Int) := by rw [w64 _ (by omega) (by omega)]; omega
    rw [e1, if_pos (by omega), if_pos (by omega)]
    obtain ⟨u, hu⟩ : ∃ u, l.getD (l.length - 1) 0 = u := ⟨_, rfl⟩
    have hne : l ≠ [] := fun e => by rw [e] at q1; simp at q1
    have hlast : l.getLast hne = u := by rw [← hu, List.getLast_eq_getElem, List.getD_eq_getElem?_getD, List.getElem?_eq_getElem (by omega)]; rfl
    have hsp : l = l.dropLast ++ [u] := by rw [← hlast]; exact (List.dropLast_concat_getLast hne).symm
    have ex : rd l ((l.length - 1 : Nat) : Int) = u := hu
    rw [ex, in_f _ _ (by decide) (k + 1) (by have : (⟨#[32, 46]⟩ : ByteArray).size = 2 := rfl; omega), show bts ⟨#[32, 46]⟩ = [32, 46] by decide, Option.bind_some]
    obtain ⟨p, b, hpb, hub⟩ := text_last l.dropLast u (by rw [← hsp]; exact hp.1)
    rw [← hsp, text_units (bts_range s) (getU_iff.1 hg).1] at hpb
    have hnbe : nameBad s = (([32, 46] : List Int).any fun x => decide (x = u)) := by
      unfold nameBad
      have n3 : (s.toList == [46]) = false := by simpa using q3
      have n4 : (s.toList == [46, 46]) = false := by simpa using q4
      rw [n3, n4, suffix_iff hpb, suffix_iff hpb, Bool.false_or, Bool.false_or, List.any_cons, List.any_cons, List.any_nil, Bool.or_false]
      have c1 : decide (b = ((32 : UInt8).toNat : Int)) = decide ((32 : Int) = u) := by
        rw [decide_eq_decide]
        have : ((32 : UInt8).toNat : Int) = 32 := rfl
        omega
      have c2 : decide (b = ((46 : UInt8).toNat : Int)) = decide ((46 : Int) = u) := by
        rw [decide_eq_decide]
        have : ((46 : UInt8).toNat : Int) = 46 := rfl
        omega
      rw [c1, c2]
    rw [← hnbe]
    cases hq : nameBad s with
    | true => rw [h19, if_pos (Or.inr (Or.inr rfl))]
    | false =>
      rw [archivoltref05_Check.j0, if_neg (by decide), if_neg (by rintro (h | h | h); exact q1 h; exact q2 h; exact absurd h (by decide))]
      have := check_l l hp.1 (by omega) 0 k 0 (by omega) (by omega)
      exact this
theorem rcheck_any (s : ByteArray) (hs : s.size ≤ 100000) (w : World) : Calls Tryd.prog 16 #[.string s] w fun e w' => e = .returned (.int .i64 (checkM s)) ∧ Below w.heap.size w w' :=
  (archivoltref05_Check.calls _ s (checkM s) w (check_f s hs _ (Nat.le_refl _))).mono fun e w' h => h

/-! Short names. -/
theorem charsL : bts ⟨#[33, 35, 36, 37, 38, 39, 40, 41, 45, 64, 94, 95, 123, 125, 126]⟩ = [33, 35, 36, 37, 38, 39, 40, 41, 45, 64, 94, 95, 123, 125, 126] := by decide
def inC (u : Int) : Bool := ([33, 35, 36, 37, 38, 39, 40, 41, 45, 64, 94, 95, 123, 125, 126] : List Int).any fun x => decide (x = u)
theorem char_small : ∀ n : Nat, n < 128 → (if (n : Int) ≥ 65 then (if (n : Int) ≤ 90 then true else (if (n : Int) ≥ 48 then (if (n : Int) ≤ 57 then true else inC n) else inC n)) else (if (n : Int) ≥ 48 then (if (n : Int) ≤ 57 then true else inC n) else inC n)) = decide ((n : Int) ∈ charL) := by decide +kernel
theorem character_f (u : Int) (h0 : 0 ≤ u) (k : Nat) (hk : 20 ≤ k) : archivoltref05_character.f k u = some (decide (u ∈ charL)) := by
  have hin : archivoltref05_in.f k u (⟨#[33, 35, 36, 37, 38, 39, 40, 41, 45, 64, 94, 95, 123, 125, 126]⟩ : ByteArray) = some (inC u) := by
    rw [in_f _ _ (by decide) k (by have : (⟨#[33, 35, 36, 37, 38, 39, 40, 41, 45, 64, 94, 95, 123, 125, 126]⟩ : ByteArray).size = 15 := rfl; omega), charsL]; rfl
  have e : archivoltref05_character.f k u = some (if u ≥ 65 then (if u ≤ 90 then true else (if u ≥ 48 then (if u ≤ 57 then true else inC u) else inC u)) else (if u ≥ 48 then (if u ≤ 57 then true else inC u) else inC u)) := by
    unfold archivoltref05_character.f
    rw [hin]
    simp only [Option.bind_some]
    split
    · split
      · rfl
      · split
        · split <;> rfl
        · rfl
    · split
      · split <;> rfl
      · rfl
  rw [e]
  congr 1
  rcases Int.lt_or_le u 128 with h | h
  · obtain ⟨n, rfl⟩ : ∃ n : Nat, u = n := ⟨u.toNat, by omega⟩
    exact char_small n (by omega)
  · rw [if_pos (by omega), if_neg (by omega), if_pos (by omega), if_neg (by omega)]
    have h1 : u ∉ charL := fun hm => by have := charL_bd u hm; omega
    rw [decide_eq_false h1]
    unfold inC
    simp
    omega
/-- Is a byte a character of short names? -/
def isC (b : Int) : Bool := decide (b ∈ charL)
/-- Behind a dot at d. -/
def finI (n d : Nat) : Bool := decide (1 ≤ d) && decide (d ≤ 8) && decide (1 ≤ n - d - 1) && decide (n - d - 1 ≤ 3)
theorem short_2 (s : ByteArray) (hs : s.size ≤ 1000000) (d : Nat) (hd : d < s.size) : ∀ (K i : Nat), i ≤ s.size → 2 * s.size + 30 ≤ 2 * i + K → archivoltref05_IsShort.l0 K s (d : Int) (i : Int) = some (((bts s).drop i).all isC && finI s.size d)
  | 0, i, h1, h2 => by omega
  | 1, i, h1, h2 => by omega
  | K + 2, i, h1, h2 => by
    rw [archivoltref05_IsShort.l0]
    by_cases hi : i < s.size
    · have hb := bts_bd s i
      have e0 : decide ((d : Int) < 0) = false := by rw [decide_eq_false]; omega
      have hj : archivoltref05_IsShort.j1 (K + 1) s (d : Int) (i : Int) false = some (((bts s).drop i).all isC && finI s.size d) := by
        have e1 : IntKind.u16.wrap ((bts s).getD i 0) = (bts s).getD i 0 := u16w _ (by omega) (by omega)
        rw [archivoltref05_IsShort.j1, if_neg (by decide), if_pos (by omega), if_pos (by omega), bt_bts s i hi, e1, character_f _ hb.1 K (by omega), Option.bind_some, drop_bts hi, List.all_cons]
        have ew : wrap64 ((i : Int) + 1) = ((i + 1 : Nat) : Int) := by rw [w64 _ (by omega) (by omega)]; rfl
        rw [ew, short_2 s hs d hd K (i + 1) (by omega) (by omega)]
        show (if isC ((bts s).getD i 0) = true then _ else _) = _
        cases isC ((bts s).getD i 0) with
        | true => rfl
        | false => rfl
      rw [if_pos (by omega), if_pos (by omega), e0, hj]
      split <;> rfl
    · have hsub : wrap64 ((wrap64 ((s.size : Int) - (d : Int))) - 1) = ((s.size - d - 1 : Nat) : Int) := by rw [w64 ((s.size : Int) - d) (by omega) (by omega), w64 _ (by omega) (by omega)]; omega
      rw [if_neg (by omega), List.drop_eq_nil_of_le (by rw [bts_len]; omega), if_neg (by omega), hsub]
      unfold finI
      rw [List.all_nil, Bool.true_and]
      by_cases q1 : 1 ≤ d
      · rw [if_pos (by omega), decide_eq_true q1]
        by_cases q2 : d ≤ 8
        · rw [if_pos (by omega), decide_eq_true q2]
          by_cases q3 : 1 ≤ s.size - d - 1
          · rw [if_pos (by omega), decide_eq_true q3]
            congr 1
            simp only [Bool.true_and]
            rw [decide_eq_decide]
            omega
          · rw [if_neg (by omega), decide_eq_false q3]; rfl
        · rw [if_neg (by omega), decide_eq_false q2]; rfl
      · rw [if_neg (by omega), decide_eq_false q1]; rfl
/-- The rounds ahead of the first dot. -/
def isR (n : Nat) : Nat → List Int → Bool
  | _, [] => decide (1 ≤ n) && decide (n ≤ 8)
  | i, b :: t => if b = 46 then t.all isC && finI n i else isC b && isR n (i + 1) t
theorem short_1 (s : ByteArray) (hs : s.size ≤ 1000000) : ∀ (K i : Nat), i ≤ s.size → 2 * s.size + 40 ≤ 2 * i + K → archivoltref05_IsShort.l0 K s (-1) (i : Int) = some (isR s.size i ((bts s).drop i))
  | 0, i, h1, h2 => by omega
  | 1, i, h1, h2 => by omega
  | K + 2, i, h1, h2 => by
    rw [archivoltref05_IsShort.l0]
    by_cases hi : i < s.size
    · have hb := bts_bd s i
      have ew : wrap64 ((i : Int) + 1) = ((i + 1 : Nat) : Int) := by rw [w64 _ (by omega) (by omega)]; rfl
      rw [if_pos (by omega), if_pos (by omega), bt_bts s i hi, drop_bts hi]
      simp only [isR]
      by_cases q : (bts s).getD i 0 = 46
      · rw [if_pos q, if_pos q, show decide ((-1 : Int) < 0) = true by decide, archivoltref05_IsShort.j1, if_pos rfl, ew, short_2 s hs i hi K (i + 1) (by omega) (by omega)]
      · have e1 : IntKind.u16.wrap ((bts s).getD i 0) = (bts s).getD i 0 := u16w _ (by omega) (by omega)
        rw [if_neg q, if_neg q, archivoltref05_IsShort.j1, if_neg (by decide), if_pos (by omega), if_pos (by omega), bt_bts s i hi, e1, character_f _ hb.1 K (by omega), Option.bind_some, ew, short_1 s hs K (i + 1) (by omega) (by omega)]
        show (if isC ((bts s).getD i 0) = true then _ else _) = _
        cases isC ((bts s).getD i 0) with
        | true => rfl
        | false => rfl
    · rw [if_neg (by omega), List.drop_eq_nil_of_le (by rw [bts_len]; omega), if_pos (by decide)]
      simp only [isR]
      by_cases q1 : 1 ≤ s.size
      · rw [if_pos (by omega), decide_eq_true q1, Bool.true_and]
        congr 1
        rw [decide_eq_decide]; omega
      · rw [if_neg (by omega), decide_eq_false q1]; rfl
theorem isR_none (n : Nat) : ∀ (x : List Int) (i : Nat), (∀ b ∈ x, b ≠ 46) → isR n i x = (x.all isC && (decide (1 ≤ n) && decide (n ≤ 8)))
  | [], i, _ => by simp [isR]
  | b :: x, i, h => by
    simp only [isR]
    rw [if_neg (h b (List.mem_cons_self ..)), isR_none n x (i + 1) (fun c hc => h c (List.mem_cons_of_mem _ hc)), List.all_cons, Bool.and_assoc]
theorem isR_dot (n : Nat) (y : List Int) : ∀ (x : List Int) (i : Nat), (∀ b ∈ x, b ≠ 46) → isR n i (x ++ 46 :: y) = (x.all isC && (y.all isC && finI n (i + x.length)))
  | [], i, _ => by simp [isR]
  | b :: x, i, h => by
    simp only [isR, List.cons_append]
    rw [if_neg (h b (List.mem_cons_self ..)), isR_dot n y x (i + 1) (fun c hc => h c (List.mem_cons_of_mem _ hc)), List.all_cons, Bool.and_assoc, List.length_cons, show i + 1 + x.length = i + (x.length + 1) by omega]
theorem isShort_R (s : ByteArray) : isShortM s = isR s.size 0 (bts s) := by
  have hd := dotAt_lt s
  unfold isShortM cutM
  by_cases h : 0 ≤ dotAt s
  · obtain ⟨d, hdd⟩ : ∃ d : Nat, dotAt s = d := ⟨(dotAt s).toNat, by omega⟩
    rw [hdd] at hd
    have hlt : d < s.size := by simpa using hd.2 (by omega)
    have h0d : (0 : Int) ≤ (d : Int) := by omega
    simp only [hdd, h0d, if_true, Int.toNat_natCast]
    have hs := Lib.indexByte_some (l := s.data.toList) (c := 46) (o := d) hdd
    have hx : ∀ b ∈ (bts s).take d, b ≠ 46 := by
      intro b hb
      obtain ⟨k, hk⟩ := List.getElem?_of_mem hb
      rw [List.getElem?_take] at hk
      split at hk
      · rename_i hkd
        intro e
        have hkl : k < s.data.toList.length := by
          have := (List.getElem?_eq_some_iff.1 hk).1
          unfold bts at this
          rwa [List.length_map] at this
        have hne := hs.2 k hkd
        rw [List.getElem?_eq_getElem hkl] at hne
        have h2 := bts_at (List.getElem?_eq_getElem hkl)
        rw [hk, e] at h2
        exact hne (congrArg some (UInt8.toNat_inj.1 (by have := Option.some.inj h2; have h46 : (46 : UInt8).toNat = 46 := rfl; omega)))
      · cases hk
    have h46 := bts_at hs.1
    have hsp : bts s = (bts s).take d ++ 46 :: (bts s).drop (d + 1) := by
      have hl : d < (bts s).length := by rw [bts_len]; exact hlt
      have e1 : (bts s)[d] = 46 := by rw [List.getElem?_eq_getElem hl] at h46; exact Option.some.inj h46
      rw [← e1, ← List.drop_eq_getElem_cons hl, List.take_append_drop]
    rw [hsp, isR_dot s.size _ _ 0 hx]
    unfold allChars
    rw [bts_append, bts_take, bts_drop, List.all_append]
    have hlen : ((bts s).take d).length = d := by rw [List.length_take, bts_len]; omega
    rw [hlen, Nat.zero_add]
    have z1 : (s.extract 0 d).size = d := by rw [ByteArray.size_extract]; omega
    have z2 : (s.extract (d + 1) s.size).size = s.size - d - 1 := by rw [ByteArray.size_extract]; omega
    have z3 : (s.extract (d + 1) s.size).toList = [] ↔ s.size - d - 1 = 0 := by
      rw [← z2, Go.ByteArray.toList_eq]
      constructor
      · intro e; have := congrArg List.length e; rwa [Array.length_toList] at this
      · intro e; exact List.length_eq_zero_iff.1 (by rw [Array.length_toList]; exact e)
    rw [z1, z2]
    have hiff : (d < 1 ∨ 8 < d ∨ 3 < s.size - d - 1 ∨ True ∧ (s.extract (d + 1) s.size).toList = []) ↔ (d < 1 ∨ 8 < d ∨ 3 < s.size - d - 1 ∨ s.size - d - 1 = 0) := by rw [z3, true_and]
    unfold finI
    by_cases q : d < 1 ∨ 8 < d ∨ 3 < s.size - d - 1 ∨ s.size - d - 1 = 0
    · rw [if_pos (hiff.2 q)]
      have : (decide (1 ≤ d) && decide (d ≤ 8) && decide (1 ≤ s.size - d - 1) && decide (s.size - d - 1 ≤ 3)) = false := by
        rw [Bool.eq_false_iff]; intro hh; simp only [Bool.and_eq_true, decide_eq_true_eq] at hh; omega
      rw [this, Bool.and_false, Bool.and_false]
    · rw [if_neg (fun h => q (hiff.1 h))]
      have : (decide (1 ≤ d) && decide (d ≤ 8) && decide (1 ≤ s.size - d - 1) && decide (s.size - d - 1 ≤ 3)) = true := by
        simp only [Bool.and_eq_true, decide_eq_true_eq]; omega
      rw [this, Bool.and_true]
      rfl
  · simp only [h, if_false]
    have hm : dotAt s = -1 := by omega
    have hno := Lib.indexByte_none (show Lib.indexByte s.data.toList 46 = -1 from hm)
    have hx : ∀ b ∈ bts s, b ≠ 46 := by
      intro b hb e
      obtain ⟨k, hk⟩ := List.getElem?_of_mem hb
      have hkl : k < s.data.toList.length := by
        have := (List.getElem?_eq_some_iff.1 hk).1
        unfold bts at this
        rwa [List.length_map] at this
      have hne := hno k
      rw [List.getElem?_eq_getElem hkl] at hne
      have h2 := bts_at (List.getElem?_eq_getElem hkl)
      rw [hk, e] at h2
      exact hne (congrArg some (UInt8.toNat_inj.1 (by have := Option.some.inj h2; have h46 : (46 : UInt8).toNat = 46 := rfl; omega)))
    rw [isR_none s.size _ 0 hx]
    have z0 : ByteArray.empty.size = 0 := rfl
    simp only [z0]
    unfold allChars
    rw [bts_append, show bts ByteArray.empty = [] from rfl, List.append_nil]
    by_cases q : s.size < 1 ∨ 8 < s.size
    · rw [if_pos (by rcases q with q | q; exact Or.inl q; exact Or.inr (Or.inl q))]
      have : (decide (1 ≤ s.size) && decide (s.size ≤ 8)) = false := by
        rw [Bool.eq_false_iff]; intro hh; simp only [Bool.and_eq_true, decide_eq_true_eq] at hh; omega
      rw [this, Bool.and_false]
    · rw [if_neg (by rintro (h | h | h | h); exact q (Or.inl h); exact q (Or.inr h); omega; exact absurd h.1 (by decide))]
      have : (decide (1 ≤ s.size) && decide (s.size ≤ 8)) = true := by
        simp only [Bool.and_eq_true, decide_eq_true_eq]; omega
      rw [this, Bool.and_true]
      rfl
theorem risShort_any (s : ByteArray) (hs : s.size ≤ 1000000) (w : World) : Calls Tryd.prog 26 #[.string s] w fun e w' => e = .returned (.bool (isShortM s)) ∧ Drawn w w' :=
  (archivoltref05_IsShort.calls (2 * s.size + 40) s (isShortM s) w (by
    unfold archivoltref05_IsShort.f
    have := short_1 s hs (2 * s.size + 40) 0 (by omega) (by omega)
    rw [isShort_R]
    exact this)).mono fun e w' h => ⟨h.1, drawn0 h.2⟩
end Go.Proofs.YtmbdiimenmnfjaaDoor
/- Short names: plain facts. -/
namespace Go.Proofs.YtmbdiimenmnfjaaDoor
open Go.RowKit Go.Deep
set_option linter.unusedVariables false
set_option linter.unusedSimpArgs false
set_option maxRecDepth 100000

theorem isC_iff (b : Int) : isC b = true ↔ b ∈ charL := by unfold isC; rw [decide_eq_true_eq]
theorem finI_iff (n d : Nat) : finI n d = true ↔ 1 ≤ d ∧ d ≤ 8 ∧ 1 ≤ n - d - 1 ∧ n - d - 1 ≤ 3 := by
  unfold finI
  simp only [Bool.and_eq_true, decide_eq_true_eq]
  omega
theorem isR_is (n : Nat) : ∀ (t : List Int) (i : Nat), isR n i t = true → i + t.length = n → (∀ c ∈ t, c ∈ charL ∨ c = 46) ∧ 1 ≤ n ∧ n ≤ 12 ∧ (t ≠ [] → ∃ p b, t = p ++ [b] ∧ b ∈ charL)
  | [], i, h, hn => by
    simp only [isR, Bool.and_eq_true, decide_eq_true_eq] at h
    exact ⟨(fun c hc => by cases hc), h.1, by omega, fun h => absurd rfl h⟩
  | b :: t, i, h, hn => by
    simp only [isR] at h
    rw [List.length_cons] at hn
    split at h
    · rename_i hb
      rw [Bool.and_eq_true, finI_iff, List.all_eq_true] at h
      have hne : t ≠ [] := by rintro rfl; simp at hn; omega
      refine ⟨fun c hc => ?_, by omega, by omega, fun _ => ⟨b :: t.dropLast, t.getLast hne, by rw [List.cons_append, List.dropLast_concat_getLast hne], (isC_iff _).1 (h.1 _ (List.getLast_mem hne))⟩⟩
      rcases List.mem_cons.1 hc with rfl | hc
      · exact Or.inr hb
      · exact Or.inl ((isC_iff _).1 (h.1 c hc))
    · rw [Bool.and_eq_true] at h
      have ih := isR_is n t (i + 1) h.2 (by omega)
      have hbc := (isC_iff b).1 h.1
      refine ⟨fun c hc => ?_, ih.2.1, ih.2.2.1, fun _ => ?_⟩
      · rcases List.mem_cons.1 hc with rfl | hc
        · exact Or.inl hbc
        · exact ih.1 c hc
      · cases t with
        | nil => exact ⟨[], b, rfl, hbc⟩
        | cons d t =>
          obtain ⟨p, e, h1, h2⟩ := ih.2.2.2 (by simp)
          exact ⟨b :: p, e, by rw [h1, List.cons_append], h2⟩
theorem char_ok : ∀ b ∈ (46 :: charL), unitBad b = false ∧ upM b = b ∧ 0 ≤ b ∧ b < 128 := by decide +kernel
theorem char_46 : (46 : Int) ∉ charL := by decide
theorem char_32 : (32 : Int) ∉ charL := by decide
theorem short_is {x : ByteArray} (h : isShortM x = true) : (∀ c ∈ bts x, unitBad c = false ∧ upM c = c ∧ 0 ≤ c ∧ c < 128) ∧ 1 ≤ x.size ∧ x.size ≤ 12 ∧ ∃ p b, bts x = p ++ [b] ∧ b ∈ charL := by
  rw [isShort_R] at h
  have hl := bts_len x
  have := isR_is x.size (bts x) 0 h (by omega)
  refine ⟨fun c hc => char_ok c ?_, this.2.1, this.2.2.1, this.2.2.2 (by intro e; rw [e] at hl; simp at hl; omega)⟩
  rcases this.1 c hc with h | h
  · exact List.mem_cons_of_mem _ h
  · rw [h]; exact List.mem_cons_self ..
/-- Bytes below 128 are units. -/
theorem ascii_units : ∀ (f : Nat) (s : List Int) (b : Int), (∀ c ∈ s, 0 ≤ c ∧ c < 128) → s.length < f → unitsF f s b = some s
  | 0, s, b, h, hf => by omega
  | f + 1, [], b, h, hf => by simp [unitsF]
  | f + 1, c :: s, b, h, hf => by
    have hc := h c (List.mem_cons_self ..)
    unfold unitsF
    rw [if_neg (by simp), pointM_cons, if_pos hc.2]
    simp only [stepU]
    rw [if_neg (by omega), List.drop_succ_cons, List.drop_zero, ascii_units f s c (fun d hd => h d (List.mem_cons_of_mem _ hd)) (by simp at hf; omega), encU_1 (by omega)]
    rfl
theorem ascii_getU {x : ByteArray} (h : ∀ c ∈ bts x, 0 ≤ c ∧ c < 128) (hl : x.size ≤ 4096) : getU x = some (bts x) := by
  rw [getU_iff]
  refine ⟨?_, by rw [bts_len]; exact hl⟩
  unfold unitsM
  exact ascii_units _ _ _ h (by omega)
theorem short_getU {x : ByteArray} (h : isShortM x = true) : getU x = some (bts x) := by
  have hs := short_is h
  exact ascii_getU (fun c hc => (hs.1 c hc).2.2) (by omega)
theorem short_up {x : ByteArray} (h : isShortM x = true) : (bts x).map upM = bts x := by
  have hs := short_is h
  conv => rhs; rw [← List.map_id (bts x)]
  exact List.map_congr_left fun c hc => (hs.1 c hc).2.1
theorem short_upS {x : ByteArray} (h : isShortM x = true) : upS (bts x) = x := by
  unfold upS
  rw [short_up h]
  exact text_getU (short_getU h)
/-- A short name is a name. -/
theorem short_valid {x : ByteArray} (h : isShortM x = true) : checkM x = 0 := by
  have hs := short_is h
  obtain ⟨p, b, hpb, hbc⟩ := hs.2.2.2
  have h46 : ¬ b = 46 := fun e => char_46 (e ▸ hbc)
  have h32 : ¬ b = 32 := fun e => char_32 (e ▸ hbc)
  unfold checkM
  rw [short_getU h]
  have hl := bts_len x
  have hsuf : ∀ c : UInt8, Lib.hasSuffix x.data.toList [c] = decide (b = c.toNat) := fun c => suffix_iff hpb c
  have hnb : nameBad x = false := by
    unfold nameBad
    have e1 : (x.toList == [46]) = false := by
      rw [beq_eq_false_iff_ne]
      intro e
      rw [Go.ByteArray.toList_eq] at e
      unfold bts at hpb
      rw [e] at hpb
      have := (List.append_inj' (show ([] : List Int) ++ [46] = p ++ [b] from hpb) rfl).2
      simp at this
      exact h46 this.symm
    have e2 : (x.toList == [46, 46]) = false := by
      rw [beq_eq_false_iff_ne]
      intro e
      rw [Go.ByteArray.toList_eq] at e
      unfold bts at hpb
      rw [e] at hpb
      have := (List.append_inj' (show ([46] : List Int) ++ [46] = p ++ [b] from hpb) rfl).2
      simp at this
      exact h46 this.symm
    rw [e1, e2, hsuf, hsuf, decide_eq_false (by have : ((32 : UInt8).toNat : Int) = 32 := rfl; rw [this]; exact h32), decide_eq_false (by have : ((46 : UInt8).toNat : Int) = 46 := rfl; rw [this]; exact h46)]
    rfl
  simp only
  rw [if_neg (by rw [hl, hnb]; rintro (h | h | h); omega; omega; cases h), if_neg]
  rw [List.any_eq_true]
  rintro ⟨c, hc, hb⟩
  rw [(hs.1 c hc).1] at hb
  cases hb
/-- A short name is alike to what has it as upper case. -/
theorem same_short {x t : ByteArray} (h : isShortM x = true) : sameM x t = true ↔ x ∈ upOf t := by
  rw [sameM_iff]
  have hg := short_getU h
  unfold upOf
  cases ht : getU t with
  | none =>
    simp only [List.not_mem_nil, iff_false, not_or, not_exists]
    exact ⟨(fun e => by rw [e, ht] at hg; cases hg), fun a b hh => by cases hh.2.1⟩
  | some r =>
    simp only [List.mem_singleton]
    constructor
    · rintro (e | ⟨a, b, h1, h2, h3⟩)
      · rw [e] at hg ⊢
        rw [ht] at hg
        cases hg
        have := short_upS (e ▸ h : isShortM t = true)
        exact this.symm
      · rw [hg] at h1
        cases h1
        cases h2
        rw [short_up h] at h3
        unfold upS
        rw [← h3]
        exact (text_getU hg).symm
    · intro e
      refine Or.inr ⟨_, r, hg, rfl, ?_⟩
      rw [short_up h]
      have h2 := getU_up ht
      rw [← e, hg] at h2
      exact Option.some.inj h2

/-! The names that are tried are short. -/
theorem shortB_char (u : Int) : ∀ b ∈ shortB u, b ∈ charL := by
  intro b hb
  unfold shortB at hb
  split at hb
  · cases hb
  · split at hb
    · rename_i h; rw [List.mem_singleton.1 hb]; exact h
    · rw [List.mem_singleton.1 hb]; decide
theorem shortened_char (l : List Int) : ∀ b ∈ shortenedM l, b ∈ charL := by
  intro b hb
  unfold shortenedM at hb
  obtain ⟨u, _, h⟩ := List.mem_flatMap.1 hb
  exact shortB_char u b h
theorem char_bytes {l : List Int} (h : ∀ b ∈ l, b ∈ charL) : ∀ b ∈ l, 0 ≤ b ∧ b ≤ 255 := fun b hb => by have := charL_bd b (h b hb); omega
theorem bts_mkS (l : List Int) : bts (mkB (shortenedM l)) = shortenedM l := bts_mkB _ (char_bytes (shortened_char l))
theorem toList_nil (s : ByteArray) : s.toList = [] ↔ bts s = [] := by
  rw [Go.ByteArray.toList_eq]
  unfold bts
  rw [List.map_eq_nil_iff]
theorem base_char (l : List Int) : ∀ b ∈ bts (baseS l), b ∈ charL := by
  unfold baseS
  split
  · intro b hb
    have : bts ⟨#[95]⟩ = [95] := by decide
    rw [this] at hb
    rw [List.mem_singleton.1 hb]; decide
  · rw [bts_mkS]; exact shortened_char _
theorem bts_first (s : ByteArray) (n : Nat) : bts (firstS s n) = (bts s).take n := by
  unfold firstS
  rw [bts_take]
  rcases Nat.le_total n s.size with h | h
  · rw [Nat.min_eq_left h]
  · rw [Nat.min_eq_right h, List.take_of_length_le (by rw [bts_len]; omega), List.take_of_length_le (by rw [bts_len]; omega)]
/-- The end of the names that are tried: nothing, or a dot and some characters. -/
theorem end_is (l : List Int) : bts (endS l) = [] ∨ ∃ e, bts (endS l) = 46 :: e ∧ (∀ b ∈ e, b ∈ charL) ∧ 1 ≤ e.length ∧ e.length ≤ 3 := by
  have h0 : (∀ b ∈ bts (end0 l), b ∈ charL) ∧ (bts (end0 l)).length ≤ 3 := by
    unfold end0
    split
    · exact ⟨(fun b hb => by cases hb), by show ([] : List Int).length ≤ 3; simp⟩
    · rw [bts_first, bts_mkS]
      exact ⟨fun b hb => shortened_char _ b (List.mem_of_mem_take hb), by rw [List.length_take]; omega⟩
  unfold endS
  split
  · rename_i h
    exact Or.inl ((toList_nil _).1 h)
  · rename_i h
    refine Or.inr ⟨bts (end0 l), by rw [bts_append]; rfl, h0.1, ?_, h0.2⟩
    rw [toList_nil] at h
    cases he : bts (end0 l) with
    | nil => exact absurd he h
    | cons a r => simp
def digI (n : Nat) : List Int := (Lib.decDigits n).map fun b => (b.toNat : Int)
theorem bts_dec (n : Nat) : bts (decS n) = digI n := by
  unfold bts decS digI Lib.itoa
  rw [if_neg (by omega), Int.toNat_natCast]
theorem dig_range (n : Nat) : ∀ b ∈ digI n, 48 ≤ b ∧ b ≤ 57 := by
  unfold digI
  induction n using Nat.strongRecOn with
  | _ n ih =>
    intro b hb
    rw [Lib.decDigits] at hb
    split at hb
    · simp only [List.map_cons, List.map_nil, List.mem_singleton] at hb
      rw [hb, UInt8.toNat_ofNat']; omega
    · rw [List.map_append] at hb
      rcases List.mem_append.1 hb with h | h
      · exact ih (n / 10) (by omega) b h
      · simp only [List.map_cons, List.map_nil, List.mem_singleton] at h
        rw [h, UInt8.toNat_ofNat']; omega
theorem dig_pos (n : Nat) : 1 ≤ (digI n).length := by
  unfold digI
  rw [List.length_map, Lib.decDigits]
  split <;> simp
theorem dig_char (b : Int) (h : 48 ≤ b ∧ b ≤ 57) : b ∈ charL := by
  have : ∀ n : Nat, n < 10 → ((48 + n : Nat) : Int) ∈ charL := by decide
  have h2 := this (b - 48).toNat (by omega)
  rwa [show ((48 + (b - 48).toNat : Nat) : Int) = b by omega] at h2
/-- The bytes of a name that is tried. -/
theorem try_bts (l : List Int) (n : Nat) : bts (tryN l n) = (bts (baseS l)).take (7 - (decS n).size) ++ 126 :: digI n ++ bts (endS l) := by
  unfold tryN
  rw [bts_append, bts_append, bts_append, bts_first, bts_dec, show bts ⟨#[126]⟩ = [126] by decide]
  simp
theorem try_short (l : List Int) (n : Nat) (hn : n ≤ 9999) : isShortM (tryN l n) = true := by
  have hd := decS_size n hn
  have hdl : (digI n).length = (decS n).size := by rw [← bts_dec, bts_len]
  have hdp := dig_pos n
  obtain ⟨x, hx⟩ : ∃ x, (bts (baseS l)).take (7 - (decS n).size) ++ 126 :: digI n = x := ⟨_, rfl⟩
  have hxc : ∀ b ∈ x, b ∈ charL := by
    intro b hb
    rw [← hx] at hb
    rcases List.mem_append.1 hb with h | h
    · exact base_char l b (List.mem_of_mem_take h)
    · rcases List.mem_cons.1 h with h | h
      · rw [h]; decide
      · exact dig_char b (dig_range n b h)
  have hxl : 1 ≤ x.length ∧ x.length ≤ 8 := by
    rw [← hx, List.length_append, List.length_take, List.length_cons]; omega
  have hb := try_bts l n
  rw [hx] at hb
  have hsz : (tryN l n).size = (bts (tryN l n)).length := (bts_len _).symm
  have hx46 : ∀ b ∈ x, b ≠ 46 := fun b h e => char_46 (e ▸ hxc b h)
  have hall : x.all isC = true := by rw [List.all_eq_true]; exact fun b h => (isC_iff b).2 (hxc b h)
  rw [isShort_R, hsz, hb]
  rcases end_is l with he | ⟨e, he, hec, h1, h3⟩
  · rw [he, List.append_nil, isR_none _ _ _ hx46, hall, decide_eq_true hxl.1, decide_eq_true hxl.2]; rfl
  · have heall : e.all isC = true := by rw [List.all_eq_true]; exact fun b h => (isC_iff b).2 (hec b h)
    rw [he, isR_dot _ _ _ _ hx46, hall, heall, Bool.true_and, Bool.true_and, finI_iff]
    rw [List.length_append, List.length_cons]
    omega
theorem tries_short {l : List Int} {t : ByteArray} (h : t ∈ triesM l) : isShortM t = true := by
  unfold triesM at h
  rcases List.mem_append.1 h with h | h
  · split at h
    · rw [List.mem_singleton.1 h]; assumption
    · cases h
  · obtain ⟨i, hi, rfl⟩ := List.mem_map.1 h
    exact try_short l (i + 1) (by have := List.mem_range.1 hi; omega)

/-! Enough names. -/
theorem after_mark (t : Int) : ∀ (x y p q : List Int), x ++ t :: p = y ++ t :: q → t ∉ p → t ∉ q → p = q
  | [], [], p, q, h, _, _ => by simpa using h
  | [], b :: y, p, q, h, hp, hq => by
    simp only [List.nil_append, List.cons_append, List.cons.injEq] at h
    exact absurd (by rw [h.2]; simp) hp
  | a :: x, [], p, q, h, hp, hq => by
    simp only [List.nil_append, List.cons_append, List.cons.injEq] at h
    exact absurd (by rw [← h.2]; simp) hq
  | a :: x, b :: y, p, q, h, hp, hq => by
    simp only [List.cons_append, List.cons.injEq] at h
    exact after_mark t x y p q h.2 hp hq
theorem dig_val (n : Nat) (h : n < 100) : (digI n).foldl (fun (a b : Int) => 10 * a + (b - 48)) 0 = (n : Int) := by
  unfold digI
  rw [Lib.decDigits]
  split
  · simp only [List.map_cons, List.map_nil, List.foldl_cons, List.foldl_nil]
    rw [UInt8.toNat_ofNat']; omega
  · rw [Lib.decDigits, dif_pos (by omega)]
    simp only [List.map_append, List.map_cons, List.map_nil, List.cons_append, List.nil_append, List.foldl_cons, List.foldl_nil]
    rw [UInt8.toNat_ofNat', UInt8.toNat_ofNat']; omega
theorem try_inj {l : List Int} {n m : Nat} (hn : n < 100) (hm : m < 100) (h : bts (tryN l n) = bts (tryN l m)) : n = m := by
  rw [try_bts, try_bts] at h
  have h1 := List.append_cancel_right h
  have h126 : ∀ k, (126 : Int) ∉ digI k := fun k hk => by have := dig_range k _ hk; omega
  have h2 := after_mark 126 _ _ _ _ h1 (h126 n) (h126 m)
  have h3 := dig_val n hn
  rw [h2, dig_val m hm] at h3
  omega
theorem nodup_len : ∀ (xs ys : List (List Int)), xs.Nodup → (∀ x ∈ xs, x ∈ ys) → xs.length ≤ ys.length
  | [], ys, _, _ => by simp
  | x :: xs, ys, hn, h => by
    rw [List.nodup_cons] at hn
    have hx := h x (List.mem_cons_self ..)
    have := nodup_len xs (ys.erase x) hn.2 (fun y hy => (List.mem_erase_of_ne (fun e => hn.1 (by rw [← e]; exact hy))).2 (h y (List.mem_cons_of_mem _ hy)))
    rw [List.length_erase_of_mem hx] at this
    have : 1 ≤ ys.length := List.length_pos_of_mem hx
    simp only [List.length_cons]
    omega
theorem range_nodup (l : List Int) : ((List.range 31).map fun i => bts (tryN l (i + 1))).Nodup := by
  rw [List.Nodup, List.pairwise_map]
  refine List.Pairwise.imp_of_mem ?_ List.nodup_range
  intro a b ha hb hab h
  have := try_inj (by have := List.mem_range.1 ha; omega) (by have := List.mem_range.1 hb; omega) h
  omega
/-- With at most thirty that are taken there is one that is not. -/
theorem tries_free (l : List Int) (ups : List ByteArray) (h : ups.length ≤ 30) : ∃ t ∈ triesM l, t ∉ ups := by
  apply Classical.byContradiction
  intro hno
  have hall : ∀ t ∈ triesM l, t ∈ ups := fun t ht => Classical.byContradiction fun hn => hno ⟨t, ht, hn⟩
  have := nodup_len ((List.range 31).map fun i => bts (tryN l (i + 1))) (ups.map bts) (range_nodup l) (by
    intro x hx
    obtain ⟨i, hi, rfl⟩ := List.mem_map.1 hx
    refine List.mem_map.2 ⟨tryN l (i + 1), hall _ ?_, rfl⟩
    unfold triesM
    exact List.mem_append.2 (Or.inr (List.mem_map.2 ⟨i, List.mem_range.2 (by have := List.mem_range.1 hi; omega), rfl⟩)))
  rw [List.length_map, List.length_map, List.length_range] at this
  omega
theorem upOf_len (t : ByteArray) : (upOf t).length ≤ 1 := by unfold upOf; split <;> simp
theorem upsM_len (l : List ByteArray) : (upsM l).length ≤ l.length := by
  induction l with
  | nil => simp [upsM]
  | cons t l ih =>
    have : upsM (t :: l) = upOf t ++ upsM l := by simp [upsM]
    have := upOf_len t
    rw [‹upsM (t :: l) = _›, List.length_append, List.length_cons]
    omega
/-- What is chosen: the first that is not taken. -/
theorem short_got (l : List Int) (ups : List ByteArray) (h : ups.length ≤ 30) : ∃ x pre, pre ++ [x] <+: triesM l ∧ (∀ t ∈ pre, t ∈ ups) ∧ x ∉ ups ∧ shortOf l ups = (x, 0) := by
  obtain ⟨t, ht, hn⟩ := tries_free l ups h
  have hex : ∃ pre x post, triesM l = pre ++ x :: post ∧ (∀ t ∈ pre, t ∈ ups) ∧ x ∉ ups := by
    revert ht
    generalize triesM l = L
    intro ht
    induction L with
    | nil => cases ht
    | cons a L ih =>
      by_cases ha : a ∈ ups
      · rcases List.mem_cons.1 ht with e | ht
        · exact absurd (e ▸ ha) hn
        · obtain ⟨pre, x, post, e, h1, h2⟩ := ih ht
          refine ⟨a :: pre, x, post, by rw [e, List.cons_append], fun t h => ?_, h2⟩
          rcases List.mem_cons.1 h with e | h
          · rw [e]; exact ha
          · exact h1 t h
      · exact ⟨[], a, L, rfl, fun t h => (by cases h), ha⟩
  obtain ⟨pre, x, post, e, h1, h2⟩ := hex
  have hp : pre ++ [x] <+: triesM l := ⟨post, by rw [e]; simp⟩
  exact ⟨x, pre, hp, h1, h2, short_one hp h1 h2⟩
/-- With some more that are taken: the same, or that one is taken. -/
theorem short_more {l : List Int} {ups more pre : List ByteArray} {x : ByteArray} (hp : pre ++ [x] <+: triesM l) (h1 : ∀ t ∈ pre, t ∈ ups) (h2 : x ∉ ups) (h : (ups ++ more).length ≤ 30) :
    ∃ y, shortOf l (ups ++ more) = (y, 0) ∧ (y = x ↔ x ∉ more) := by
  by_cases hm : x ∈ more
  · obtain ⟨y, pre', hp', h1', h2', e⟩ := short_got l (ups ++ more) h
    refine ⟨y, e, fun e => ?_, fun h => absurd hm h⟩
    subst e
    exact absurd (List.mem_append.2 (Or.inr hm)) h2'
  · refine ⟨x, short_one hp (fun t ht => List.mem_append.2 (Or.inl (h1 t ht))) (fun hh => ?_), by simp [hm]⟩
    rcases List.mem_append.1 hh with hh | hh
    · exact h2 hh
    · exact hm hh
theorem short_in_tries {l : List Int} {pre : List ByteArray} {x : ByteArray} (hp : pre ++ [x] <+: triesM l) : x ∈ triesM l := by
  obtain ⟨r, hr⟩ := hp
  rw [← hr]
  simp
theorem short_self {s : ByteArray} (h : isShortM s = true) : shortM s [] = (s, 0) := by
  have hu := short_upS h
  unfold shortM
  rw [if_neg (by rw [short_valid h]; decide), short_getU h]
  simp only
  have := tries_head (l := bts s) (by rw [hu]; exact h)
  rw [hu] at this
  exact short_one (pre := []) (by simpa using this) (fun t h => by cases h) (by simp [upsM])
end Go.Proofs.YtmbdiimenmnfjaaDoor
/- The rows' words: what the condition on the listed variables gives; a world that meets it; an argument that is a slice of strings. -/
namespace Go.Proofs.YtmbdiimenmnfjaaDoor
open Go.Shelf Go.ChangeShapes Go.WideShapes Go.ChangeAt Go.RowKit Go.Deep
open Go.ChangeMaps (open_string shut_string)
set_option linter.unusedVariables false
set_option maxRecDepth 100000

theorem Tryd.own : ownKnob Tryd.prog.godebug = none := by kernel_rfl
theorem Tryd.laidOut : laidOutB Tryd.prog = true := by kernel_rfl
theorem Tryd.cells9 : Tryd.prog.cellsOf 9 = 1 := by kernel_rfl
theorem Tryd.cells46 : Tryd.prog.cellsOf 46 = 1 := by kernel_rfl
theorem Tryd.cells120 : Tryd.prog.cellsOf 120 = 1 := by kernel_rfl
theorem Tryd.cells126 : Tryd.prog.cellsOf 126 = 20 := by kernel_rfl
theorem Tryd.gP : Tryd.prog.globalNamed "internal/strconv.uint64pow10" = some 1 := by kernel_rfl
theorem Tryd.gPType : (Tryd.prog.globals[1]?).map (·.type) = some 126 := by kernel_rfl

def laidL : List (String × DataW Unit) := [("math/bits.deBruijn32tab", Rows.laid_math_bits_deBruijn32tab), ("math/bits.deBruijn64tab", Rows.laid_math_bits_deBruijn64tab), ("internal/strconv.uint64pow10", Rows.laid_internal_strconv_uint64pow10)]
theorem tab_of_laid {W : World} (h : laidMet Tryd.prog laidL W) : Tab W := by
  have h3 : laidMet Tryd.prog [("internal/strconv.uint64pow10", Lib.tabData .u64 Lib.pow10Tab)] W := h.tail.tail
  exact Lib.tabIs_of_head Tryd.gP Tryd.gPType Tryd.underlying126 Tryd.underlying120 Tryd.cells120 Tryd.cells126 h3

def cellsOfData : DataW Unit → Array Value
  | .agg l => (l.map fun
    | .lit (.int k z) => Value.int k z
    | _ => .int .i64 0).toArray
  | _ => #[]
/-- A world that meets the condition: the settled one, the three variables laid. -/
noncomputable def laidWorld (os : Os) : World :=
  let w0 := World.holding Tryd.prog os ⟨#[], #[], []⟩
  let put (h : Array Obj) (g : Nat) (cs : Array Value) : Array Obj := h.modify g fun
    | .cells _ t frozen => .cells cs t frozen
    | o => o
  let h1 := put w0.heap 1 (cellsOfData Rows.laid_internal_strconv_uint64pow10)
  let h2 := put h1 2 (cellsOfData Rows.laid_math_bits_deBruijn32tab)
  let h3 := put h2 3 (cellsOfData Rows.laid_math_bits_deBruijn64tab)
  { w0 with heap := h3 }
theorem laid_met (os : Os) (args : Array Value) : laidMet Tryd.prog laidL ((laidWorld os).forCall (fun _ _ => 0) ⟨#[], args, []⟩).memory :=
  (LaidIn.of_run [2, 3, 1] 8 (by kernel_rfl) (by kernel_rfl) (by kernel_rfl) (by kernel_rfl)).met

section
variable {H : Type} {enc : TypeId × Value → H}
/-- A slice of strings that came in. -/
theorem open_taken {W : World} {base : Nat} {v1 : Value} {d1 : DataW H} {p1 : List MemPlace} (hval : Value.okWide Tryd.prog W .any base 33 v1) (h1 : DataW.Trod enc Tryd.prog W 0 (fun _ => true) true 33 v1 d1 p1) :
    ∃ A c b, v1 = .slice A b.length c ∧ b.length ≤ c ∧ b.length ≤ maxLen ∧ RdS W A b.length b := by
  obtain ⟨a1, len, cap, rfl⟩ := okWide_slice Tryd.underlying33 hval
  obtain ⟨fuel, hf⟩ := h1
  rcases open_strings Tryd.underlying33 Tryd.underlying9 Tryd.cells9 hf with ⟨hcs, hx⟩ | ⟨a, len', cap', zs, hcs, _, hl, hm, hz, hx, hcell, hwz⟩
  · simp [Value.cells] at hcs
    obtain ⟨rfl, rfl, rfl⟩ := hcs
    exact ⟨none, 0, [], rfl, by simp, by simp, ⟨rfl, by simp, fun j hj => absurd hj (Nat.not_lt_zero _)⟩⟩
  · simp [Value.cells] at hcs
    obtain ⟨rfl, rfl, rfl⟩ := hcs
    simp only [if_true] at hz
    have hlen : (zs.take len).length = len := by simp; omega
    have hget : ∀ j, j < len → (zs.take len).getD j ByteArray.empty = zs.getD j ByteArray.empty := fun j hj => by
      simp [List.getD_eq_getElem?_getD, hj]
    refine ⟨some a, cap, zs.take len, by rw [hlen], by rw [hlen]; exact hl, by rw [hlen]; omega, ⟨rfl, by rw [hlen]; simp only [maxLen] at hm; omega, fun j hj => ⟨a, rfl, ?_⟩⟩⟩
    rw [hlen] at hj
    rw [hget j hj]
    exact hcell j (by omega)
theorem shut_bool {W : World} {base : Nat} {spare : Nat → Bool} {held : Bool} (b : Bool) : DataW.Trod enc Tryd.prog W base spare held 4 (.bool b) (.lit (.bool b)) [] :=
  ⟨1, by simp [DataW.trod, Value.cells, Tryd.underlying4]⟩
end
end Go.Proofs.YtmbdiimenmnfjaaDoor
/- Slices of strings: arguments, appends, few. -/
namespace Go.Proofs.YtmbdiimenmnfjaaDoor
open Go.RowKit Go.Deep Go.ChangeShapes Go.WideShapes Go.ChangeAt
open Go.Proofs.YtmbdiimenmnfjaaDoor.PNamesNames
open Go.Proofs.YtmbdiimenmnfjaaDoorW.PrintWords (rd rdOf Drawn0)
set_option linter.unusedVariables false
set_option linter.unusedSimpArgs false
set_option maxRecDepth 100000

section
variable {H : Type} {enc : TypeId × Value → H}
theorem open_taken2 {W : World} {base : Nat} {v1 : Value} {d1 : DataW H} {p1 : List MemPlace} (hval : Value.okWide Tryd.prog W .any base 33 v1) (h1 : DataW.Trod enc Tryd.prog W 0 (fun _ => true) true 33 v1 d1 p1) :
    ∃ A c b, v1 = .slice A b.length c ∧ b.length ≤ c ∧ b.length ≤ maxLen ∧ RdS W A b.length b ∧ (A = none → c = 0) := by
  obtain ⟨a1, len, cap, rfl⟩ := okWide_slice Tryd.underlying33 hval
  obtain ⟨fuel, hf⟩ := h1
  rcases open_strings Tryd.underlying33 Tryd.underlying9 Tryd.cells9 hf with ⟨hcs, hx⟩ | ⟨a, len', cap', zs, hcs, _, hl, hm, hz, hx, hcell, hwz⟩
  · simp [Value.cells] at hcs
    obtain ⟨rfl, rfl, rfl⟩ := hcs
    exact ⟨none, 0, [], rfl, by simp, by simp, ⟨rfl, by simp, fun j hj => absurd hj (Nat.not_lt_zero _)⟩, fun _ => rfl⟩
  · simp [Value.cells] at hcs
    obtain ⟨rfl, rfl, rfl⟩ := hcs
    simp only [if_true] at hz
    have hlen : (zs.take len).length = len := by simp; omega
    have hget : ∀ j, j < len → (zs.take len).getD j ByteArray.empty = zs.getD j ByteArray.empty := fun j hj => by
      simp [List.getD_eq_getElem?_getD, hj]
    refine ⟨some a, cap, zs.take len, by rw [hlen], by rw [hlen]; exact hl, by rw [hlen]; omega, ⟨rfl, by rw [hlen]; simp only [maxLen] at hm; omega, fun j hj => ⟨a, rfl, ?_⟩⟩, fun e => by cases e⟩
    rw [hlen] at hj
    rw [hget j hj]
    exact hcell j (by omega)
end
theorem few_l2 (l : List ByteArray) (hl : l.length ≤ 9223372036854775807) : ∀ (k i : Nat), i ≤ l.length → l.length < i + k → archivoltlaw05_few.l0 k l (i : Int) = some (((l.drop i).all fun s => decide (s.size ≤ 400)) && decide (l.length ≤ 30))
  | 0, i, h1, h3 => by omega
  | k + 1, i, h1, h3 => by
    unfold archivoltlaw05_few.l0
    by_cases hi : i < l.length
    · rw [if_pos (by omega), if_pos (by omega)]
      have ex : rdOf ByteArray.empty l (i : Int) = l.getD i ByteArray.empty := rfl
      rw [ex, drop_consS hi, List.all_cons]
      by_cases q : (l.getD i ByteArray.empty).size ≤ 400
      · rw [if_neg (by omega), decide_eq_true q, Bool.true_and]
        have ew : wrap64 ((i : Int) + 1) = ((i + 1 : Nat) : Int) := by unfold wrap64; omega
        rw [ew]
        exact few_l2 l hl k (i + 1) (by omega) (by omega)
      · rw [if_pos (by omega), decide_eq_false q]; rfl
    · rw [if_neg (by omega), List.drop_eq_nil_of_le (by omega), List.all_nil, Bool.true_and]
      congr 1
      rw [decide_eq_decide]
      omega
theorem few_any2 (A : Option Addr) (c : Nat) (l : List ByteArray) (w : World) (h : RdS w A l.length l) (hc : l.length ≤ c) (hl : l.length ≤ 9223372036854775807) :
    Calls Tryd.prog 14 #[.slice A l.length c] w fun e w' => e = .returned (.bool (fewM l)) ∧ Drawn w w' :=
  (archivoltlaw05_few.calls (l.length + 1) A c l (fewM l) w (rdS h) hc (by
    unfold archivoltlaw05_few.f
    have := few_l2 l hl (l.length + 1) 0 (by omega) (by omega)
    exact this)).mono fun e w' h => ⟨h.1, drawn0 h.2⟩

def strV (xs : List ByteArray) : List Value := xs.map Value.string
theorem info9 : (Tryd.prog.info? 9).map (fun i => (i.zero, i.size, i.bytes)) = some (some (.string ⟨#[]⟩), 1, 16) := by kernel_rfl
theorem own_noneS {w0 W : World} (h : w0.heap.size ≤ W.heap.size) : (W.alloc (.cells #[] 9)).ownsRow w0.heap.size 9 1 (.slice (some ⟨W.heap.size, 0, none⟩) 0 0) 0 [] :=
  ⟨rfl, Or.inr ⟨W.heap.size, 0, #[], rfl, h, heap_alloc_new _ _, Nat.le_refl _, Nat.zero_le _, rfl, rfl⟩⟩
/-- An append of strings that are read, nil or not. -/
theorem wpList_appS {w : World} {ops : Array Oper} {rest : List Oper} {o : Oper} {a : Act} {Q : Exit → Act → World → Prop} (hgd : o.guard = none) (s x : Operand)
    (ho : o.op = .call { callee := .builtin .append, args := #[s, x], argTypes := #[33, 33] }) (base : Nat) (v : Value) (n : Nat) (xs : List Value) (hs : a.eval s = v) (hown : w.ownsRow base 9 1 v n xs)
    (A : Option Addr) (m c : Nat) (ys : List ByteArray) (hx : a.eval x = .slice A m c) (hR : RdS w A m ys) (hN : A = none → c = 0) (h63 : n + m ≤ 1000000) (hbase : base ≤ w.heap.size)
    (h : ∀ v' w', w'.ownsRow base 9 1 v' (n + m) (xs ++ strV ys) → w.grownBy w' v.ownBlock → wpList Tryd.prog ops Q rest (a.put o.dst v') w') : wpList Tryd.prog ops Q (o :: rest) a w := by
  obtain ⟨i0, hi, hz0, hz1, hz2⟩ := info_parts info9
  cases A with
  | none =>
    have hm : m = 0 := by
      rcases Nat.eq_zero_or_pos m with h0 | h0
      · exact h0
      · obtain ⟨_, e, _⟩ := hR.at_ 0 h0; cases e
    subst hm
    have hy : ys = [] := List.length_eq_zero_iff.1 hR.len
    subst hy
    obtain rfl := hN rfl
    refine wpList_append_own_none hgd s x 33 ho base 9 i0 1 Tryd.underlying33 hi v n xs hs hown hx (h v w ?_ ⟨rfl, rfl, rfl, Nat.le_refl _, fun _ _ _ => rfl⟩)
    simpa [strV] using hown
  | some ad =>
    refine wpList_append_own _ hgd s x 33 ho base 9 i0 (.string ⟨#[]⟩) 1 16 Tryd.underlying33 hi hz0 hz1 hz2 rfl (by decide) v n xs hs hown ad m c (strV ys) hx (by unfold strV; rw [List.length_map, hR.len]; omega) ?_ (fun u hu => by obtain ⟨t, -, rfl⟩ := List.mem_map.1 hu; rfl) (by simp only [maxLen]; omega) (by omega) hbase (fun v' w' k1 k2 _ => h v' w' k1 k2)
    intro j u hu
    unfold strV at hu
    rw [List.getElem?_map] at hu
    obtain ⟨t, ht, rfl⟩ := Option.map_eq_some_iff.1 hu
    obtain ⟨hj, -⟩ := List.getElem?_eq_some_iff.1 ht
    obtain ⟨ad', e, hc⟩ := hR.at_ j (by have := hR.len; omega)
    cases e
    rw [hc, List.getD_eq_getElem?_getD, ht]
    rfl
theorem own_strs {w : World} {base n : Nat} {v : Value} {xs : List ByteArray} (h : w.ownsRow base 9 1 v n (strV xs)) (hm : n ≤ 9223372036854775807) : ∃ A c, v = .slice A n c ∧ n ≤ c ∧ RdS w A n xs := by
  have hl : xs.length = n := by have := h.1; simpa [strV] using this
  have h0 := h
  obtain ⟨h1, ⟨rfl, rfl⟩ | ⟨g, cap, cur, rfl, hg, hh, hle, r⟩⟩ := h
  · exact ⟨none, 0, rfl, Nat.le_refl _, ⟨hl, hm, fun j hj => absurd hj (Nat.not_lt_zero _)⟩⟩
  · refine ⟨some ⟨g, 0, none⟩, cap, rfl, hle, ⟨hl, hm, fun j hj => ⟨_, rfl, ?_⟩⟩⟩
    have hc := h0.cells (g := g) rfl j (.string (xs.getD j ByteArray.empty)) (by
      simp only [strV, List.getElem?_map]
      rw [List.getElem?_eq_getElem (by omega)]
      simp [List.getD_eq_getElem?_getD, List.getElem?_eq_getElem (show j < xs.length by omega)])
    exact hc
theorem own_tm {w : World} {base n : Nat} {v : Value} {ts X : List ByteArray} {m : ByteArray} (hX : ts ++ [m] = X) (hn : ts.length = n) (h : w.ownsRow base 9 1 v (0 + n + 1) ([] ++ strV ts ++ strV [m])) : w.ownsRow base 9 1 v X.length (strV X) := by
  subst hX hn
  rw [List.length_append]
  simpa [strV] using h
theorem rdS_new (W : World) (n : Nat) (hn : n = W.heap.size) (m : ByteArray) : RdS (W.alloc (.cells #[.string m] 9)) (some ⟨n, 0, none⟩) 1 [m] :=
  ⟨rfl, by decide, fun j hj => ⟨_, rfl, cell_new1 W n hn (.string m) 9 j _ (by have : j = 0 := by omega
                                                                               subst this; rfl)⟩⟩
end Go.Proofs.YtmbdiimenmnfjaaDoor
/- Walk: the law NamesTried. -/
namespace Go.Proofs.YtmbdiimenmnfjaaDoor
open Go.RowKit Go.Deep
set_option linter.unusedVariables false
set_option linter.unusedSimpArgs false

theorem short_nil (s : ByteArray) (hs : s.size ≤ 1000) (w : World) (ht : Tab w) : Calls Tryd.prog 27 #[.string s, .slice none 0 0] w fun e w' => e = .returned (.tuple #[.string (shortM s []).1, .int .i64 (shortM s []).2]) ∧ Below w.heap.size w w' :=
  short_any s hs none 0 0 (by decide) [] (by decide) (fun t h => by cases h) w ⟨rfl, by decide, fun j hj => absurd hj (by omega)⟩ ht

set_option maxRecDepth 100000 in
set_option maxHeartbeats 8000000 in
theorem law_NamesTried (s : ByteArray) (A1 : Option Addr) (c1 : Nat) (ts : List ByteArray) (hc1 : ts.length ≤ c1) (hN1 : A1 = none → c1 = 0) (hm1 : ts.length ≤ 9223372036854775807) (more : ByteArray)
    (w : World) (ht : Tab w) (hR1 : RdS w A1 ts.length ts) : Calls Tryd.prog 8 #[.string s, .slice A1 ts.length c1, .string more] w fun e w' => e = .returned (.bool true) ∧ Below w.heap.size w w' := by
  have HT := Lib.hid ht
  have HR1 := Lib.hid hR1
  clear ht hR1
  obtain ⟨f, hf⟩ : ∃ f, fewM [s, more] = f := ⟨_, rfl⟩
  have HF := Lib.hid hf
  cases f with
  | false =>
    clear hf
    go_enter Tryd.func8, Tryd.ntmps8
    go_wp2_with (first
      | ((have hgd := HB1); clear hgd; go_at_call 15; refine (sanity_any _ (HT.out.below HB1.out)).mono ?_; rintro e w2 ⟨rfl, hB⟩; (have HB2 := Lib.hid (below_then HB1.out HB1.out.size hB)); clear hB)
      | (go_at_call 14; refine (few_two s more _ _ rfl).mono ?_; rintro e w1 ⟨rfl, hB⟩; rw [HF.out]; (have HB1 := Lib.hid hB); clear hB))
    go_ret
    exact ⟨rfl, HB2.out⟩
  | true =>
  have hz := (few_is hf).1
  have hzs : s.size ≤ 400 := hz s (by simp)
  have hzm : more.size ≤ 400 := hz more (by simp)
  clear hf hz
  obtain ⟨f, hf⟩ : ∃ f, fewM ts = f := ⟨_, rfl⟩
  have HF2 := Lib.hid hf
  cases f with
  | false =>
    clear hf
    go_enter Tryd.func8, Tryd.ntmps8
    go_wp2_with (first
      | ((have hgd := HB2); clear hgd; go_at_call 15; refine (sanity_any _ (HT.out.below HB2.out)).mono ?_; rintro e w3 ⟨rfl, hB⟩; (have HB3 := Lib.hid (below_then HB2.out HB2.out.size hB)); clear hB)
      | ((have hgd := HB1); clear hgd; go_at_call 14; refine (few_any2 A1 c1 ts _ (HR1.out.below HB1.out) hc1 hm1).mono ?_; rintro e w2 ⟨rfl, hB⟩; rw [HF2.out]; (have HB2 := Lib.hid (below_drawn HB1.out hB)); clear hB)
      | (go_at_call 14; refine (few_two s more _ _ rfl).mono ?_; rintro e w1 ⟨rfl, hB⟩; rw [HF.out]; (have HB1 := Lib.hid hB); clear hB))
    go_ret
    exact ⟨rfl, HB3.out⟩
  | true =>
  by_cases hlen : 29 < ts.length
  · have hleni : 29 < (ts.length : Int) := by omega
    clear hf
    go_enter Tryd.func8, Tryd.ntmps8
    go_wp2_with (first
      | ((have hgd := HB2); clear hgd; go_at_call 15; refine (sanity_any _ (HT.out.below HB2.out)).mono ?_; rintro e w3 ⟨rfl, hB⟩; (have HB3 := Lib.hid (below_then HB2.out HB2.out.size hB)); clear hB)
      | ((have hgd := HB1); clear hgd; go_at_call 14; refine (few_any2 A1 c1 ts _ (HR1.out.below HB1.out) hc1 hm1).mono ?_; rintro e w2 ⟨rfl, hB⟩; rw [HF2.out]; (have HB2 := Lib.hid (below_drawn HB1.out hB)); clear hB)
      | (go_at_call 14; refine (few_two s more _ _ rfl).mono ?_; rintro e w1 ⟨rfl, hB⟩; rw [HF.out]; (have HB1 := Lib.hid hB); clear hB))
    go_ret
    exact ⟨rfl, HB3.out⟩
  have hleni : ¬ 29 < (ts.length : Int) := by omega
  have hzt := (few_is hf).1
  have HTZ : Hid (∀ t ∈ ts, t.size ≤ 1000) := Lib.hid (fun t h => by have := hzt t h; omega)
  have hzt4 : Hid (∀ t ∈ ts, t.size ≤ 400) := Lib.hid hzt
  clear hf hzt
  by_cases hc : checkM s = 0
  · obtain ⟨l, hg, -⟩ := check_units hc
    have hul := upsM_len ts
    obtain ⟨x, pre, hp, hpre, hx, hshx⟩ := short_got l (upsM ts) (by omega)
    have hxs := tries_short (short_in_tries hp)
    have hxz : x.size ≤ 12 := (short_is hxs).2.2.1
    have hSH : ∀ X, shortM s X = shortOf l (upsM X) := fun X => by unfold shortM; rw [if_neg (by rw [hc]; decide), hg]
    have HSH : Hid (shortM s ts = (x, 0)) := Lib.hid (by rw [hSH, hshx])
    have HIX := Lib.hid hxs
    have HCX := Lib.hid (short_valid hxs)
    have HNO : Hid (∀ t ∈ ts, sameM x t = false) := Lib.hid (fun t h => by
      rw [Bool.eq_false_iff]
      intro hh
      exact hx (List.mem_flatMap.2 ⟨t, h, (same_short hxs).1 hh⟩))
    obtain ⟨X1, hX1⟩ : ∃ X, ts ++ [more] = X := ⟨_, rfl⟩
    obtain ⟨X2, hX2⟩ : ∃ X, ts ++ [x] = X := ⟨_, rfl⟩
    have HX1 := Lib.hid hX1
    have HX2 := Lib.hid hX2
    have HL1 : Hid (X1.length = ts.length + 1) := Lib.hid (by rw [← hX1]; simp)
    have HL2 : Hid (X2.length = ts.length + 1) := Lib.hid (by rw [← hX2]; simp)
    have HZ1 : Hid (∀ t ∈ X1, t.size ≤ 1000) := Lib.hid (fun t h => by
      rw [← hX1] at h
      rcases List.mem_append.1 h with h | h
      · exact HTZ.out t h
      · rw [List.mem_singleton.1 h]; omega)
    have HZ2 : Hid (∀ t ∈ X2, t.size ≤ 1000) := Lib.hid (fun t h => by
      rw [← hX2] at h
      rcases List.mem_append.1 h with h | h
      · exact HTZ.out t h
      · rw [List.mem_singleton.1 h]; omega)
    obtain ⟨S, hS⟩ : ∃ S, sameM x more = S := ⟨_, rfl⟩
    have hum := upOf_len more
    have hux := upOf_len x
    obtain ⟨y, hy, hyx⟩ := short_more (more := upOf more) hp hpre hx (by rw [List.length_append]; omega)
    obtain ⟨z, hz, hzx⟩ := short_more (more := upOf x) hp hpre hx (by rw [List.length_append]; omega)
    have HSY : Hid (shortM s X1 = (y, 0)) := Lib.hid (by rw [hSH, ← hX1, upsM_snoc, hy])
    have HSZ : Hid (shortM s X2 = (z, 0)) := Lib.hid (by rw [hSH, ← hX2, upsM_snoc, hz])
    have hzn : ¬ z = x := fun e => (hzx.1 e) ((same_short hxs).1 (sameM_refl x))
    have hzb : (z.toList == x.toList) = false := by rw [same_bts, decide_eq_false hzn]
    have HYX : Hid (y = x ↔ S = false) := Lib.hid (by
      rw [hyx, ← hS, Bool.eq_false_iff]
      exact ⟨fun h hh => h ((same_short hxs).1 hh), fun h hh => h ((same_short hxs).2 hh)⟩)
    have HYN : Hid (S = true → (y.toList == x.toList) = false) := Lib.hid (fun h => by
      rw [same_bts, decide_eq_false]
      intro e
      have := HYX.out.1 e
      rw [h] at this
      cases this)
    have HSM := Lib.hid hS
    have HC := Lib.hid hc
    obtain ⟨I, hI⟩ : ∃ I, isShortM s = I := ⟨_, rfl⟩
    have HI := Lib.hid hI
    have HSF : Hid (I = true → shortM s [] = (s, 0)) := Lib.hid (fun h => short_self (hI.trans h))
    clear hc hg hul hp hpre hx hshx hxs hSH hX1 hX2 hS hum hux hy hyx hz hzx hzn hI
    cases I with
    | true =>
      replace HSF := Lib.hid (HSF.out rfl)
      go_enter Tryd.func8, Tryd.ntmps8
      go_wp2_with (first
          | ((have hgd := HB7); clear hgd; go_at_call 19; refine (valid_any x (by omega) _).mono ?_; rintro e w8 ⟨rfl, hB⟩; rw [HCX.out]; (have HB8 := Lib.hid (below_then HB7.out HB7.out.size hB)); clear hB)
          | ((have hgd := HB6); clear hgd; go_at_call 25; refine (isShort_any x (by omega) _).mono ?_; rintro e w7 ⟨rfl, hB⟩; rw [HIX.out]; (have HB7 := Lib.hid (below_then HB6.out HB6.out.size hB)); clear hB)
          | ((have hgd := HB5); clear hgd; go_at_call 19; refine (valid_any s (by omega) _).mono ?_; rintro e w6 ⟨rfl, hB⟩; rw [HC.out]; (have HB6 := Lib.hid (below_then HB5.out HB5.out.size hB)); clear hB)
          | ((have hgd := HB4); clear hgd; go_at_call 27; refine (short_nil s (by omega) _ (HT.out.below HB4.out)).mono ?_; rintro e w5 ⟨rfl, hB⟩; rw [HSF.out]; (have HB5 := Lib.hid (below_then HB4.out HB4.out.size hB)); clear hB)
          | ((have hgd := HB3); clear hgd; go_at_call 25; refine (isShort_any s (by omega) _).mono ?_; rintro e w4 ⟨rfl, hB⟩; rw [HI.out]; (have HB4 := Lib.hid (below_then HB3.out HB3.out.size hB)); clear hB)
          | ((have hgd := HB2); clear hgd; go_at_call 27; refine (short_any s (by omega) A1 ts.length c1 hc1 ts (by omega) HTZ.out _ (HR1.out.below HB2.out) (HT.out.below HB2.out)).mono ?_; rintro e w3 ⟨rfl, hB⟩; rw [HSH.out]; (have HB3 := Lib.hid (below_then HB2.out HB2.out.size hB)); clear hB)
          | ((have hgd := HB1); clear hgd; go_at_call 14; refine (few_any2 A1 c1 ts _ (HR1.out.below HB1.out) hc1 hm1).mono ?_; rintro e w2 ⟨rfl, hB⟩; rw [HF2.out]; (have HB2 := Lib.hid (below_drawn HB1.out hB)); clear hB)
          | (go_at_call 14; refine (few_two s more _ _ rfl).mono ?_; rintro e w1 ⟨rfl, hB⟩; rw [HF.out]; (have HB1 := Lib.hid hB); clear hB))
      go_loopw [11] (fun v W => ∃ i : Nat, v = .int .i64 i ∧ i ≤ ts.length ∧ Hid (Below w.heap.size w W)) (fun i _ => ts.length - (intOf i).toNat)
      case atStart => exact ⟨0, rfl, by omega, HB8⟩
      case round =>
        obtain ⟨i, rfl, hil, HBL⟩ := hrel
        by_cases hlt : i < ts.length
        · have hlti : (i : Int) < ts.length := by omega
          obtain ⟨ad, hA, hcl⟩ := (HR1.out.below HBL.out).at_ i hlt
          subst hA
          obtain ⟨t, htt⟩ : ∃ t, ts.getD i ByteArray.empty = t := ⟨_, rfl⟩
          rw [htt] at hcl
          have htm : t ∈ ts := by
            rw [← htt, List.getD_eq_getElem?_getD, List.getElem?_eq_getElem hlt]
            exact List.getElem_mem hlt
          have htz := HTZ.out t htm
          have HNS : Hid (sameM x t = false) := Lib.hid (HNO.out t htm)
          clear htt htm
          go_wp2_with (go_at_call 23; refine (same_any x t (by omega) (by omega) _).mono ?_; rintro e w30 ⟨rfl, hB⟩; rw [HNS.out]; (have HB30 := Lib.hid (below_then HBL.out HBL.out.size hB)); clear hB)
          exact ⟨⟨i + 1, by simp, by omega, HB30⟩, by simp only [intOf]; omega⟩
        · have hie : i = ts.length := by omega
          have hlti : ¬ ((i : Int) < ts.length) := by omega
          go_upto_region 19 with (first
            | ((have hgd := HBq); clear hgd; go_at_call 27; refine (short_any s (by omega) A9 X2.length c9 hc9 X2 (by have := HL2.out; omega) HZ2.out _ HR9.out (HT.out.below HB44.out)).mono ?_; rintro e w45 ⟨rfl, hB⟩; rw [HSZ.out]; (have HB46 := Lib.hid (below_then HB44.out HB44.out.size hB)); clear hB)
            | ((have hgd := HA3); clear hgd; at_builtin; refine wpList_appS rfl _ _ rfl w.heap.size _ (0 + ts.length) ([] ++ strV ts) rfl (World.ownsRow.alloc HA3.out _) (some ⟨w43.heap.size, 0, none⟩) 1 1 [x] rfl (rdS_new _ _ rfl x) (fun e => by cases e) (by omega) (by have := HB43.out.size; simp; omega) ?_; intro v44 w44 hown hgrow; (have HB44 := Lib.hid ((below_al HB43.out _).grown hgrow (by have := HB43.out.size; simp; omega) (fun kk hk => (HA3.out.lt kk hk).1))); (have hO := own_tm HX2.out rfl hown); obtain ⟨A9, c9, rfl, hc9, hRd9⟩ := own_strs hO (by have := HL2.out; omega); (have HR9 := Lib.hid hRd9); (have HBq := HB44); clear hown hgrow hO hRd9)
            | ((have hgd := HB42); clear hgd; at_builtin; refine wpList_appS rfl _ _ rfl w.heap.size _ 0 [] rfl (own_noneS HB42.out.size) A1 ts.length c1 ts rfl (HR1.out.below (below_al HB42.out _)) hN1 (by omega) (by have := HB42.out.size; simp; omega) ?_; intro v43 w43 hown hgrow; (have HA3 := Lib.hid hown); (have HB43 := Lib.hid ((below_al HB42.out _).grown hgrow (by have := HB42.out.size; simp; omega) (fun kk hk => ((own_noneS (w0 := w) HB42.out.size).lt kk hk).1))); clear hown hgrow)
            | ((have hgd := HBp); clear hgd; go_at_call 27; refine (short_any s (by omega) A8 X1.length c8 hc8 X1 (by have := HL1.out; omega) HZ1.out _ HR8.out (HT.out.below HB41.out)).mono ?_; rintro e w42 ⟨rfl, hB⟩; rw [HSY.out]; (have HB42 := Lib.hid (below_then HB41.out HB41.out.size hB)); clear hB)
            | ((have hgd := HA1); clear hgd; at_builtin; refine wpList_appS rfl _ _ rfl w.heap.size _ (0 + ts.length) ([] ++ strV ts) rfl (World.ownsRow.alloc HA1.out _) (some ⟨w40.heap.size, 0, none⟩) 1 1 [more] rfl (rdS_new _ _ rfl more) (fun e => by cases e) (by omega) (by have := HB40.out.size; simp; omega) ?_; intro v41 w41 hown hgrow; (have HB41 := Lib.hid ((below_al HB40.out _).grown hgrow (by have := HB40.out.size; simp; omega) (fun kk hk => (HA1.out.lt kk hk).1))); (have hO := own_tm HX1.out rfl hown); obtain ⟨A8, c8, rfl, hc8, hRd8⟩ := own_strs hO (by have := HL1.out; omega); (have HR8 := Lib.hid hRd8); (have HBp := HB41); clear hown hgrow hO hRd8)
            | (at_builtin; refine wpList_appS rfl _ _ rfl w.heap.size _ 0 [] rfl (own_noneS HBL.out.size) A1 ts.length c1 ts rfl (HR1.out.below (below_al HBL.out _)) hN1 (by omega) (by have := HBL.out.size; simp; omega) ?_; intro v40 w40 hown hgrow; (have HA1 := Lib.hid hown); (have HB40 := Lib.hid ((below_al HBL.out _).grown hgrow (by have := HBL.out.size; simp; omega) (fun kk hk => ((own_noneS (w0 := w) HBL.out.size).lt kk hk).1))); clear hown hgrow))
          cases S with
          | false =>
            have hyb : (y.toList == x.toList) = true := by rw [HYX.out.2 rfl]; simp
            go_wp2_with (first
            | ((have hgd := HB47); clear hgd; go_at_call 23; refine (same_any x more (by omega) (by omega) _).mono ?_; rintro e w48 ⟨rfl, hB⟩; rw [HSM.out]; (have HB48 := Lib.hid (below_then HB47.out HB47.out.size hB)); clear hB)
            | ((have hgd := HB46); clear hgd; go_at_call 15; refine (sanity_any _ (HT.out.below HB46.out)).mono ?_; rintro e w47 ⟨rfl, hB⟩; (have HB47 := Lib.hid (below_then HB46.out HB46.out.size hB)); clear hB))
            go_ret
            exact ⟨rfl, HB48.out⟩
          | true =>
            have hyb := HYN.out rfl
            go_wp2_with (first
            | ((have hgd := HB47); clear hgd; go_at_call 23; refine (same_any x more (by omega) (by omega) _).mono ?_; rintro e w48 ⟨rfl, hB⟩; rw [HSM.out]; (have HB48 := Lib.hid (below_then HB47.out HB47.out.size hB)); clear hB)
            | ((have hgd := HB46); clear hgd; go_at_call 15; refine (sanity_any _ (HT.out.below HB46.out)).mono ?_; rintro e w47 ⟨rfl, hB⟩; (have HB47 := Lib.hid (below_then HB46.out HB46.out.size hB)); clear hB))
            go_ret
            exact ⟨rfl, HB48.out⟩
    | false =>
      go_enter Tryd.func8, Tryd.ntmps8
      go_wp2_with (first
          | ((have hgd := HB5); clear hgd; go_at_call 19; refine (valid_any x (by omega) _).mono ?_; rintro e w6 ⟨rfl, hB⟩; rw [HCX.out]; (have HB6 := Lib.hid (below_then HB5.out HB5.out.size hB)); clear hB)
          | ((have hgd := HB4); clear hgd; go_at_call 25; refine (isShort_any x (by omega) _).mono ?_; rintro e w5 ⟨rfl, hB⟩; rw [HIX.out]; (have HB5 := Lib.hid (below_then HB4.out HB4.out.size hB)); clear hB)
          | ((have hgd := HB3); clear hgd; go_at_call 25; refine (isShort_any s (by omega) _).mono ?_; rintro e w4 ⟨rfl, hB⟩; rw [HI.out]; (have HB4 := Lib.hid (below_then HB3.out HB3.out.size hB)); clear hB)
          | ((have hgd := HB2); clear hgd; go_at_call 27; refine (short_any s (by omega) A1 ts.length c1 hc1 ts (by omega) HTZ.out _ (HR1.out.below HB2.out) (HT.out.below HB2.out)).mono ?_; rintro e w3 ⟨rfl, hB⟩; rw [HSH.out]; (have HB3 := Lib.hid (below_then HB2.out HB2.out.size hB)); clear hB)
          | ((have hgd := HB1); clear hgd; go_at_call 14; refine (few_any2 A1 c1 ts _ (HR1.out.below HB1.out) hc1 hm1).mono ?_; rintro e w2 ⟨rfl, hB⟩; rw [HF2.out]; (have HB2 := Lib.hid (below_drawn HB1.out hB)); clear hB)
          | (go_at_call 14; refine (few_two s more _ _ rfl).mono ?_; rintro e w1 ⟨rfl, hB⟩; rw [HF.out]; (have HB1 := Lib.hid hB); clear hB))
      go_loopw [11] (fun v W => ∃ i : Nat, v = .int .i64 i ∧ i ≤ ts.length ∧ Hid (Below w.heap.size w W)) (fun i _ => ts.length - (intOf i).toNat)
      case atStart => exact ⟨0, rfl, by omega, HB6⟩
      case round =>
        obtain ⟨i, rfl, hil, HBL⟩ := hrel
        by_cases hlt : i < ts.length
        · have hlti : (i : Int) < ts.length := by omega
          obtain ⟨ad, hA, hcl⟩ := (HR1.out.below HBL.out).at_ i hlt
          subst hA
          obtain ⟨t, htt⟩ : ∃ t, ts.getD i ByteArray.empty = t := ⟨_, rfl⟩
          rw [htt] at hcl
          have htm : t ∈ ts := by
            rw [← htt, List.getD_eq_getElem?_getD, List.getElem?_eq_getElem hlt]
            exact List.getElem_mem hlt
          have htz := HTZ.out t htm
          have HNS : Hid (sameM x t = false) := Lib.hid (HNO.out t htm)
          clear htt htm
          go_wp2_with (go_at_call 23; refine (same_any x t (by omega) (by omega) _).mono ?_; rintro e w30 ⟨rfl, hB⟩; rw [HNS.out]; (have HB30 := Lib.hid (below_then HBL.out HBL.out.size hB)); clear hB)
          exact ⟨⟨i + 1, by simp, by omega, HB30⟩, by simp only [intOf]; omega⟩
        · have hie : i = ts.length := by omega
          have hlti : ¬ ((i : Int) < ts.length) := by omega
          go_upto_region 19 with (first
            | ((have hgd := HBq); clear hgd; go_at_call 27; refine (short_any s (by omega) A9 X2.length c9 hc9 X2 (by have := HL2.out; omega) HZ2.out _ HR9.out (HT.out.below HB44.out)).mono ?_; rintro e w45 ⟨rfl, hB⟩; rw [HSZ.out]; (have HB46 := Lib.hid (below_then HB44.out HB44.out.size hB)); clear hB)
            | ((have hgd := HA3); clear hgd; at_builtin; refine wpList_appS rfl _ _ rfl w.heap.size _ (0 + ts.length) ([] ++ strV ts) rfl (World.ownsRow.alloc HA3.out _) (some ⟨w43.heap.size, 0, none⟩) 1 1 [x] rfl (rdS_new _ _ rfl x) (fun e => by cases e) (by omega) (by have := HB43.out.size; simp; omega) ?_; intro v44 w44 hown hgrow; (have HB44 := Lib.hid ((below_al HB43.out _).grown hgrow (by have := HB43.out.size; simp; omega) (fun kk hk => (HA3.out.lt kk hk).1))); (have hO := own_tm HX2.out rfl hown); obtain ⟨A9, c9, rfl, hc9, hRd9⟩ := own_strs hO (by have := HL2.out; omega); (have HR9 := Lib.hid hRd9); (have HBq := HB44); clear hown hgrow hO hRd9)
            | ((have hgd := HB42); clear hgd; at_builtin; refine wpList_appS rfl _ _ rfl w.heap.size _ 0 [] rfl (own_noneS HB42.out.size) A1 ts.length c1 ts rfl (HR1.out.below (below_al HB42.out _)) hN1 (by omega) (by have := HB42.out.size; simp; omega) ?_; intro v43 w43 hown hgrow; (have HA3 := Lib.hid hown); (have HB43 := Lib.hid ((below_al HB42.out _).grown hgrow (by have := HB42.out.size; simp; omega) (fun kk hk => ((own_noneS (w0 := w) HB42.out.size).lt kk hk).1))); clear hown hgrow)
            | ((have hgd := HBp); clear hgd; go_at_call 27; refine (short_any s (by omega) A8 X1.length c8 hc8 X1 (by have := HL1.out; omega) HZ1.out _ HR8.out (HT.out.below HB41.out)).mono ?_; rintro e w42 ⟨rfl, hB⟩; rw [HSY.out]; (have HB42 := Lib.hid (below_then HB41.out HB41.out.size hB)); clear hB)
            | ((have hgd := HA1); clear hgd; at_builtin; refine wpList_appS rfl _ _ rfl w.heap.size _ (0 + ts.length) ([] ++ strV ts) rfl (World.ownsRow.alloc HA1.out _) (some ⟨w40.heap.size, 0, none⟩) 1 1 [more] rfl (rdS_new _ _ rfl more) (fun e => by cases e) (by omega) (by have := HB40.out.size; simp; omega) ?_; intro v41 w41 hown hgrow; (have HB41 := Lib.hid ((below_al HB40.out _).grown hgrow (by have := HB40.out.size; simp; omega) (fun kk hk => (HA1.out.lt kk hk).1))); (have hO := own_tm HX1.out rfl hown); obtain ⟨A8, c8, rfl, hc8, hRd8⟩ := own_strs hO (by have := HL1.out; omega); (have HR8 := Lib.hid hRd8); (have HBp := HB41); clear hown hgrow hO hRd8)
            | (at_builtin; refine wpList_appS rfl _ _ rfl w.heap.size _ 0 [] rfl (own_noneS HBL.out.size) A1 ts.length c1 ts rfl (HR1.out.below (below_al HBL.out _)) hN1 (by omega) (by have := HBL.out.size; simp; omega) ?_; intro v40 w40 hown hgrow; (have HA1 := Lib.hid hown); (have HB40 := Lib.hid ((below_al HBL.out _).grown hgrow (by have := HBL.out.size; simp; omega) (fun kk hk => ((own_noneS (w0 := w) HBL.out.size).lt kk hk).1))); clear hown hgrow))
          cases S with
          | false =>
            have hyb : (y.toList == x.toList) = true := by rw [HYX.out.2 rfl]; simp
            go_wp2_with (first
            | ((have hgd := HB47); clear hgd; go_at_call 23; refine (same_any x more (by omega) (by omega) _).mono ?_; rintro e w48 ⟨rfl, hB⟩; rw [HSM.out]; (have HB48 := Lib.hid (below_then HB47.out HB47.out.size hB)); clear hB)
            | ((have hgd := HB46); clear hgd; go_at_call 15; refine (sanity_any _ (HT.out.below HB46.out)).mono ?_; rintro e w47 ⟨rfl, hB⟩; (have HB47 := Lib.hid (below_then HB46.out HB46.out.size hB)); clear hB))
            go_ret
            exact ⟨rfl, HB48.out⟩
          | true =>
            have hyb := HYN.out rfl
            go_wp2_with (first
            | ((have hgd := HB47); clear hgd; go_at_call 23; refine (same_any x more (by omega) (by omega) _).mono ?_; rintro e w48 ⟨rfl, hB⟩; rw [HSM.out]; (have HB48 := Lib.hid (below_then HB47.out HB47.out.size hB)); clear hB)
            | ((have hgd := HB46); clear hgd; go_at_call 15; refine (sanity_any _ (HT.out.below HB46.out)).mono ?_; rintro e w47 ⟨rfl, hB⟩; (have HB47 := Lib.hid (below_then HB46.out HB46.out.size hB)); clear hB))
            go_ret
            exact ⟨rfl, HB48.out⟩
  · obtain ⟨C, hC⟩ : ∃ C, checkM s = C := ⟨_, rfl⟩
    have HI : Hid (isShortM s = false) := Lib.hid (by rw [Bool.eq_false_iff]; exact fun h => hc (short_valid h))
    have HSH : Hid (shortM s ts = (⟨#[]⟩, C)) := Lib.hid (by unfold shortM; rw [if_pos hc, hC]; rfl)
    rw [hC] at hc
    have hcb : (C == 0) = false := by simpa using hc
    have HC := Lib.hid hC
    clear hC
    go_enter Tryd.func8, Tryd.ntmps8
    go_wp2_with (first
        | ((have hgd := HB5); clear hgd; go_at_call 19; refine (valid_any s (by omega) _).mono ?_; rintro e w6 ⟨rfl, hB⟩; rw [HC.out]; (have HB6 := Lib.hid (below_then HB5.out HB5.out.size hB)); clear hB)
        | ((have hgd := HB4); clear hgd; go_at_call 15; refine (sanity_any _ (HT.out.below HB4.out)).mono ?_; rintro e w5 ⟨rfl, hB⟩; (have HB5 := Lib.hid (below_then HB4.out HB4.out.size hB)); clear hB)
        | ((have hgd := HB3); clear hgd; go_at_call 25; refine (isShort_any s (by omega) _).mono ?_; rintro e w4 ⟨rfl, hB⟩; rw [HI.out]; (have HB4 := Lib.hid (below_then HB3.out HB3.out.size hB)); clear hB)
        | ((have hgd := HB2); clear hgd; go_at_call 27; refine (short_any s (by omega) A1 ts.length c1 hc1 ts (by omega) HTZ.out _ (HR1.out.below HB2.out) (HT.out.below HB2.out)).mono ?_; rintro e w3 ⟨rfl, hB⟩; rw [HSH.out]; (have HB3 := Lib.hid (below_then HB2.out HB2.out.size hB)); clear hB)
        | ((have hgd := HB1); clear hgd; go_at_call 14; refine (few_any2 A1 c1 ts _ (HR1.out.below HB1.out) hc1 hm1).mono ?_; rintro e w2 ⟨rfl, hB⟩; rw [HF2.out]; (have HB2 := Lib.hid (below_drawn HB1.out hB)); clear hB)
        | (go_at_call 14; refine (few_two s more _ _ rfl).mono ?_; rintro e w1 ⟨rfl, hB⟩; rw [HF.out]; (have HB1 := Lib.hid hB); clear hB))
    go_ret
    exact ⟨rfl, HB6.out⟩
end Go.Proofs.YtmbdiimenmnfjaaDoor
/- NamesTried: for every input the law returns true and leaves its arguments as they were; the three listed tables of the library are tied to the program's text. Conditions: none beyond the row. -/
namespace Go.Proofs.YtmbdiimenmnfjaaDoor
open Go.Shelf Go.ChangeShapes Go.WideShapes Go.ChangeAt Go.RowKit Go.Deep
open Go.ChangeMaps (open_string shut_string)
set_option linter.unusedVariables false
set_option maxRecDepth 100000

theorem namesTried_witness (os : Os) {H : Type} (enc : TypeId × Value → H) :
    (OpenSpec.ofChange Rows.namesTriedSpec).preRow enc Tryd.prog Tryd.f8 Rows.namesTriedRow.domain false Rows.namesTriedRow.laid ((laidWorld os).forCall (fun _ _ => 0) ⟨#[], #[.string ⟨#[]⟩, .slice none 0 0, .string ⟨#[]⟩], []⟩).memory #[.string ⟨#[]⟩, .slice none 0 0, .string ⟨#[]⟩] := by
  have hw : (DataW.whole enc Tryd.prog ((laidWorld os).forCall (fun _ _ => 0) ⟨#[], #[.string ⟨#[]⟩, .slice none 0 0, .string ⟨#[]⟩], []⟩).memory Tryd.f8.params.toList (OpenSpec.ofChange Rows.namesTriedSpec).vars false ((#[.string ⟨#[]⟩, .slice none 0 0, .string ⟨#[]⟩] : Array Value).toList) 8).map (fun x => (x.1, x.2.1)) =
      some ([.lit (.string []), .nil, .lit (.string [])], []) := by kernel_rfl
  obtain ⟨⟨x1, x2, x3⟩, hx, hx1⟩ := Option.map_eq_some_iff.1 hw
  simp only [Prod.mk.injEq] at hx1
  obtain ⟨rfl, rfl⟩ := hx1
  exact OpenSpec.preRow_of_cond 8 hx (by kernel_rfl) (fun k hk => by cases hk) (by kernel_rfl) (laid_met os _)

set_option maxHeartbeats 2000000 in
theorem namesTried_lifted (os : Os) (started : os.Started) (H : Type) (enc : TypeId × Value → H) (F : Stop.Interp) :
    ReturnsInHanded {} Tryd.checked os 8 .any ((OpenSpec.ofChange Rows.namesTriedSpec).preRow enc Tryd.prog Tryd.f8 Rows.namesTriedRow.domain false Rows.namesTriedRow.laid) (((OpenSpec.ofChange Rows.namesTriedSpec).at F).post enc Tryd.prog Tryd.f8 false true false false) := by
  refine returnsInHanded_of_row (C := Tryd.checked) (s := (OpenSpec.ofChange Rows.namesTriedSpec)) Tryd.own started (by kernel_rfl) Tryd.func8
    (witness_row_atRef (enc := enc) (C := Tryd.checked) false (laidWorld os) #[.string ⟨#[]⟩, .slice none 0 0, .string ⟨#[]⟩] rfl (by kernel_rfl) (by kernel_rfl) (by kernel_rfl) (namesTried_witness os enc)) ?_
  intro W base args ds gs before hval0 hW hcnd0 _ _ hL _ _
  have hval : ∀ (j : Nat) t v, Tryd.f8.params[j]? = some t → args[j]? = some v → Value.okWide Tryd.prog W .any base t v := hval0
  have hW' := hW
  obtain ⟨p, q, hA0, hV0, rfl, _, _⟩ := hW
  have hA : DataW.TrodAll enc Tryd.prog W 0 (fun _ => true) true Tryd.f8.params.toList args.toList ds p := hA0
  rw [Tryd.params8] at hA hval
  obtain ⟨v0, v1, v2, d0, d1, d2, p0, p1, p2, rfl, rfl, rfl, h0, h1, h2⟩ := trodAll_three hA
  obtain ⟨rfl, rfl⟩ := trodVars_none hV0
  obtain ⟨s0, rfl, rfl, rfl, ws0⟩ := open_string Tryd.underlying9 (hval 0 9 v0 rfl rfl) h0
  obtain ⟨A1, c1, b1, rfl, hc1, hm1, hR1, hN1⟩ := open_taken2 (hval 1 33 v1 rfl rfl) h1
  obtain ⟨s2, rfl, rfl, rfl, ws2⟩ := open_string Tryd.underlying9 (hval 2 9 v2 rfl rfl) h2
  clear hA0 hV0 hval0
  have hlt1 : ∀ x ∈ p1, x.block < W.heap.size := fun x hx => hW'.lt x (by simp [hx])
  refine (law_NamesTried s0 A1 c1 b1 hc1 hN1 (by unfold maxLen at hm1; omega) s2 W (tab_of_laid hL) hR1).mono ?_
  rintro e W' ⟨rfl, bel⟩
  refine ⟨_, rfl, _, _, _, [], _, [], hW', trodAll_mk1 (shut_bool true), trodAll_mk3 (shut_string Tryd.underlying9 ws0) (Below.trod Tryd.laidOut (by kernel_rfl) (of_decide_eq_true (by kernel_rfl)) h1 bel hlt1) (shut_string Tryd.underlying9 ws2), rfl, bel.frame _, fun h => by cases h⟩

theorem namesTried_said : Rows.NamesTriedSaid :=
  OpenClaim.holds_of_cond 8 Tryd.f8 rfl rfl rfl rfl rfl rfl rfl ⟨rfl, rfl, rfl, rfl, rfl⟩ rfl rfl rfl rfl rfl (by kernel_rfl) Tryd.func8 (by kernel_rfl)
    (of_decide_eq_true (by kernel_rfl)) (by unfold Func.isWrapper; rw [if_neg (of_decide_eq_false (by kernel_rfl))]; exact ⟨rfl, rfl⟩)
    (fun os started H enc _ F0 => by rw [OpenClaim.pre_eq_preRow]; exact namesTried_lifted os started H enc F0)

/-- The tied card. -/
theorem namesTried_holds : Rows.NamesTriedCardSaid :=
  Claim7.holds_tied_plain_at .later [] [.data, .data, .data] true (true, "66086631d20495c7847d46aa70f2f13bc49942b8d180c92b9434ef6fd88d0904") true
    namesTried_said (fun _ h => by cases h) (by kernel_rfl) (fun _ h => by cases h) namesTried_row_tie rfl ⟨rfl, rfl⟩ (by kernel_rfl) rfl
    (fun f fn hf hfn => by
      obtain rfl : f = 8 := Option.some.inj ((show Tryd.prog.funcNamed "archivolt/archivoltlaw05.NamesTried" = some 8 by kernel_rfl).symm.trans hf) |>.symm
      obtain rfl : fn = Tryd.f8 := (Option.some.inj (Tryd.func8.symm.trans hfn)).symm
      refine ⟨by kernel_rfl, fun j t ht => ?_⟩
      rw [Tryd.params8] at ht
      have hm := List.mem_of_getElem? (l := [9, 33, 9]) (by simpa using ht)
      have hall : ∀ t ∈ ([9, 33, 9] : List TypeId), Tryd.prog.wantsStandIn t = false := by
        intro t ht
        simp only [List.mem_cons, List.not_mem_nil, or_false] at ht
        rcases ht with rfl | rfl | rfl <;> kernel_rfl
      exact hall t hm)
    (by kernel_rfl)
#print axioms namesTried_holds
end Go.Proofs.YtmbdiimenmnfjaaDoor
