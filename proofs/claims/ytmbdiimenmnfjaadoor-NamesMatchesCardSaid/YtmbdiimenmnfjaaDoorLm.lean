/- The upper case: plain facts. -/
import Derived.Test.YtmbdiimenmnfjaaDoorGa
import Derived.Test.YtmbdiimenmnfjaaDoorGd
import Derived.Test.YtmbdiimenmnfjaaDoorGb
import Derived.Test.YtmbdiimenmnfjaaDoorGc
import Derived.Test.YtmbdiimenmnfjaaDoorPNamesNamesx48
import Derived.Test.YtmbdiimenmnfjaaDoorPNamesNamesx41
import Derived.Test.YtmbdiimenmnfjaaDoorPNamesNamesx50
import Derived.Test.YtmbdiimenmnfjaaDoorPNamesNamesx57
import Derived.Laws.OwnMore
import Derived.StillTailTactics
import Derived.Test.YtmbdiimenmnfjaaDoorGf
import Derived.Test.YtmbdiimenmnfjaaDoorTie
import Derived.Test.YtmbdiimenmnfjaaDoorCards
import Derived.Deep.DeepHandedRow
import Derived.Deep.DeepWitnessRowRef
import Derived.ProofKit
import Derived.SizedLaws
import Derived.Lib.LaidTab
import Derived.Lib.LaidIn
import Derived.Carry
import Derived.Stop.LaidErr
import Derived.SliceStrings
namespace Go.Proofs.YtmbdiimenmnfjaaDoor
open Go.RowKit
set_option linter.unusedVariables false
set_option maxRecDepth 100000

theorem upL_big (u : Int) (h : 1153 < u) : ∀ l, (∀ r ∈ l, r ∈ rowsL) → upL u l = u
  | [], _ => rfl
  | r :: rs, hr => by
    simp only [upL]
    rw [if_neg, upL_big u h rs fun x hx => hr x (List.mem_cons_of_mem _ hx)]
    intro hh
    have hm := hr r (List.mem_cons_self ..)
    simp only [rowsL, List.mem_cons, List.not_mem_nil, or_false] at hm
    unfold hitR at hh
    rcases hm with rfl | rfl | rfl | rfl | rfl | rfl | rfl | rfl | rfl | rfl | rfl | rfl | rfl <;> simp only at hh <;> omega
theorem upM_big (u : Int) (h : 1153 < u) : upM u = u := upL_big u h rowsL fun r hr => hr
theorem up_small : ∀ n : Nat, n < 1154 → upM (upM (n : Int)) = upM (n : Int) := by decide +kernel
theorem upM_idem (u : Int) (h0 : 0 ≤ u) : upM (upM u) = upM u := by
  rcases Int.lt_or_le 1153 u with h | h
  · rw [upM_big u h, upM_big u h]
  · obtain ⟨n, rfl⟩ : ∃ n : Nat, u = n := ⟨u.toNat, by omega⟩
    exact up_small n (by omega)
theorem map_up_idem {l : List Int} (h : U16 l) : (l.map upM).map upM = l.map upM := by
  rw [List.map_map]
  exact List.map_congr_left fun u hu => upM_idem u (h u hu).1
end Go.Proofs.YtmbdiimenmnfjaaDoor
/- What several laws share. -/
namespace Go.Proofs.YtmbdiimenmnfjaaDoor
open Go.RowKit Go.Deep
set_option linter.unusedVariables false

/-- Key, whatever the string. -/
theorem key_gen (s : ByteArray) (hs : s.size ≤ 40000) (w : World) : Calls Tryd.prog 17 #[.string s] w fun e w' => ∃ v, e = .returned (.tuple #[v, .int .i64 (checkM s)]) ∧ Below w.heap.size w w' := by
  by_cases hc : checkM s = 0
  · obtain ⟨r, hg, -⟩ := check_units hc
    rw [hc]
    exact (key_ok s hs w hc r hg).mono fun e w' ⟨v, he, _, hB⟩ => ⟨v, he, hB⟩
  · exact (key_no s hs w hc).mono fun e w' ⟨he, hB⟩ => ⟨_, he, hB⟩
theorem key_rd (s : ByteArray) (hs : s.size ≤ 40000) (w : World) (hc : checkM s = 0) (r : List Int) (hg : getU s = some r) :
    Calls Tryd.prog 17 #[.string s] w fun e w' => ∃ A c, e = .returned (.tuple #[.slice A (keyM r).length c, .int .i64 0]) ∧ Rd w' .u8 A (keyM r).length (keyM r) ∧ Below w.heap.size w w' :=
  (key_ok s hs w hc r hg).mono fun e w' ⟨v, he, hO, hB⟩ => by
    obtain ⟨A, c, rfl, hc', hRd, -⟩ := own_nums hO (by
      obtain ⟨r', hg', h1, h2, -⟩ := check_units hc
      rw [hg] at hg'; cases hg'
      rw [show keyM r = keyB (r.map upM ++ [0] ++ r) from rfl, keyB_len]
      simp; omega)
    exact ⟨A, c, he, hRd, hB⟩

theorem sameM_symm (a b : ByteArray) : sameM b a = sameM a b := by
  rw [Bool.eq_iff_iff, sameM_iff, sameM_iff]
  constructor
  · rintro (h | ⟨x, y, h1, h2, h3⟩)
    · exact Or.inl h.symm
    · exact Or.inr ⟨y, x, h2, h1, h3.symm⟩
  · rintro (h | ⟨x, y, h1, h2, h3⟩)
    · exact Or.inl h.symm
    · exact Or.inr ⟨y, x, h2, h1, h3.symm⟩
theorem sameM_trans {a b c : ByteArray} (h1 : sameM a b = true) (h2 : sameM b c = true) : sameM a c = true := by
  rcases (sameM_iff a b).1 h1 with rfl | ⟨x, y, ha, hb, hxy⟩
  · exact h2
  · rcases (sameM_iff b c).1 h2 with rfl | ⟨y', z, hb', hc, hyz⟩
    · exact h1
    · rw [hb] at hb'
      cases hb'
      exact (sameM_iff a c).2 (Or.inr ⟨x, z, ha, hc, hxy.trans hyz⟩)
theorem units_rd (s : ByteArray) (hs : s.size ≤ 100000) (w : World) (r : List Int) (h : getU s = some r) :
    Calls Tryd.prog 33 #[.string s] w fun e w' => (∃ A c, e = .returned (.tuple #[.slice A r.length c, .int .i64 0])) ∧ Below w.heap.size w w' :=
  (units_ok s hs w r h).mono fun e w' ⟨v, he, hO, hB⟩ => by
    obtain ⟨A, c, rfl, hc⟩ := own_is_slice hO
    exact ⟨⟨A, c, he⟩, hB⟩
theorem getU_up {s : ByteArray} {r : List Int} (h : getU s = some r) : getU (upS r) = some (r.map upM) := by
  have hp := getU_props h
  exact getU_text hp.1.map_up (by rw [List.length_map]; exact hp.2.2)
theorem upS_size (r : List Int) : (upS r).size ≤ 4 * r.length := by
  unfold upS
  rw [mkB_size]
  have := textM_len (r.map upM)
  rwa [List.length_map] at this

end Go.Proofs.YtmbdiimenmnfjaaDoor
/- Bytes of parts and of sums. -/
namespace Go.Proofs.YtmbdiimenmnfjaaDoor
open Go.RowKit Go.Deep
set_option linter.unusedVariables false

theorem bts_take (s : ByteArray) (n : Nat) : bts (s.extract 0 n) = (bts s).take n := by
  unfold bts
  rw [ByteArray.data_extract, Array.toList_extract, List.extract_eq_take_drop, List.drop_zero, Nat.sub_zero, List.map_take]
theorem bts_append (x y : ByteArray) : bts (x ++ y) = bts x ++ bts y := by
  unfold bts
  rw [ByteArray.data_append, Array.toList_append, List.map_append]
theorem bts_at {s : ByteArray} {k : Nat} {c : UInt8} (h : s.data.toList[k]? = some c) : (bts s)[k]? = some (c.toNat : Int) := by
  unfold bts
  rw [List.getElem?_map, h]; rfl
end Go.Proofs.YtmbdiimenmnfjaaDoor
/- The document's Units: what was printed of it is the model. -/
namespace Go.Proofs.YtmbdiimenmnfjaaDoor
open Go.RowKit Go.Deep
open Go.Proofs.YtmbdiimenmnfjaaDoor.PNamesNames
open Go.Proofs.YtmbdiimenmnfjaaDoorW.PrintWords (rd bt Drawn0 Kd)
set_option linter.unusedVariables false
set_option linter.unusedSimpArgs false

theorem w64 (x : Int) (h0 : -4611686018427387904 ≤ x) (h1 : x ≤ 4611686018427387904) : wrap64 x = x := by unfold wrap64; omega
theorem bt_bts (s : ByteArray) (i : Nat) (h : i < s.size) : bt s (i : Int) = (bts s).getD i 0 := by
  rw [bts_get s i h]
  unfold bt
  rw [dif_pos (by simpa using h)]
  rfl
/-- A byte that goes on, as a number; -1 if it is none. -/
def contV (s : List Int) (i : Nat) : Int := match contM s i with
  | some x => x
  | none => -1
theorem contV_bd (s : List Int) (i : Nat) : -1 ≤ contV s i ∧ contV s i ≤ 63 := by
  unfold contV
  cases h : contM s i with
  | none => simp
  | some x => have := contM_bd h; simp only; omega
theorem more_f (s : ByteArray) (i : Nat) (hi : i ≤ 1000000000) : archivoltref05_more.f s (i : Int) = some (contV (bts s) i) := by
  unfold archivoltref05_more.f contV contM
  by_cases h : i < s.size
  · have hb := bts_bd s i
    rw [if_neg (by omega), if_pos (by omega), if_pos (by omega), bt_bts s i h, bts_len]
    by_cases h1 : (bts s).getD i 0 < 128
    · rw [if_pos h1, if_neg (by omega)]
    · rw [if_neg h1]
      by_cases h2 : (bts s).getD i 0 ≥ 192
      · rw [if_pos h2, if_neg (by omega)]
      · rw [if_neg h2, if_pos (by omega), w64 ((bts s).getD i 0) (by omega) (by omega), w64 _ (by omega) (by omega)]
  · rw [if_pos (by omega), if_neg (by rw [bts_len]; omega)]
/-- The code point as numbers. -/
def pointR (b x y z : Int) : Int × Int :=
  if 194 ≤ b ∧ b < 224 ∧ 0 ≤ x then ((b - 192) * 64 + x, 2)
  else if 224 ≤ b ∧ b < 240 ∧ 0 ≤ x ∧ 0 ≤ y ∧ 2048 ≤ (b - 224) * 4096 + x * 64 + y then ((b - 224) * 4096 + x * 64 + y, 3)
  else if 240 ≤ b ∧ b < 248 ∧ 0 ≤ x ∧ 0 ≤ y ∧ 0 ≤ z ∧ 65536 ≤ (b - 240) * 262144 + x * 4096 + y * 64 + z ∧ (b - 240) * 262144 + x * 4096 + y * 64 + z ≤ 1114111 then ((b - 240) * 262144 + x * 4096 + y * 64 + z, 4)
  else (0, 0)
theorem j2_f (k : Nat) (b x y z : Int) (q : Bool) (hb : 0 ≤ b ∧ b ≤ 255) (hx : -1 ≤ x ∧ x ≤ 63) (hy : -1 ≤ y ∧ y ≤ 63) (hz : -1 ≤ z ∧ z ≤ 63) :
    archivoltref05_first.j2 (k + 1) b x y z q = some (if q = true ∧ 65536 ≤ (b - 240) * 262144 + x * 4096 + y * 64 + z ∧ (b - 240) * 262144 + x * 4096 + y * 64 + z ≤ 1114111 then ((b - 240) * 262144 + x * 4096 + y * 64 + z, 4) else (0, 0)) := by
  have e : wrap64 ((wrap64 ((wrap64 ((wrap64 ((wrap64 (b - 240)) * 262144)) + (wrap64 (x * 4096)))) + (wrap64 (y * 64)))) + z) = (b - 240) * 262144 + x * 4096 + y * 64 + z := by
    rw [w64 (b - 240) (by omega) (by omega), w64 ((b - 240) * 262144) (by omega) (by omega), w64 (x * 4096) (by omega) (by omega), w64 ((b - 240) * 262144 + x * 4096) (by omega) (by omega), w64 (y * 64) (by omega) (by omega), w64 ((b - 240) * 262144 + x * 4096 + y * 64) (by omega) (by omega), w64 _ (by omega) (by omega)]
  rw [archivoltref05_first.j2]
  rw [e]
  cases q with
  | false => simp
  | true =>
    by_cases h1 : (b - 240) * 262144 + x * 4096 + y * 64 + z ≥ 65536
    · by_cases h2 : (b - 240) * 262144 + x * 4096 + y * 64 + z ≤ 1114111
      · rw [if_pos rfl, if_pos h1, if_pos h2, if_pos ⟨rfl, h1, h2⟩]
      · rw [if_pos rfl, if_pos h1, if_neg h2, if_neg (fun h => h2 h.2.2)]
    · rw [if_pos rfl, if_neg h1, if_neg (fun h => h1 h.2.1)]
theorem j1_f (k : Nat) (b x y z : Int) (q : Bool) (hb : 0 ≤ b ∧ b ≤ 255) (hx : -1 ≤ x ∧ x ≤ 63) (hy : -1 ≤ y ∧ y ≤ 63) (hz : -1 ≤ z ∧ z ≤ 63) :
    archivoltref05_first.j1 (k + 2) b x y z q = some (if q = true then (if 2048 ≤ (b - 224) * 4096 + x * 64 + y then ((b - 224) * 4096 + x * 64 + y, 3) else (0, 0)) else if 240 ≤ b ∧ b < 248 ∧ 0 ≤ x ∧ 0 ≤ y ∧ 0 ≤ z ∧ 65536 ≤ (b - 240) * 262144 + x * 4096 + y * 64 + z ∧ (b - 240) * 262144 + x * 4096 + y * 64 + z ≤ 1114111 then ((b - 240) * 262144 + x * 4096 + y * 64 + z, 4) else (0, 0)) := by
  have e : wrap64 ((wrap64 ((wrap64 ((wrap64 (b - 224)) * 4096)) + (wrap64 (x * 64)))) + y) = (b - 224) * 4096 + x * 64 + y := by
    rw [w64 (b - 224) (by omega) (by omega), w64 ((b - 224) * 4096) (by omega) (by omega), w64 (x * 64) (by omega) (by omega), w64 ((b - 224) * 4096 + x * 64) (by omega) (by omega), w64 _ (by omega) (by omega)]
  rw [archivoltref05_first.j1]
  rw [e]
  cases q with
  | true =>
    rw [if_pos rfl, if_pos rfl]
    by_cases h : (b - 224) * 4096 + x * 64 + y ≥ 2048
    · rw [if_pos h, if_pos h]
    · rw [if_neg h, if_neg h]
  | false =>
    have hf : ¬ (false = true) := by decide
    rw [if_neg hf, if_neg hf]
    have hj := fun q => j2_f k b x y z q hb hx hy hz
    simp only [hj]
    by_cases h1 : b ≥ 240
    · by_cases h2 : b < 248
      · by_cases h3 : x ≥ 0
        · by_cases h4 : y ≥ 0
          · rw [if_pos h1, if_pos h2, if_pos h3, if_pos h4]
            by_cases h5 : z ≥ 0
            · rw [decide_eq_true h5]
              congr 1
              by_cases h6 : 65536 ≤ (b - 240) * 262144 + x * 4096 + y * 64 + z ∧ (b - 240) * 262144 + x * 4096 + y * 64 + z ≤ 1114111
              · rw [if_pos ⟨rfl, h6⟩, if_pos ⟨h1, h2, h3, h4, h5, h6⟩]
              · rw [if_neg (fun h => h6 h.2), if_neg (fun h => h6 h.2.2.2.2.2)]
            · rw [decide_eq_false h5, if_neg (fun h => hf h.1), if_neg (fun h => h5 h.2.2.2.2.1)]
          · rw [if_pos h1, if_pos h2, if_pos h3, if_neg h4, if_neg (fun h => hf h.1), if_neg (fun h => h4 h.2.2.2.1)]
        · rw [if_pos h1, if_pos h2, if_neg h3, if_neg (fun h => hf h.1), if_neg (fun h => h3 h.2.2.1)]
      · rw [if_pos h1, if_neg h2, if_neg (fun h => hf h.1), if_neg (fun h => h2 h.2.1)]
    · rw [if_neg h1, if_neg (fun h => hf h.1), if_neg (fun h => h1 h.1)]
theorem j0_f (k : Nat) (b x y z : Int) (q : Bool) (hb : 0 ≤ b ∧ b ≤ 255) (hx : -1 ≤ x ∧ x ≤ 63) (hy : -1 ≤ y ∧ y ≤ 63) (hz : -1 ≤ z ∧ z ≤ 63) (hq : q = decide (194 ≤ b ∧ b < 224 ∧ 0 ≤ x)) :
    archivoltref05_first.j0 (k + 3) b x y z q = some (pointR b x y z) := by
  rw [archivoltref05_first.j0]
  have hf : ¬ (false = true) := by decide
  have hj := fun q => j1_f k b x y z q hb hx hy hz
  cases q with
  | true =>
    have h := of_decide_eq_true hq.symm
    rw [if_pos rfl, w64 (b - 192) (by omega) (by omega), w64 ((b - 192) * 64) (by omega) (by omega), w64 _ (by omega) (by omega)]
    unfold pointR
    rw [if_pos h]
  | false =>
    have h := of_decide_eq_false hq.symm
    rw [if_neg hf]
    simp only [hj]
    unfold pointR
    rw [if_neg h]
    by_cases h1 : b ≥ 224
    · by_cases h2 : b < 240
      · have h240 : ¬ (240 ≤ b ∧ b < 248 ∧ 0 ≤ x ∧ 0 ≤ y ∧ 0 ≤ z ∧ 65536 ≤ (b - 240) * 262144 + x * 4096 + y * 64 + z ∧ (b - 240) * 262144 + x * 4096 + y * 64 + z ≤ 1114111) := fun h => by omega
        by_cases h3 : x ≥ 0
        · rw [if_pos h1, if_pos h2, if_pos h3]
          by_cases h4 : y ≥ 0
          · rw [decide_eq_true h4, if_pos rfl]
            congr 1
            by_cases h5 : 2048 ≤ (b - 224) * 4096 + x * 64 + y
            · rw [if_pos h5, if_pos ⟨h1, h2, h3, h4, h5⟩]
            · rw [if_neg h5, if_neg (fun h => h5 h.2.2.2.2), if_neg h240]
          · rw [decide_eq_false h4, if_neg hf, if_neg h240, if_neg (fun h => h4 h.2.2.2.1)]
        · rw [if_pos h1, if_pos h2, if_neg h3, if_neg hf, if_neg h240, if_neg (fun h => h3 h.2.2.1)]
      · rw [if_pos h1, if_neg h2, if_neg hf, if_neg (fun h : 224 ≤ b ∧ b < 240 ∧ 0 ≤ x ∧ 0 ≤ y ∧ 2048 ≤ (b - 224) * 4096 + x * 64 + y => h2 h.2.1)]
    · rw [if_neg h1, if_neg hf, if_neg (fun h : 224 ≤ b ∧ b < 240 ∧ 0 ≤ x ∧ 0 ≤ y ∧ 2048 ≤ (b - 224) * 4096 + x * 64 + y => h1 h.1)]
theorem contM_drop (s : List Int) (i j : Nat) (hi : i ≤ s.length) : contM (s.drop i) j = contM s (i + j) := by
  unfold contM
  have e : (s.drop i).getD j 0 = s.getD (i + j) 0 := by simp [List.getD_eq_getElem?_getD]
  rw [e, List.length_drop]
  by_cases h : j < s.length - i
  · have h' : i + j < s.length := by omega
    simp only [h, h', true_and]
  · have h' : ¬ i + j < s.length := by omega
    simp only [h, h', false_and, if_false]
theorem contV_nonneg {s : List Int} {i : Nat} (h : 0 ≤ contV s i) : contM s i = some (contV s i) := by
  unfold contV at h ⊢
  cases hx : contM s i with
  | none => rw [hx] at h; simp at h
  | some x => rfl
theorem contV_neg {s : List Int} {i : Nat} (h : ¬ 0 ≤ contV s i) : contM s i = none := by
  unfold contV at h
  cases hx : contM s i with
  | none => rfl
  | some x => rw [hx] at h; have := contM_bd hx; simp only at h; omega
/-- What is said of a code point. -/
def pairP : Option (Int × Nat) → Int × Int
  | some (c, n) => (c, n)
  | none => (0, 0)
theorem goM_1 (s : List Int) (c : Int) : goM s 1 1 c = if 0 ≤ contV s 1 then some (c * 64 + contV s 1) else none := by
  unfold goM
  by_cases h : 0 ≤ contV s 1
  · rw [contV_nonneg h, if_pos h]; rfl
  · rw [contV_neg h, if_neg h]
theorem goM_2 (s : List Int) (c : Int) : goM s 2 1 c = if 0 ≤ contV s 1 ∧ 0 ≤ contV s 2 then some ((c * 64 + contV s 1) * 64 + contV s 2) else none := by
  unfold goM
  by_cases h : 0 ≤ contV s 1
  · rw [contV_nonneg h]
    simp only
    unfold goM
    by_cases h2 : 0 ≤ contV s 2
    · rw [contV_nonneg h2, if_pos ⟨h, h2⟩]; rfl
    · rw [contV_neg h2, if_neg (fun q => h2 q.2)]
  · rw [contV_neg h, if_neg (fun q => h q.1)]
theorem goM_3 (s : List Int) (c : Int) : goM s 3 1 c = if 0 ≤ contV s 1 ∧ 0 ≤ contV s 2 ∧ 0 ≤ contV s 3 then some (((c * 64 + contV s 1) * 64 + contV s 2) * 64 + contV s 3) else none := by
  unfold goM
  by_cases h : 0 ≤ contV s 1
  · rw [contV_nonneg h]
    simp only
    unfold goM
    by_cases h2 : 0 ≤ contV s 2
    · rw [contV_nonneg h2]
      simp only
      unfold goM
      by_cases h3 : 0 ≤ contV s 3
      · rw [contV_nonneg h3, if_pos ⟨h, h2, h3⟩]; rfl
      · rw [contV_neg h3, if_neg (fun q => h3 q.2.2)]
    · rw [contV_neg h2, if_neg (fun q => h2 q.2.1)]
  · rw [contV_neg h, if_neg (fun q => h q.1)]
theorem point_R (s : List Int) (h0 : 128 ≤ s.getD 0 0) : pairP (pointM s) = pointR (s.getD 0 0) (contV s 1) (contV s 2) (contV s 3) := by
  obtain ⟨b, hb⟩ : ∃ b, s.getD 0 0 = b := ⟨_, rfl⟩
  obtain ⟨x, hx⟩ : ∃ x, contV s 1 = x := ⟨_, rfl⟩
  obtain ⟨y, hy⟩ : ∃ y, contV s 2 = y := ⟨_, rfl⟩
  obtain ⟨z, hz⟩ : ∃ z, contV s 3 = z := ⟨_, rfl⟩
  have bx := contV_bd s 1
  have by_ := contV_bd s 2
  have bz := contV_bd s 3
  unfold pointM pointC
  simp only [Nat.reduceSub]
  rw [goM_1, goM_2, goM_3]
  rw [hb] at h0 ⊢
  rw [hx] at bx ⊢
  rw [hy] at by_ ⊢
  rw [hz] at bz ⊢
  clear hb hx hy hz
  rw [if_neg (by omega)]
  unfold pointR
  by_cases q1 : 192 ≤ b ∧ b < 224
  · rw [if_pos q1]
    by_cases q2 : 0 ≤ x
    · rw [if_pos q2]
      simp only [pickP]
      by_cases q3 : 194 ≤ b
      · rw [if_neg (by omega), if_pos ⟨q3, q1.2, q2⟩]; rfl
      · rw [if_pos (by omega), if_neg (fun h => q3 h.1), if_neg (fun h => by omega), if_neg (fun h => by omega)]; rfl
    · rw [if_neg q2, if_neg (fun h => q2 h.2.2), if_neg (fun h => by omega), if_neg (fun h => by omega)]; rfl
  · rw [if_neg q1, if_neg (show ¬ (194 ≤ b ∧ b < 224 ∧ 0 ≤ x) from fun h => q1 ⟨by omega, h.2.1⟩)]
    by_cases q2 : 224 ≤ b ∧ b < 240
    · rw [if_pos q2]
      by_cases q3 : 0 ≤ x ∧ 0 ≤ y
      · rw [if_pos q3]
        simp only [pickP]
        have e : ((b - 224) * 64 + x) * 64 + y = (b - 224) * 4096 + x * 64 + y := by omega
        rw [e]
        by_cases q4 : 2048 ≤ (b - 224) * 4096 + x * 64 + y
        · rw [if_neg (by omega), if_pos ⟨q2.1, q2.2, q3.1, q3.2, q4⟩]; rfl
        · rw [if_pos (by omega), if_neg (fun h => q4 h.2.2.2.2), if_neg (fun h => by omega)]; rfl
      · rw [if_neg q3, if_neg (fun h => q3 ⟨h.2.2.1, h.2.2.2.1⟩), if_neg (fun h => by omega)]; rfl
    · rw [if_neg q2, if_neg (show ¬ (224 ≤ b ∧ b < 240 ∧ 0 ≤ x ∧ 0 ≤ y ∧ 2048 ≤ (b - 224) * 4096 + x * 64 + y) from fun h => q2 ⟨h.1, h.2.1⟩)]
      by_cases q3 : 240 ≤ b ∧ b < 248
      · rw [if_pos q3]
        by_cases q4 : 0 ≤ x ∧ 0 ≤ y ∧ 0 ≤ z
        · rw [if_pos q4]
          simp only [pickP]
          have e : (((b - 240) * 64 + x) * 64 + y) * 64 + z = (b - 240) * 262144 + x * 4096 + y * 64 + z := by omega
          rw [e]
          by_cases q5 : 65536 ≤ (b - 240) * 262144 + x * 4096 + y * 64 + z ∧ (b - 240) * 262144 + x * 4096 + y * 64 + z ≤ 1114111
          · rw [if_neg (by omega), if_pos ⟨q3.1, q3.2, q4.1, q4.2.1, q4.2.2, q5⟩]; rfl
          · rw [if_pos (by omega), if_neg (fun h => q5 h.2.2.2.2.2)]; rfl
        · rw [if_neg q4, if_neg (fun h => q4 ⟨h.2.2.1, h.2.2.2.1, h.2.2.2.2.1⟩)]; rfl
      · rw [if_neg q3, if_neg (fun h => q3 ⟨h.1, h.2.1⟩)]; rfl
theorem first_f (s : ByteArray) (i k : Nat) (hs : s.size ≤ 1000000) (hi : i < s.size) : archivoltref05_first.f (k + 3) s (i : Int) = some (pairP (pointM ((bts s).drop i))) := by
  have hb := bts_bd s i
  have hl : i < (bts s).length := by rw [bts_len]; exact hi
  have e0 : ((bts s).drop i).getD 0 0 = (bts s).getD i 0 := by simp [List.getD_eq_getElem?_getD]
  have ec : ∀ j, contV ((bts s).drop i) j = contV (bts s) (i + j) := fun j => by unfold contV; rw [contM_drop _ _ _ (by omega)]
  unfold archivoltref05_first.f
  rw [if_pos (by omega), if_pos (by omega), bt_bts s i hi, w64 _ (by omega) (by omega)]
  by_cases h : (bts s).getD i 0 < 128
  · rw [if_pos h]
    have : pointM ((bts s).drop i) = some ((bts s).getD i 0, 1) := by unfold pointM; rw [e0, if_pos h]
    rw [this]; rfl
  · rw [if_neg h, point_R _ (by rw [e0]; omega), e0, ec, ec, ec]
    have w1 : wrap64 ((i : Int) + 1) = ((i + 1 : Nat) : Int) := by rw [w64 _ (by omega) (by omega)]; rfl
    have w2 : wrap64 ((i : Int) + 2) = ((i + 2 : Nat) : Int) := by rw [w64 _ (by omega) (by omega)]; rfl
    have w3 : wrap64 ((i : Int) + 3) = ((i + 3 : Nat) : Int) := by rw [w64 _ (by omega) (by omega)]; rfl
    rw [w1, w2, w3, more_f s (i + 1) (by omega), more_f s (i + 2) (by omega), more_f s (i + 3) (by omega)]
    simp only [Option.bind_some]
    obtain ⟨b, hbb⟩ : ∃ b, (bts s).getD i 0 = b := ⟨_, rfl⟩
    rw [hbb] at hb h ⊢
    have hj := fun q hq => j0_f k b (contV (bts s) (i + 1)) (contV (bts s) (i + 2)) (contV (bts s) (i + 3)) q hb (contV_bd _ _) (contV_bd _ _) (contV_bd _ _) hq
    by_cases q1 : b ≥ 194
    · by_cases q2 : b < 224
      · rw [if_pos q1, if_pos q2]
        exact hj _ (by rw [decide_eq_decide]; exact ⟨fun h => ⟨q1, q2, h⟩, fun h => h.2.2⟩)
      · rw [if_pos q1, if_neg q2]
        exact hj _ (by rw [decide_eq_false]; exact fun h => q2 h.2.1)
    · rw [if_neg q1]
      exact hj _ (by rw [decide_eq_false]; exact fun h => q1 h.1)
/-- What the units of bytes come to. -/
def finU (acc : List Int) : Option (List Int) → List Int × Int
  | none => ([], 4)
  | some r => if (acc ++ r).length > 4096 then ([], 4) else (acc ++ r, 0)
theorem units_l (s : ByteArray) (hs : s.size ≤ 1000000) : ∀ (f K i : Nat) (acc : List Int) (last : Int), i ≤ s.size → s.size - i < f → 2 * f + 5 ≤ K → acc.length ≤ 2 * i →
    archivoltref05_Units.l0 K s acc last (i : Int) = some (finU acc (unitsF f ((bts s).drop i) last))
  | 0, K, i, acc, last, h1, h2, h3, h4 => by omega
  | f + 1, K, i, acc, last, h1, h2, h3, h4 => by
    obtain ⟨K, rfl⟩ : ∃ k, K = k + 2 := ⟨K - 2, by omega⟩
    rw [archivoltref05_Units.l0]
    unfold unitsF
    have hbl := bts_len s
    by_cases hi : i < s.size
    · have hne : ¬ (bts s).drop i = [] := fun e => by have := congrArg List.length e; rw [List.length_drop] at this; simp at this; omega
      obtain ⟨k3, rfl⟩ : ∃ k, K = k + 2 := ⟨K - 2, by omega⟩
      rw [if_pos (by omega), if_neg hne, show k3 + 2 + 1 = k3 + 3 from rfl, first_f s i k3 hs hi]
      cases hp : pointM ((bts s).drop i) with
      | none =>
        simp only [pairP, Option.bind_some, stepU, if_true, finU]
        rw [archivoltref05_Units.j1]
        rfl
      | some cn =>
        obtain ⟨c, n⟩ := cn
        have hb := pointM_bd hne (getD_nonneg (fun x hx => bts_range s x (mem_drop' hx)) 0) hp
        rw [List.length_drop, hbl] at hb
        simp only [pairP, Option.bind_some, stepU]
        rw [if_neg (by omega)]
        have ehi : archivoltref05_high.f last = some (decide (55296 ≤ last ∧ last < 56320)) := by
          unfold archivoltref05_high.f
          by_cases h : last ≥ 55296
          · rw [if_pos h]; congr 1; rw [decide_eq_decide]; omega
          · rw [if_neg h]; congr 1; symm; rw [decide_eq_false]; omega
        have elo : archivoltref05_low.f c = some (decide (56320 ≤ c ∧ c < 57344)) := by
          unfold archivoltref05_low.f
          by_cases h : c ≥ 56320
          · rw [if_pos h]; congr 1; rw [decide_eq_decide]; omega
          · rw [if_neg h]; congr 1; symm; rw [decide_eq_false]; omega
        have hj : ∀ q : Bool, q = decide (55296 ≤ last ∧ last < 56320 ∧ 56320 ≤ c ∧ c < 57344) → archivoltref05_Units.j1 (k3 + 3) s acc (i : Int) q c (n : Int) =
            some (finU acc (if 55296 ≤ last ∧ last < 56320 ∧ 56320 ≤ c ∧ c < 57344 then none else (unitsF f (((bts s).drop i).drop n) c).map (encU c ++ ·))) := by
          intro q hq
          rw [archivoltref05_Units.j1]
          cases q with
          | true =>
            rw [if_pos rfl, if_pos (of_decide_eq_true hq.symm)]; rfl
          | false =>
            rw [if_neg (by decide), if_neg (of_decide_eq_false hq.symm), List.drop_drop]
            have ew : wrap64 ((i : Int) + n) = ((i + n : Nat) : Int) := by rw [w64 _ (by omega) (by omega)]; rfl
            have hfin : ∀ o : Option (List Int), finU acc (o.map (encU c ++ ·)) = finU (acc ++ encU c) o := fun o => by
              cases o with
              | none => rfl
              | some r => simp only [Option.map_some, finU, List.append_assoc]
            rw [hfin, ew]
            by_cases hc : c < 65536
            · rw [if_pos hc, if_pos (by omega)]
              have e1 : IntKind.u16.wrap c = c := by simp [IntKind.wrap, IntKind.bits, IntKind.signed]; omega
              rw [e1, units_l s hs f (k3 + 2) (i + n) (acc ++ [c]) c (by omega) (by omega) (by omega) (by simp; omega), encU_1 hc]
            · rw [if_neg hc]
              simp only [Option.bind_some, List.length_cons, List.length_nil]
              rw [if_pos (by omega)]
              have t1 : Int.tdiv (wrap64 (c - 65536)) 1024 = (c - 65536) / 1024 := by rw [w64 _ (by omega) (by omega), Int.tdiv_eq_ediv_of_nonneg (by omega)]
              have t2 : Int.tmod (wrap64 (c - 65536)) 1024 = (c - 65536) % 1024 := by rw [w64 _ (by omega) (by omega), Int.tmod_eq_emod_of_nonneg (by omega)]
              rw [t1, t2, w64 ((c - 65536) / 1024) (by omega) (by omega), w64 (55296 + (c - 65536) / 1024) (by omega) (by omega), w64 (56320 + (c - 65536) % 1024) (by omega) (by omega)]
              have e1 : IntKind.u16.wrap (55296 + (c - 65536) / 1024) = 55296 + (c - 65536) / 1024 := by simp [IntKind.wrap, IntKind.bits, IntKind.signed]; omega
              have e2 : IntKind.u16.wrap (56320 + (c - 65536) % 1024) = 56320 + (c - 65536) % 1024 := by simp [IntKind.wrap, IntKind.bits, IntKind.signed]; omega
              rw [e1, e2, ← encU_2 (show 65536 ≤ c by omega), units_l s hs f (k3 + 2) (i + n) (acc ++ encU c) c (by omega) (by omega) (by omega) (by have := encU_len c; rw [List.length_append]; omega)]
        rw [ehi, elo]
        simp only [Option.bind_some]
        by_cases hh : 55296 ≤ last ∧ last < 56320
        · rw [decide_eq_true hh, if_pos rfl]
          exact hj _ (by rw [decide_eq_decide]; exact ⟨fun h => ⟨hh.1, hh.2, h⟩, fun h => h.2.2⟩)
        · rw [decide_eq_false hh, if_neg (by decide)]
          exact hj _ (by symm; rw [decide_eq_false]; exact fun h => hh ⟨h.1, h.2.1⟩)
    · have hnil : (bts s).drop i = [] := List.drop_eq_nil_of_le (by omega)
      rw [if_neg (by omega), hnil, if_pos rfl]
      simp only [finU, List.append_nil]
      by_cases h : acc.length > 4096
      · rw [if_pos (by omega), if_pos h]
      · rw [if_neg (by omega), if_neg h]
/-- What the document's 'Units' says. -/
def refU (s : ByteArray) : List Int × Int := match getU s with
  | some r => (r, 0)
  | none => ([], 4)
theorem units_f (s : ByteArray) (hs : s.size ≤ 1000000) (K : Nat) (hK : 2 * s.size + 20 ≤ K) : archivoltref05_Units.f K s = some (refU s) := by
  unfold archivoltref05_Units.f
  have h := units_l s hs (s.size + 1) K 0 [] 0 (by omega) (by omega) (by omega) (by simp)
  have h' : archivoltref05_Units.l0 K s [] 0 0 = some (finU [] (unitsM (bts s))) := by
    unfold unitsM
    rw [bts_len]
    exact h
  rw [h']
  congr 1
  unfold refU getU readM
  cases hu : unitsM (bts s) with
  | none => rfl
  | some l =>
    simp only [finU, List.nil_append]
    by_cases q : l.length > 4096
    · rw [if_pos q]
      have : decide (l.length ≤ 4096) = false := by simp; omega
      rw [this]
    · rw [if_neg q]
      have : decide (l.length ≤ 4096) = true := by simp; omega
      rw [this]

theorem rd_of_C {w : World} {k : IntKind} {A : Option Addr} {n : Nat} {xs : List Int} (h : (Kd.int k).C w A n xs) (hn : n ≤ 9223372036854775807) (hl : xs.length = n) : Rd w k A n xs := by
  refine ⟨hl, hn, fun j hj => ?_⟩
  obtain ⟨ad, hA, hc⟩ := Kd.at_int h (j : Int) (by omega) (by omega)
  refine ⟨ad, hA, ?_⟩
  simpa [rd] using hc
/-- The document's 'Units', whatever the string. -/
theorem runits_any (s : ByteArray) (hs : s.size ≤ 100000) (w : World) :
    Calls Tryd.prog 34 #[.string s] w fun e w' => (∃ A c, e = .returned (.agg #[.slice A (refU s).1.length c, .int .i64 (refU s).2]) ∧ (refU s).1.length ≤ c ∧ Rd w' .u16 A (refU s).1.length (refU s).1) ∧ Below w.heap.size w w' :=
  (archivoltref05_Units.calls _ s (refU s).1 (refU s).2 w (units_f s (by omega) _ (Nat.le_refl _))).mono fun e w' ⟨v, he, hR, hB⟩ => by
    obtain ⟨A, c, rfl, hc, hC⟩ := Kd.R_reads hR
    refine ⟨⟨A, c, he, hc, rd_of_C hC ?_ rfl⟩, hB⟩
    unfold refU
    cases hg : getU s with
    | none => simp
    | some r => have := (getU_props hg).2.2; simp only; omega
end Go.Proofs.YtmbdiimenmnfjaaDoor
/- Walk: the document's Up, one range of units after the other. -/
namespace Go.Proofs.YtmbdiimenmnfjaaDoor
open Go.RowKit Go.Deep
set_option linter.unusedVariables false
set_option linter.unusedSimpArgs false
set_option maxRecDepth 100000

theorem u16_in (x : Int) (h0 : 0 ≤ x) (h1 : x ≤ 65535) : IntKind.u16.wrap x = x := by simp [IntKind.wrap, IntKind.bits, IntKind.signed]; omega

theorem rup_0 (u : Int) (h0 : 0 ≤ u) (h1 : u ≤ 96) (w : World) : Calls Tryd.prog 36 #[.int .u16 u] w fun e w' => e = .returned (.int .u16 (upM u)) ∧ w' = w := by
  have hm : upM u = u := by
    unfold upM
    simp only [rowsL, upL]
    rw [if_neg (by simp only [hitR]; omega), if_neg (by simp only [hitR]; omega), if_neg (by simp only [hitR]; omega), if_neg (by simp only [hitR]; omega), if_neg (by simp only [hitR]; omega), if_neg (by simp only [hitR]; omega), if_neg (by simp only [hitR]; omega), if_neg (by simp only [hitR]; omega), if_neg (by simp only [hitR]; omega), if_neg (by simp only [hitR]; omega), if_neg (by simp only [hitR]; omega), if_neg (by simp only [hitR]; omega), if_neg (by simp only [hitR]; omega)]
  rw [hm]
  have g97 : ¬ 97 ≤ u := by omega
  have g224 : ¬ 224 ≤ u := by omega
  have g248 : ¬ 248 ≤ u := by omega
  have g945 : ¬ 945 ≤ u := by omega
  have g963 : ¬ 963 ≤ u := by omega
  have g1072 : ¬ 1072 ≤ u := by omega
  have g257 : ¬ 257 ≤ u := by omega
  have g331 : ¬ 331 ≤ u := by omega
  have g1121 : ¬ 1121 ≤ u := by omega
  have g314 : ¬ 314 ≤ u := by omega
  have g1104 : ¬ 1104 ≤ u := by omega
  have l122 : u ≤ 122 := by omega
  have l246 : u ≤ 246 := by omega
  have l254 : u ≤ 254 := by omega
  have l961 : u ≤ 961 := by omega
  have l969 : u ≤ 969 := by omega
  have l1103 : u ≤ 1103 := by omega
  have l311 : u ≤ 311 := by omega
  have l375 : u ≤ 375 := by omega
  have l1153 : u ≤ 1153 := by omega
  have l328 : u ≤ 328 := by omega
  have l1119 : u ≤ 1119 := by omega
  have e255 : ¬ u = 255 := by omega
  have e962 : ¬ u = 962 := by omega
  obtain ⟨q, hq⟩ : ∃ q : Bool, decide (u % 2 = 1) = q := ⟨_, rfl⟩
  clear h0 h1 hm
  go_enter Tryd.func36, Tryd.ntmps36
  go_wp2
  all_goals (go_ret; exact ⟨rfl, rfl⟩)

theorem rup_1 (u : Int) (h0 : 97 ≤ u) (h1 : u ≤ 122) (w : World) : Calls Tryd.prog 36 #[.int .u16 u] w fun e w' => e = .returned (.int .u16 (upM u)) ∧ w' = w := by
  have hm : upM u = u - 32 := by
    unfold upM
    simp only [rowsL, upL]
    rw [if_pos (by simp only [hitR]; omega)]
    rfl
  rw [hm]
  have g97 : 97 ≤ u := by omega
  have g224 : ¬ 224 ≤ u := by omega
  have g248 : ¬ 248 ≤ u := by omega
  have g945 : ¬ 945 ≤ u := by omega
  have g963 : ¬ 963 ≤ u := by omega
  have g1072 : ¬ 1072 ≤ u := by omega
  have g257 : ¬ 257 ≤ u := by omega
  have g331 : ¬ 331 ≤ u := by omega
  have g1121 : ¬ 1121 ≤ u := by omega
  have g314 : ¬ 314 ≤ u := by omega
  have g1104 : ¬ 1104 ≤ u := by omega
  have l122 : u ≤ 122 := by omega
  have l246 : u ≤ 246 := by omega
  have l254 : u ≤ 254 := by omega
  have l961 : u ≤ 961 := by omega
  have l969 : u ≤ 969 := by omega
  have l1103 : u ≤ 1103 := by omega
  have l311 : u ≤ 311 := by omega
  have l375 : u ≤ 375 := by omega
  have l1153 : u ≤ 1153 := by omega
  have l328 : u ≤ 328 := by omega
  have l1119 : u ≤ 1119 := by omega
  have e255 : ¬ u = 255 := by omega
  have e962 : ¬ u = 962 := by omega
  obtain ⟨q, hq⟩ : ∃ q : Bool, decide (u % 2 = 1) = q := ⟨_, rfl⟩
  have hw : IntKind.u16.wrap (u - 32) = u - 32 := u16_in _ (by omega) (by omega)
  clear h0 h1 hm
  go_enter Tryd.func36, Tryd.ntmps36
  go_wp2
  all_goals (go_ret; exact ⟨rfl, rfl⟩)

theorem rup_2 (u : Int) (h0 : 123 ≤ u) (h1 : u ≤ 223) (w : World) : Calls Tryd.prog 36 #[.int .u16 u] w fun e w' => e = .returned (.int .u16 (upM u)) ∧ w' = w := by
  have hm : upM u = u := by
    unfold upM
    simp only [rowsL, upL]
    rw [if_neg (by simp only [hitR]; omega), if_neg (by simp only [hitR]; omega), if_neg (by simp only [hitR]; omega), if_neg (by simp only [hitR]; omega), if_neg (by simp only [hitR]; omega), if_neg (by simp only [hitR]; omega), if_neg (by simp only [hitR]; omega), if_neg (by simp only [hitR]; omega), if_neg (by simp only [hitR]; omega), if_neg (by simp only [hitR]; omega), if_neg (by simp only [hitR]; omega), if_neg (by simp only [hitR]; omega), if_neg (by simp only [hitR]; omega)]
  rw [hm]
  have g97 : 97 ≤ u := by omega
  have g224 : ¬ 224 ≤ u := by omega
  have g248 : ¬ 248 ≤ u := by omega
  have g945 : ¬ 945 ≤ u := by omega
  have g963 : ¬ 963 ≤ u := by omega
  have g1072 : ¬ 1072 ≤ u := by omega
  have g257 : ¬ 257 ≤ u := by omega
  have g331 : ¬ 331 ≤ u := by omega
  have g1121 : ¬ 1121 ≤ u := by omega
  have g314 : ¬ 314 ≤ u := by omega
  have g1104 : ¬ 1104 ≤ u := by omega
  have l122 : ¬ u ≤ 122 := by omega
  have l246 : u ≤ 246 := by omega
  have l254 : u ≤ 254 := by omega
  have l961 : u ≤ 961 := by omega
  have l969 : u ≤ 969 := by omega
  have l1103 : u ≤ 1103 := by omega
  have l311 : u ≤ 311 := by omega
  have l375 : u ≤ 375 := by omega
  have l1153 : u ≤ 1153 := by omega
  have l328 : u ≤ 328 := by omega
  have l1119 : u ≤ 1119 := by omega
  have e255 : ¬ u = 255 := by omega
  have e962 : ¬ u = 962 := by omega
  obtain ⟨q, hq⟩ : ∃ q : Bool, decide (u % 2 = 1) = q := ⟨_, rfl⟩
  clear h0 h1 hm
  go_enter Tryd.func36, Tryd.ntmps36
  go_wp2
  all_goals (go_ret; exact ⟨rfl, rfl⟩)

theorem rup_3 (u : Int) (h0 : 224 ≤ u) (h1 : u ≤ 246) (w : World) : Calls Tryd.prog 36 #[.int .u16 u] w fun e w' => e = .returned (.int .u16 (upM u)) ∧ w' = w := by
  have hm : upM u = u - 32 := by
    unfold upM
    simp only [rowsL, upL]
    rw [if_neg (by simp only [hitR]; omega), if_pos (by simp only [hitR]; omega)]
    rfl
  rw [hm]
  have g97 : 97 ≤ u := by omega
  have g224 : 224 ≤ u := by omega
  have g248 : ¬ 248 ≤ u := by omega
  have g945 : ¬ 945 ≤ u := by omega
  have g963 : ¬ 963 ≤ u := by omega
  have g1072 : ¬ 1072 ≤ u := by omega
  have g257 : ¬ 257 ≤ u := by omega
  have g331 : ¬ 331 ≤ u := by omega
  have g1121 : ¬ 1121 ≤ u := by omega
  have g314 : ¬ 314 ≤ u := by omega
  have g1104 : ¬ 1104 ≤ u := by omega
  have l122 : ¬ u ≤ 122 := by omega
  have l246 : u ≤ 246 := by omega
  have l254 : u ≤ 254 := by omega
  have l961 : u ≤ 961 := by omega
  have l969 : u ≤ 969 := by omega
  have l1103 : u ≤ 1103 := by omega
  have l311 : u ≤ 311 := by omega
  have l375 : u ≤ 375 := by omega
  have l1153 : u ≤ 1153 := by omega
  have l328 : u ≤ 328 := by omega
  have l1119 : u ≤ 1119 := by omega
  have e255 : ¬ u = 255 := by omega
  have e962 : ¬ u = 962 := by omega
  obtain ⟨q, hq⟩ : ∃ q : Bool, decide (u % 2 = 1) = q := ⟨_, rfl⟩
  have hw : IntKind.u16.wrap (u - 32) = u - 32 := u16_in _ (by omega) (by omega)
  clear h0 h1 hm
  go_enter Tryd.func36, Tryd.ntmps36
  go_wp2
  all_goals (go_ret; exact ⟨rfl, rfl⟩)

theorem rup_4 (u : Int) (h0 : 247 ≤ u) (h1 : u ≤ 247) (w : World) : Calls Tryd.prog 36 #[.int .u16 u] w fun e w' => e = .returned (.int .u16 (upM u)) ∧ w' = w := by
  have hm : upM u = u := by
    unfold upM
    simp only [rowsL, upL]
    rw [if_neg (by simp only [hitR]; omega), if_neg (by simp only [hitR]; omega), if_neg (by simp only [hitR]; omega), if_neg (by simp only [hitR]; omega), if_neg (by simp only [hitR]; omega), if_neg (by simp only [hitR]; omega), if_neg (by simp only [hitR]; omega), if_neg (by simp only [hitR]; omega), if_neg (by simp only [hitR]; omega), if_neg (by simp only [hitR]; omega), if_neg (by simp only [hitR]; omega), if_neg (by simp only [hitR]; omega), if_neg (by simp only [hitR]; omega)]
  rw [hm]
  have g97 : 97 ≤ u := by omega
  have g224 : 224 ≤ u := by omega
  have g248 : ¬ 248 ≤ u := by omega
  have g945 : ¬ 945 ≤ u := by omega
  have g963 : ¬ 963 ≤ u := by omega
  have g1072 : ¬ 1072 ≤ u := by omega
  have g257 : ¬ 257 ≤ u := by omega
  have g331 : ¬ 331 ≤ u := by omega
  have g1121 : ¬ 1121 ≤ u := by omega
  have g314 : ¬ 314 ≤ u := by omega
  have g1104 : ¬ 1104 ≤ u := by omega
  have l122 : ¬ u ≤ 122 := by omega
  have l246 : ¬ u ≤ 246 := by omega
  have l254 : u ≤ 254 := by omega
  have l961 : u ≤ 961 := by omega
  have l969 : u ≤ 969 := by omega
  have l1103 : u ≤ 1103 := by omega
  have l311 : u ≤ 311 := by omega
  have l375 : u ≤ 375 := by omega
  have l1153 : u ≤ 1153 := by omega
  have l328 : u ≤ 328 := by omega
  have l1119 : u ≤ 1119 := by omega
  have e255 : ¬ u = 255 := by omega
  have e962 : ¬ u = 962 := by omega
  obtain ⟨q, hq⟩ : ∃ q : Bool, decide (u % 2 = 1) = q := ⟨_, rfl⟩
  clear h0 h1 hm
  go_enter Tryd.func36, Tryd.ntmps36
  go_wp2
  all_goals (go_ret; exact ⟨rfl, rfl⟩)

theorem rup_5 (u : Int) (h0 : 248 ≤ u) (h1 : u ≤ 254) (w : World) : Calls Tryd.prog 36 #[.int .u16 u] w fun e w' => e = .returned (.int .u16 (upM u)) ∧ w' = w := by
  have hm : upM u = u - 32 := by
    unfold upM
    simp only [rowsL, upL]
    rw [if_neg (by simp only [hitR]; omega), if_neg (by simp only [hitR]; omega), if_pos (by simp only [hitR]; omega)]
    rfl
  rw [hm]
  have g97 : 97 ≤ u := by omega
  have g224 : 224 ≤ u := by omega
  have g248 : 248 ≤ u := by omega
  have g945 : ¬ 945 ≤ u := by omega
  have g963 : ¬ 963 ≤ u := by omega
  have g1072 : ¬ 1072 ≤ u := by omega
  have g257 : ¬ 257 ≤ u := by omega
  have g331 : ¬ 331 ≤ u := by omega
  have g1121 : ¬ 1121 ≤ u := by omega
  have g314 : ¬ 314 ≤ u := by omega
  have g1104 : ¬ 1104 ≤ u := by omega
  have l122 : ¬ u ≤ 122 := by omega
  have l246 : ¬ u ≤ 246 := by omega
  have l254 : u ≤ 254 := by omega
  have l961 : u ≤ 961 := by omega
  have l969 : u ≤ 969 := by omega
  have l1103 : u ≤ 1103 := by omega
  have l311 : u ≤ 311 := by omega
  have l375 : u ≤ 375 := by omega
  have l1153 : u ≤ 1153 := by omega
  have l328 : u ≤ 328 := by omega
  have l1119 : u ≤ 1119 := by omega
  have e255 : ¬ u = 255 := by omega
  have e962 : ¬ u = 962 := by omega
  obtain ⟨q, hq⟩ : ∃ q : Bool, decide (u % 2 = 1) = q := ⟨_, rfl⟩
  have hw : IntKind.u16.wrap (u - 32) = u - 32 := u16_in _ (by omega) (by omega)
  clear h0 h1 hm
  go_enter Tryd.func36, Tryd.ntmps36
  go_wp2
  all_goals (go_ret; exact ⟨rfl, rfl⟩)

theorem rup_6 (u : Int) (h0 : 255 ≤ u) (h1 : u ≤ 255) (w : World) : Calls Tryd.prog 36 #[.int .u16 u] w fun e w' => e = .returned (.int .u16 (upM u)) ∧ w' = w := by
  have hm : upM u = 376 := by
    unfold upM
    simp only [rowsL, upL]
    rw [if_neg (by simp only [hitR]; omega), if_neg (by simp only [hitR]; omega), if_neg (by simp only [hitR]; omega), if_pos (by simp only [hitR]; omega)]
    omega
  rw [hm]
  have g97 : 97 ≤ u := by omega
  have g224 : 224 ≤ u := by omega
  have g248 : 248 ≤ u := by omega
  have g945 : ¬ 945 ≤ u := by omega
  have g963 : ¬ 963 ≤ u := by omega
  have g1072 : ¬ 1072 ≤ u := by omega
  have g257 : ¬ 257 ≤ u := by omega
  have g331 : ¬ 331 ≤ u := by omega
  have g1121 : ¬ 1121 ≤ u := by omega
  have g314 : ¬ 314 ≤ u := by omega
  have g1104 : ¬ 1104 ≤ u := by omega
  have l122 : ¬ u ≤ 122 := by omega
  have l246 : ¬ u ≤ 246 := by omega
  have l254 : ¬ u ≤ 254 := by omega
  have l961 : u ≤ 961 := by omega
  have l969 : u ≤ 969 := by omega
  have l1103 : u ≤ 1103 := by omega
  have l311 : u ≤ 311 := by omega
  have l375 : u ≤ 375 := by omega
  have l1153 : u ≤ 1153 := by omega
  have l328 : u ≤ 328 := by omega
  have l1119 : u ≤ 1119 := by omega
  have e255 : u = 255 := by omega
  have e962 : ¬ u = 962 := by omega
  obtain ⟨q, hq⟩ : ∃ q : Bool, decide (u % 2 = 1) = q := ⟨_, rfl⟩
  clear h0 h1 hm
  go_enter Tryd.func36, Tryd.ntmps36
  go_wp2
  all_goals (go_ret; exact ⟨rfl, rfl⟩)

theorem rup_7 (u : Int) (h0 : 256 ≤ u) (h1 : u ≤ 256) (w : World) : Calls Tryd.prog 36 #[.int .u16 u] w fun e w' => e = .returned (.int .u16 (upM u)) ∧ w' = w := by
  have hm : upM u = u := by
    unfold upM
    simp only [rowsL, upL]
    rw [if_neg (by simp only [hitR]; omega), if_neg (by simp only [hitR]; omega), if_neg (by simp only [hitR]; omega), if_neg (by simp only [hitR]; omega), if_neg (by simp only [hitR]; omega), if_neg (by simp only [hitR]; omega), if_neg (by simp only [hitR]; omega), if_neg (by simp only [hitR]; omega), if_neg (by simp only [hitR]; omega), if_neg (by simp only [hitR]; omega), if_neg (by simp only [hitR]; omega), if_neg (by simp only [hitR]; omega), if_neg (by simp only [hitR]; omega)]
  rw [hm]
  have g97 : 97 ≤ u := by omega
  have g224 : 224 ≤ u := by omega
  have g248 : 248 ≤ u := by omega
  have g945 : ¬ 945 ≤ u := by omega
  have g963 : ¬ 963 ≤ u := by omega
  have g1072 : ¬ 1072 ≤ u := by omega
  have g257 : ¬ 257 ≤ u := by omega
  have g331 : ¬ 331 ≤ u := by omega
  have g1121 : ¬ 1121 ≤ u := by omega
  have g314 : ¬ 314 ≤ u := by omega
  have g1104 : ¬ 1104 ≤ u := by omega
  have l122 : ¬ u ≤ 122 := by omega
  have l246 : ¬ u ≤ 246 := by omega
  have l254 : ¬ u ≤ 254 := by omega
  have l961 : u ≤ 961 := by omega
  have l969 : u ≤ 969 := by omega
  have l1103 : u ≤ 1103 := by omega
  have l311 : u ≤ 311 := by omega
  have l375 : u ≤ 375 := by omega
  have l1153 : u ≤ 1153 := by omega
  have l328 : u ≤ 328 := by omega
  have l1119 : u ≤ 1119 := by omega
  have e255 : ¬ u = 255 := by omega
  have e962 : ¬ u = 962 := by omega
  obtain ⟨q, hq⟩ : ∃ q : Bool, decide (u % 2 = 1) = q := ⟨_, rfl⟩
  clear h0 h1 hm
  go_enter Tryd.func36, Tryd.ntmps36
  go_wp2
  all_goals (go_ret; exact ⟨rfl, rfl⟩)

theorem rup_8 (u : Int) (h0 : 257 ≤ u) (h1 : u ≤ 311) (hp : u % 2 = 1) (w : World) : Calls Tryd.prog 36 #[.int .u16 u] w fun e w' => e = .returned (.int .u16 (upM u)) ∧ w' = w := by
  have hm : upM u = u - 1 := by
    unfold upM
    simp only [rowsL, upL]
    rw [if_neg (by simp only [hitR]; omega), if_neg (by simp only [hitR]; omega), if_neg (by simp only [hitR]; omega), if_neg (by simp only [hitR]; omega), if_pos (by simp only [hitR]; omega)]
    rfl
  rw [hm]
  have g97 : 97 ≤ u := by omega
  have g224 : 224 ≤ u := by omega
  have g248 : 248 ≤ u := by omega
  have g945 : ¬ 945 ≤ u := by omega
  have g963 : ¬ 963 ≤ u := by omega
  have g1072 : ¬ 1072 ≤ u := by omega
  have g257 : 257 ≤ u := by omega
  have g331 : ¬ 331 ≤ u := by omega
  have g1121 : ¬ 1121 ≤ u := by omega
  have g314 : ¬ 314 ≤ u := by omega
  have g1104 : ¬ 1104 ≤ u := by omega
  have l122 : ¬ u ≤ 122 := by omega
  have l246 : ¬ u ≤ 246 := by omega
  have l254 : ¬ u ≤ 254 := by omega
  have l961 : u ≤ 961 := by omega
  have l969 : u ≤ 969 := by omega
  have l1103 : u ≤ 1103 := by omega
  have l311 : u ≤ 311 := by omega
  have l375 : u ≤ 375 := by omega
  have l1153 : u ≤ 1153 := by omega
  have l328 : u ≤ 328 := by omega
  have l1119 : u ≤ 1119 := by omega
  have e255 : ¬ u = 255 := by omega
  have e962 : ¬ u = 962 := by omega
  have hpar : u % 2 = 1 := by omega
  have hw : IntKind.u16.wrap (u - 1) = u - 1 := u16_in _ (by omega) (by omega)
  clear h0 h1 hm
  go_enter Tryd.func36, Tryd.ntmps36
  go_wp2
  all_goals (go_ret; exact ⟨rfl, rfl⟩)

theorem rup_9 (u : Int) (h0 : 257 ≤ u) (h1 : u ≤ 311) (hp : u % 2 = 0) (w : World) : Calls Tryd.prog 36 #[.int .u16 u] w fun e w' => e = .returned (.int .u16 (upM u)) ∧ w' = w := by
  have hm : upM u = u := by
    unfold upM
    simp only [rowsL, upL]
    rw [if_neg (by simp only [hitR]; omega), if_neg (by simp only [hitR]; omega), if_neg (by simp only [hitR]; omega), if_neg (by simp only [hitR]; omega), if_neg (by simp only [hitR]; omega), if_neg (by simp only [hitR]; omega), if_neg (by simp only [hitR]; omega), if_neg (by simp only [hitR]; omega), if_neg (by simp only [hitR]; omega), if_neg (by simp only [hitR]; omega), if_neg (by simp only [hitR]; omega), if_neg (by simp only [hitR]; omega), if_neg (by simp only [hitR]; omega)]
  rw [hm]
  have g97 : 97 ≤ u := by omega
  have g224 : 224 ≤ u := by omega
  have g248 : 248 ≤ u := by omega
  have g945 : ¬ 945 ≤ u := by omega
  have g963 : ¬ 963 ≤ u := by omega
  have g1072 : ¬ 1072 ≤ u := by omega
  have g257 : 257 ≤ u := by omega
  have g331 : ¬ 331 ≤ u := by omega
  have g1121 : ¬ 1121 ≤ u := by omega
  have g314 : ¬ 314 ≤ u := by omega
  have g1104 : ¬ 1104 ≤ u := by omega
  have l122 : ¬ u ≤ 122 := by omega
  have l246 : ¬ u ≤ 246 := by omega
  have l254 : ¬ u ≤ 254 := by omega
  have l961 : u ≤ 961 := by omega
  have l969 : u ≤ 969 := by omega
  have l1103 : u ≤ 1103 := by omega
  have l311 : u ≤ 311 := by omega
  have l375 : u ≤ 375 := by omega
  have l1153 : u ≤ 1153 := by omega
  have l328 : u ≤ 328 := by omega
  have l1119 : u ≤ 1119 := by omega
  have e255 : ¬ u = 255 := by omega
  have e962 : ¬ u = 962 := by omega
  have hpar : ¬ u % 2 = 1 := by omega
  clear h0 h1 hm
  go_enter Tryd.func36, Tryd.ntmps36
  go_wp2
  all_goals (go_ret; exact ⟨rfl, rfl⟩)

theorem rup_10 (u : Int) (h0 : 312 ≤ u) (h1 : u ≤ 313) (w : World) : Calls Tryd.prog 36 #[.int .u16 u] w fun e w' => e = .returned (.int .u16 (upM u)) ∧ w' = w := by
  have hm : upM u = u := by
    unfold upM
    simp only [rowsL, upL]
    rw [if_neg (by simp only [hitR]; omega), if_neg (by simp only [hitR]; omega), if_neg (by simp only [hitR]; omega), if_neg (by simp only [hitR]; omega), if_neg (by simp only [hitR]; omega), if_neg (by simp only [hitR]; omega), if_neg (by simp only [hitR]; omega), if_neg (by simp only [hitR]; omega), if_neg (by simp only [hitR]; omega), if_neg (by simp only [hitR]; omega), if_neg (by simp only [hitR]; omega), if_neg (by simp only [hitR]; omega), if_neg (by simp only [hitR]; omega)]
  rw [hm]
  have g97 : 97 ≤ u := by omega
  have g224 : 224 ≤ u := by omega
  have g248 : 248 ≤ u := by omega
  have g945 : ¬ 945 ≤ u := by omega
  have g963 : ¬ 963 ≤ u := by omega
  have g1072 : ¬ 1072 ≤ u := by omega
  have g257 : 257 ≤ u := by omega
  have g331 : ¬ 331 ≤ u := by omega
  have g1121 : ¬ 1121 ≤ u := by omega
  have g314 : ¬ 314 ≤ u := by omega
  have g1104 : ¬ 1104 ≤ u := by omega
  have l122 : ¬ u ≤ 122 := by omega
  have l246 : ¬ u ≤ 246 := by omega
  have l254 : ¬ u ≤ 254 := by omega
  have l961 : u ≤ 961 := by omega
  have l969 : u ≤ 969 := by omega
  have l1103 : u ≤ 1103 := by omega
  have l311 : ¬ u ≤ 311 := by omega
  have l375 : u ≤ 375 := by omega
  have l1153 : u ≤ 1153 := by omega
  have l328 : u ≤ 328 := by omega
  have l1119 : u ≤ 1119 := by omega
  have e255 : ¬ u = 255 := by omega
  have e962 : ¬ u = 962 := by omega
  obtain ⟨q, hq⟩ : ∃ q : Bool, decide (u % 2 = 1) = q := ⟨_, rfl⟩
  clear h0 h1 hm
  go_enter Tryd.func36, Tryd.ntmps36
  go_wp2
  all_goals (go_ret; exact ⟨rfl, rfl⟩)

theorem rup_11 (u : Int) (h0 : 314 ≤ u) (h1 : u ≤ 328) (hp : u % 2 = 1) (w : World) : Calls Tryd.prog 36 #[.int .u16 u] w fun e w' => e = .returned (.int .u16 (upM u)) ∧ w' = w := by
  have hm : upM u = u := by
    unfold upM
    simp only [rowsL, upL]
    rw [if_neg (by simp only [hitR]; omega), if_neg (by simp only [hitR]; omega), if_neg (by simp only [hitR]; omega), if_neg (by simp only [hitR]; omega), if_neg (by simp only [hitR]; omega), if_neg (by simp only [hitR]; omega), if_neg (by simp only [hitR]; omega), if_neg (by simp only [hitR]; omega), if_neg (by simp only [hitR]; omega), if_neg (by simp only [hitR]; omega), if_neg (by simp only [hitR]; omega), if_neg (by simp only [hitR]; omega), if_neg (by simp only [hitR]; omega)]
  rw [hm]
  have g97 : 97 ≤ u := by omega
  have g224 : 224 ≤ u := by omega
  have g248 : 248 ≤ u := by omega
  have g945 : ¬ 945 ≤ u := by omega
  have g963 : ¬ 963 ≤ u := by omega
  have g1072 : ¬ 1072 ≤ u := by omega
  have g257 : 257 ≤ u := by omega
  have g331 : ¬ 331 ≤ u := by omega
  have g1121 : ¬ 1121 ≤ u := by omega
  have g314 : 314 ≤ u := by omega
  have g1104 : ¬ 1104 ≤ u := by omega
  have l122 : ¬ u ≤ 122 := by omega
  have l246 : ¬ u ≤ 246 := by omega
  have l254 : ¬ u ≤ 254 := by omega
  have l961 : u ≤ 961 := by omega
  have l969 : u ≤ 969 := by omega
  have l1103 : u ≤ 1103 := by omega
  have l311 : ¬ u ≤ 311 := by omega
  have l375 : u ≤ 375 := by omega
  have l1153 : u ≤ 1153 := by omega
  have l328 : u ≤ 328 := by omega
  have l1119 : u ≤ 1119 := by omega
  have e255 : ¬ u = 255 := by omega
  have e962 : ¬ u = 962 := by omega
  have hpar : u % 2 = 1 := by omega
  clear h0 h1 hm
  go_enter Tryd.func36, Tryd.ntmps36
  go_wp2
  all_goals (go_ret; exact ⟨rfl, rfl⟩)

theorem rup_12 (u : Int) (h0 : 314 ≤ u) (h1 : u ≤ 328) (hp : u % 2 = 0) (w : World) : Calls Tryd.prog 36 #[.int .u16 u] w fun e w' => e = .returned (.int .u16 (upM u)) ∧ w' = w := by
  have hm : upM u = u - 1 := by
    unfold upM
    simp only [rowsL, upL]
    rw [if_neg (by simp only [hitR]; omega), if_neg (by simp only [hitR]; omega), if_neg (by simp only [hitR]; omega), if_neg (by simp only [hitR]; omega), if_neg (by simp only [hitR]; omega), if_pos (by simp only [hitR]; omega)]
    rfl
  rw [hm]
  have g97 : 97 ≤ u := by omega
  have g224 : 224 ≤ u := by omega
  have g248 : 248 ≤ u := by omega
  have g945 : ¬ 945 ≤ u := by omega
  have g963 : ¬ 963 ≤ u := by omega
  have g1072 : ¬ 1072 ≤ u := by omega
  have g257 : 257 ≤ u := by omega
  have g331 : ¬ 331 ≤ u := by omega
  have g1121 : ¬ 1121 ≤ u := by omega
  have g314 : 314 ≤ u := by omega
  have g1104 : ¬ 1104 ≤ u := by omega
  have l122 : ¬ u ≤ 122 := by omega
  have l246 : ¬ u ≤ 246 := by omega
  have l254 : ¬ u ≤ 254 := by omega
  have l961 : u ≤ 961 := by omega
  have l969 : u ≤ 969 := by omega
  have l1103 : u ≤ 1103 := by omega
  have l311 : ¬ u ≤ 311 := by omega
  have l375 : u ≤ 375 := by omega
  have l1153 : u ≤ 1153 := by omega
  have l328 : u ≤ 328 := by omega
  have l1119 : u ≤ 1119 := by omega
  have e255 : ¬ u = 255 := by omega
  have e962 : ¬ u = 962 := by omega
  have hpar : ¬ u % 2 = 1 := by omega
  have hw : IntKind.u16.wrap (u - 1) = u - 1 := u16_in _ (by omega) (by omega)
  clear h0 h1 hm
  go_enter Tryd.func36, Tryd.ntmps36
  go_wp2
  all_goals (go_ret; exact ⟨rfl, rfl⟩)

theorem rup_13 (u : Int) (h0 : 329 ≤ u) (h1 : u ≤ 330) (w : World) : Calls Tryd.prog 36 #[.int .u16 u] w fun e w' => e = .returned (.int .u16 (upM u)) ∧ w' = w := by
  have hm : upM u = u := by
    unfold upM
    simp only [rowsL, upL]
    rw [if_neg (by simp only [hitR]; omega), if_neg (by simp only [hitR]; omega), if_neg (by simp only [hitR]; omega), if_neg (by simp only [hitR]; omega), if_neg (by simp only [hitR]; omega), if_neg (by simp only [hitR]; omega), if_neg (by simp only [hitR]; omega), if_neg (by simp only [hitR]; omega), if_neg (by simp only [hitR]; omega), if_neg (by simp only [hitR]; omega), if_neg (by simp only [hitR]; omega), if_neg (by simp only [hitR]; omega), if_neg (by simp only [hitR]; omega)]
  rw [hm]
  have g97 : 97 ≤ u := by omega
  have g224 : 224 ≤ u := by omega
  have g248 : 248 ≤ u := by omega
  have g945 : ¬ 945 ≤ u := by omega
  have g963 : ¬ 963 ≤ u := by omega
  have g1072 : ¬ 1072 ≤ u := by omega
  have g257 : 257 ≤ u := by omega
  have g331 : ¬ 331 ≤ u := by omega
  have g1121 : ¬ 1121 ≤ u := by omega
  have g314 : 314 ≤ u := by omega
  have g1104 : ¬ 1104 ≤ u := by omega
  have l122 : ¬ u ≤ 122 := by omega
  have l246 : ¬ u ≤ 246 := by omega
  have l254 : ¬ u ≤ 254 := by omega
  have l961 : u ≤ 961 := by omega
  have l969 : u ≤ 969 := by omega
  have l1103 : u ≤ 1103 := by omega
  have l311 : ¬ u ≤ 311 := by omega
  have l375 : u ≤ 375 := by omega
  have l1153 : u ≤ 1153 := by omega
  have l328 : ¬ u ≤ 328 := by omega
  have l1119 : u ≤ 1119 := by omega
  have e255 : ¬ u = 255 := by omega
  have e962 : ¬ u = 962 := by omega
  obtain ⟨q, hq⟩ : ∃ q : Bool, decide (u % 2 = 1) = q := ⟨_, rfl⟩
  clear h0 h1 hm
  go_enter Tryd.func36, Tryd.ntmps36
  go_wp2
  all_goals (go_ret; exact ⟨rfl, rfl⟩)

theorem rup_14 (u : Int) (h0 : 331 ≤ u) (h1 : u ≤ 375) (hp : u % 2 = 1) (w : World) : Calls Tryd.prog 36 #[.int .u16 u] w fun e w' => e = .returned (.int .u16 (upM u)) ∧ w' = w := by
  have hm : upM u = u - 1 := by
    unfold upM
    simp only [rowsL, upL]
    rw [if_neg (by simp only [hitR]; omega), if_neg (by simp only [hitR]; omega), if_neg (by simp only [hitR]; omega), if_neg (by simp only [hitR]; omega), if_neg (by simp only [hitR]; omega), if_neg (by simp only [hitR]; omega), if_pos (by simp only [hitR]; omega)]
    rfl
  rw [hm]
  have g97 : 97 ≤ u := by omega
  have g224 : 224 ≤ u := by omega
  have g248 : 248 ≤ u := by omega
  have g945 : ¬ 945 ≤ u := by omega
  have g963 : ¬ 963 ≤ u := by omega
  have g1072 : ¬ 1072 ≤ u := by omega
  have g257 : 257 ≤ u := by omega
  have g331 : 331 ≤ u := by omega
  have g1121 : ¬ 1121 ≤ u := by omega
  have g314 : 314 ≤ u := by omega
  have g1104 : ¬ 1104 ≤ u := by omega
  have l122 : ¬ u ≤ 122 := by omega
  have l246 : ¬ u ≤ 246 := by omega
  have l254 : ¬ u ≤ 254 := by omega
  have l961 : u ≤ 961 := by omega
  have l969 : u ≤ 969 := by omega
  have l1103 : u ≤ 1103 := by omega
  have l311 : ¬ u ≤ 311 := by omega
  have l375 : u ≤ 375 := by omega
  have l1153 : u ≤ 1153 := by omega
  have l328 : ¬ u ≤ 328 := by omega
  have l1119 : u ≤ 1119 := by omega
  have e255 : ¬ u = 255 := by omega
  have e962 : ¬ u = 962 := by omega
  have hpar : u % 2 = 1 := by omega
  have hw : IntKind.u16.wrap (u - 1) = u - 1 := u16_in _ (by omega) (by omega)
  clear h0 h1 hm
  go_enter Tryd.func36, Tryd.ntmps36
  go_wp2
  all_goals (go_ret; exact ⟨rfl, rfl⟩)

theorem rup_15 (u : Int) (h0 : 331 ≤ u) (h1 : u ≤ 375) (hp : u % 2 = 0) (w : World) : Calls Tryd.prog 36 #[.int .u16 u] w fun e w' => e = .returned (.int .u16 (upM u)) ∧ w' = w := by
  have hm : upM u = u := by
    unfold upM
    simp only [rowsL, upL]
    rw [if_neg (by simp only [hitR]; omega), if_neg (by simp only [hitR]; omega), if_neg (by simp only [hitR]; omega), if_neg (by simp only [hitR]; omega), if_neg (by simp only [hitR]; omega), if_neg (by simp only [hitR]; omega), if_neg (by simp only [hitR]; omega), if_neg (by simp only [hitR]; omega), if_neg (by simp only [hitR]; omega), if_neg (by simp only [hitR]; omega), if_neg (by simp only [hitR]; omega), if_neg (by simp only [hitR]; omega), if_neg (by simp only [hitR]; omega)]
  rw [hm]
  have g97 : 97 ≤ u := by omega
  have g224 : 224 ≤ u := by omega
  have g248 : 248 ≤ u := by omega
  have g945 : ¬ 945 ≤ u := by omega
  have g963 : ¬ 963 ≤ u := by omega
  have g1072 : ¬ 1072 ≤ u := by omega
  have g257 : 257 ≤ u := by omega
  have g331 : 331 ≤ u := by omega
  have g1121 : ¬ 1121 ≤ u := by omega
  have g314 : 314 ≤ u := by omega
  have g1104 : ¬ 1104 ≤ u := by omega
  have l122 : ¬ u ≤ 122 := by omega
  have l246 : ¬ u ≤ 246 := by omega
  have l254 : ¬ u ≤ 254 := by omega
  have l961 : u ≤ 961 := by omega
  have l969 : u ≤ 969 := by omega
  have l1103 : u ≤ 1103 := by omega
  have l311 : ¬ u ≤ 311 := by omega
  have l375 : u ≤ 375 := by omega
  have l1153 : u ≤ 1153 := by omega
  have l328 : ¬ u ≤ 328 := by omega
  have l1119 : u ≤ 1119 := by omega
  have e255 : ¬ u = 255 := by omega
  have e962 : ¬ u = 962 := by omega
  have hpar : ¬ u % 2 = 1 := by omega
  clear h0 h1 hm
  go_enter Tryd.func36, Tryd.ntmps36
  go_wp2
  all_goals (go_ret; exact ⟨rfl, rfl⟩)

theorem rup_16 (u : Int) (h0 : 376 ≤ u) (h1 : u ≤ 944) (w : World) : Calls Tryd.prog 36 #[.int .u16 u] w fun e w' => e = .returned (.int .u16 (upM u)) ∧ w' = w := by
  have hm : upM u = u := by
    unfold upM
    simp only [rowsL, upL]
    rw [if_neg (by simp only [hitR]; omega), if_neg (by simp only [hitR]; omega), if_neg (by simp only [hitR]; omega), if_neg (by simp only [hitR]; omega), if_neg (by simp only [hitR]; omega), if_neg (by simp only [hitR]; omega), if_neg (by simp only [hitR]; omega), if_neg (by simp only [hitR]; omega), if_neg (by simp only [hitR]; omega), if_neg (by simp only [hitR]; omega), if_neg (by simp only [hitR]; omega), if_neg (by simp only [hitR]; omega), if_neg (by simp only [hitR]; omega)]
  rw [hm]
  have g97 : 97 ≤ u := by omega
  have g224 : 224 ≤ u := by omega
  have g248 : 248 ≤ u := by omega
  have g945 : ¬ 945 ≤ u := by omega
  have g963 : ¬ 963 ≤ u := by omega
  have g1072 : ¬ 1072 ≤ u := by omega
  have g257 : 257 ≤ u := by omega
  have g331 : 331 ≤ u := by omega
  have g1121 : ¬ 1121 ≤ u := by omega
  have g314 : 314 ≤ u := by omega
  have g1104 : ¬ 1104 ≤ u := by omega
  have l122 : ¬ u ≤ 122 := by omega
  have l246 : ¬ u ≤ 246 := by omega
  have l254 : ¬ u ≤ 254 := by omega
  have l961 : u ≤ 961 := by omega
  have l969 : u ≤ 969 := by omega
  have l1103 : u ≤ 1103 := by omega
  have l311 : ¬ u ≤ 311 := by omega
  have l375 : ¬ u ≤ 375 := by omega
  have l1153 : u ≤ 1153 := by omega
  have l328 : ¬ u ≤ 328 := by omega
  have l1119 : u ≤ 1119 := by omega
  have e255 : ¬ u = 255 := by omega
  have e962 : ¬ u = 962 := by omega
  obtain ⟨q, hq⟩ : ∃ q : Bool, decide (u % 2 = 1) = q := ⟨_, rfl⟩
  clear h0 h1 hm
  go_enter Tryd.func36, Tryd.ntmps36
  go_wp2
  all_goals (go_ret; exact ⟨rfl, rfl⟩)

theorem rup_17 (u : Int) (h0 : 945 ≤ u) (h1 : u ≤ 961) (w : World) : Calls Tryd.prog 36 #[.int .u16 u] w fun e w' => e = .returned (.int .u16 (upM u)) ∧ w' = w := by
  have hm : upM u = u - 32 := by
    unfold upM
    simp only [rowsL, upL]
    rw [if_neg (by simp only [hitR]; omega), if_neg (by simp only [hitR]; omega), if_neg (by simp only [hitR]; omega), if_neg (by simp only [hitR]; omega), if_neg (by simp only [hitR]; omega), if_neg (by simp only [hitR]; omega), if_neg (by simp only [hitR]; omega), if_pos (by simp only [hitR]; omega)]
    rfl
  rw [hm]
  have g97 : 97 ≤ u := by omega
  have g224 : 224 ≤ u := by omega
  have g248 : 248 ≤ u := by omega
  have g945 : 945 ≤ u := by omega
  have g963 : ¬ 963 ≤ u := by omega
  have g1072 : ¬ 1072 ≤ u := by omega
  have g257 : 257 ≤ u := by omega
  have g331 : 331 ≤ u := by omega
  have g1121 : ¬ 1121 ≤ u := by omega
  have g314 : 314 ≤ u := by omega
  have g1104 : ¬ 1104 ≤ u := by omega
  have l122 : ¬ u ≤ 122 := by omega
  have l246 : ¬ u ≤ 246 := by omega
  have l254 : ¬ u ≤ 254 := by omega
  have l961 : u ≤ 961 := by omega
  have l969 : u ≤ 969 := by omega
  have l1103 : u ≤ 1103 := by omega
  have l311 : ¬ u ≤ 311 := by omega
  have l375 : ¬ u ≤ 375 := by omega
  have l1153 : u ≤ 1153 := by omega
  have l328 : ¬ u ≤ 328 := by omega
  have l1119 : u ≤ 1119 := by omega
  have e255 : ¬ u = 255 := by omega
  have e962 : ¬ u = 962 := by omega
  obtain ⟨q, hq⟩ : ∃ q : Bool, decide (u % 2 = 1) = q := ⟨_, rfl⟩
  have hw : IntKind.u16.wrap (u - 32) = u - 32 := u16_in _ (by omega) (by omega)
  clear h0 h1 hm
  go_enter Tryd.func36, Tryd.ntmps36
  go_wp2
  all_goals (go_ret; exact ⟨rfl, rfl⟩)

theorem rup_18 (u : Int) (h0 : 962 ≤ u) (h1 : u ≤ 962) (w : World) : Calls Tryd.prog 36 #[.int .u16 u] w fun e w' => e = .returned (.int .u16 (upM u)) ∧ w' = w := by
  have hm : upM u = 931 := by
    unfold upM
    simp only [rowsL, upL]
    rw [if_neg (by simp only [hitR]; omega), if_neg (by simp only [hitR]; omega), if_neg (by simp only [hitR]; omega), if_neg (by simp only [hitR]; omega), if_neg (by simp only [hitR]; omega), if_neg (by simp only [hitR]; omega), if_neg (by simp only [hitR]; omega), if_neg (by simp only [hitR]; omega), if_pos (by simp only [hitR]; omega)]
    omega
  rw [hm]
  have g97 : 97 ≤ u := by omega
  have g224 : 224 ≤ u := by omega
  have g248 : 248 ≤ u := by omega
  have g945 : 945 ≤ u := by omega
  have g963 : ¬ 963 ≤ u := by omega
  have g1072 : ¬ 1072 ≤ u := by omega
  have g257 : 257 ≤ u := by omega
  have g331 : 331 ≤ u := by omega
  have g1121 : ¬ 1121 ≤ u := by omega
  have g314 : 314 ≤ u := by omega
  have g1104 : ¬ 1104 ≤ u := by omega
  have l122 : ¬ u ≤ 122 := by omega
  have l246 : ¬ u ≤ 246 := by omega
  have l254 : ¬ u ≤ 254 := by omega
  have l961 : ¬ u ≤ 961 := by omega
  have l969 : u ≤ 969 := by omega
  have l1103 : u ≤ 1103 := by omega
  have l311 : ¬ u ≤ 311 := by omega
  have l375 : ¬ u ≤ 375 := by omega
  have l1153 : u ≤ 1153 := by omega
  have l328 : ¬ u ≤ 328 := by omega
  have l1119 : u ≤ 1119 := by omega
  have e255 : ¬ u = 255 := by omega
  have e962 : u = 962 := by omega
  obtain ⟨q, hq⟩ : ∃ q : Bool, decide (u % 2 = 1) = q := ⟨_, rfl⟩
  clear h0 h1 hm
  go_enter Tryd.func36, Tryd.ntmps36
  go_wp2
  all_goals (go_ret; exact ⟨rfl, rfl⟩)

theorem rup_19 (u : Int) (h0 : 963 ≤ u) (h1 : u ≤ 969) (w : World) : Calls Tryd.prog 36 #[.int .u16 u] w fun e w' => e = .returned (.int .u16 (upM u)) ∧ w' = w := by
  have hm : upM u = u - 32 := by
    unfold upM
    simp only [rowsL, upL]
    rw [if_neg (by simp only [hitR]; omega), if_neg (by simp only [hitR]; omega), if_neg (by simp only [hitR]; omega), if_neg (by simp only [hitR]; omega), if_neg (by simp only [hitR]; omega), if_neg (by simp only [hitR]; omega), if_neg (by simp only [hitR]; omega), if_neg (by simp only [hitR]; omega), if_neg (by simp only [hitR]; omega), if_pos (by simp only [hitR]; omega)]
    rfl
  rw [hm]
  have g97 : 97 ≤ u := by omega
  have g224 : 224 ≤ u := by omega
  have g248 : 248 ≤ u := by omega
  have g945 : 945 ≤ u := by omega
  have g963 : 963 ≤ u := by omega
  have g1072 : ¬ 1072 ≤ u := by omega
  have g257 : 257 ≤ u := by omega
  have g331 : 331 ≤ u := by omega
  have g1121 : ¬ 1121 ≤ u := by omega
  have g314 : 314 ≤ u := by omega
  have g1104 : ¬ 1104 ≤ u := by omega
  have l122 : ¬ u ≤ 122 := by omega
  have l246 : ¬ u ≤ 246 := by omega
  have l254 : ¬ u ≤ 254 := by omega
  have l961 : ¬ u ≤ 961 := by omega
  have l969 : u ≤ 969 := by omega
  have l1103 : u ≤ 1103 := by omega
  have l311 : ¬ u ≤ 311 := by omega
  have l375 : ¬ u ≤ 375 := by omega
  have l1153 : u ≤ 1153 := by omega
  have l328 : ¬ u ≤ 328 := by omega
  have l1119 : u ≤ 1119 := by omega
  have e255 : ¬ u = 255 := by omega
  have e962 : ¬ u = 962 := by omega
  obtain ⟨q, hq⟩ : ∃ q : Bool, decide (u % 2 = 1) = q := ⟨_, rfl⟩
  have hw : IntKind.u16.wrap (u - 32) = u - 32 := u16_in _ (by omega) (by omega)
  clear h0 h1 hm
  go_enter Tryd.func36, Tryd.ntmps36
  go_wp2
  all_goals (go_ret; exact ⟨rfl, rfl⟩)

theorem rup_20 (u : Int) (h0 : 970 ≤ u) (h1 : u ≤ 1071) (w : World) : Calls Tryd.prog 36 #[.int .u16 u] w fun e w' => e = .returned (.int .u16 (upM u)) ∧ w' = w := by
  have hm : upM u = u := by
    unfold upM
    simp only [rowsL, upL]
    rw [if_neg (by simp only [hitR]; omega), if_neg (by simp only [hitR]; omega), if_neg (by simp only [hitR]; omega), if_neg (by simp only [hitR]; omega), if_neg (by simp only [hitR]; omega), if_neg (by simp only [hitR]; omega), if_neg (by simp only [hitR]; omega), if_neg (by simp only [hitR]; omega), if_neg (by simp only [hitR]; omega), if_neg (by simp only [hitR]; omega), if_neg (by simp only [hitR]; omega), if_neg (by simp only [hitR]; omega), if_neg (by simp only [hitR]; omega)]
  rw [hm]
  have g97 : 97 ≤ u := by omega
  have g224 : 224 ≤ u := by omega
  have g248 : 248 ≤ u := by omega
  have g945 : 945 ≤ u := by omega
  have g963 : 963 ≤ u := by omega
  have g1072 : ¬ 1072 ≤ u := by omega
  have g257 : 257 ≤ u := by omega
  have g331 : 331 ≤ u := by omega
  have g1121 : ¬ 1121 ≤ u := by omega
  have g314 : 314 ≤ u := by omega
  have g1104 : ¬ 1104 ≤ u := by omega
  have l122 : ¬ u ≤ 122 := by omega
  have l246 : ¬ u ≤ 246 := by omega
  have l254 : ¬ u ≤ 254 := by omega
  have l961 : ¬ u ≤ 961 := by omega
  have l969 : ¬ u ≤ 969 := by omega
  have l1103 : u ≤ 1103 := by omega
  have l311 : ¬ u ≤ 311 := by omega
  have l375 : ¬ u ≤ 375 := by omega
  have l1153 : u ≤ 1153 := by omega
  have l328 : ¬ u ≤ 328 := by omega
  have l1119 : u ≤ 1119 := by omega
  have e255 : ¬ u = 255 := by omega
  have e962 : ¬ u = 962 := by omega
  obtain ⟨q, hq⟩ : ∃ q : Bool, decide (u % 2 = 1) = q := ⟨_, rfl⟩
  clear h0 h1 hm
  go_enter Tryd.func36, Tryd.ntmps36
  go_wp2
  all_goals (go_ret; exact ⟨rfl, rfl⟩)

theorem rup_21 (u : Int) (h0 : 1072 ≤ u) (h1 : u ≤ 1103) (w : World) : Calls Tryd.prog 36 #[.int .u16 u] w fun e w' => e = .returned (.int .u16 (upM u)) ∧ w' = w := by
  have hm : upM u = u - 32 := by
    unfold upM
    simp only [rowsL, upL]
    rw [if_neg (by simp only [hitR]; omega), if_neg (by simp only [hitR]; omega), if_neg (by simp only [hitR]; omega), if_neg (by simp only [hitR]; omega), if_neg (by simp only [hitR]; omega), if_neg (by simp only [hitR]; omega), if_neg (by simp only [hitR]; omega), if_neg (by simp only [hitR]; omega), if_neg (by simp only [hitR]; omega), if_neg (by simp only [hitR]; omega), if_pos (by simp only [hitR]; omega)]
    rfl
  rw [hm]
  have g97 : 97 ≤ u := by omega
  have g224 : 224 ≤ u := by omega
  have g248 : 248 ≤ u := by omega
  have g945 : 945 ≤ u := by omega
  have g963 : 963 ≤ u := by omega
  have g1072 : 1072 ≤ u := by omega
  have g257 : 257 ≤ u := by omega
  have g331 : 331 ≤ u := by omega
  have g1121 : ¬ 1121 ≤ u := by omega
  have g314 : 314 ≤ u := by omega
  have g1104 : ¬ 1104 ≤ u := by omega
  have l122 : ¬ u ≤ 122 := by omega
  have l246 : ¬ u ≤ 246 := by omega
  have l254 : ¬ u ≤ 254 := by omega
  have l961 : ¬ u ≤ 961 := by omega
  have l969 : ¬ u ≤ 969 := by omega
  have l1103 : u ≤ 1103 := by omega
  have l311 : ¬ u ≤ 311 := by omega
  have l375 : ¬ u ≤ 375 := by omega
  have l1153 : u ≤ 1153 := by omega
  have l328 : ¬ u ≤ 328 := by omega
  have l1119 : u ≤ 1119 := by omega
  have e255 : ¬ u = 255 := by omega
  have e962 : ¬ u = 962 := by omega
  obtain ⟨q, hq⟩ : ∃ q : Bool, decide (u % 2 = 1) = q := ⟨_, rfl⟩
  have hw : IntKind.u16.wrap (u - 32) = u - 32 := u16_in _ (by omega) (by omega)
  clear h0 h1 hm
  go_enter Tryd.func36, Tryd.ntmps36
  go_wp2
  all_goals (go_ret; exact ⟨rfl, rfl⟩)

theorem rup_22 (u : Int) (h0 : 1104 ≤ u) (h1 : u ≤ 1119) (w : World) : Calls Tryd.prog 36 #[.int .u16 u] w fun e w' => e = .returned (.int .u16 (upM u)) ∧ w' = w := by
  have hm : upM u = u - 80 := by
    unfold upM
    simp only [rowsL, upL]
    rw [if_neg (by simp only [hitR]; omega), if_neg (by simp only [hitR]; omega), if_neg (by simp only [hitR]; omega), if_neg (by simp only [hitR]; omega), if_neg (by simp only [hitR]; omega), if_neg (by simp only [hitR]; omega), if_neg (by simp only [hitR]; omega), if_neg (by simp only [hitR]; omega), if_neg (by simp only [hitR]; omega), if_neg (by simp only [hitR]; omega), if_neg (by simp only [hitR]; omega), if_pos (by simp only [hitR]; omega)]
    rfl
  rw [hm]
  have g97 : 97 ≤ u := by omega
  have g224 : 224 ≤ u := by omega
  have g248 : 248 ≤ u := by omega
  have g945 : 945 ≤ u := by omega
  have g963 : 963 ≤ u := by omega
  have g1072 : 1072 ≤ u := by omega
  have g257 : 257 ≤ u := by omega
  have g331 : 331 ≤ u := by omega
  have g1121 : ¬ 1121 ≤ u := by omega
  have g314 : 314 ≤ u := by omega
  have g1104 : 1104 ≤ u := by omega
  have l122 : ¬ u ≤ 122 := by omega
  have l246 : ¬ u ≤ 246 := by omega
  have l254 : ¬ u ≤ 254 := by omega
  have l961 : ¬ u ≤ 961 := by omega
  have l969 : ¬ u ≤ 969 := by omega
  have l1103 : ¬ u ≤ 1103 := by omega
  have l311 : ¬ u ≤ 311 := by omega
  have l375 : ¬ u ≤ 375 := by omega
  have l1153 : u ≤ 1153 := by omega
  have l328 : ¬ u ≤ 328 := by omega
  have l1119 : u ≤ 1119 := by omega
  have e255 : ¬ u = 255 := by omega
  have e962 : ¬ u = 962 := by omega
  obtain ⟨q, hq⟩ : ∃ q : Bool, decide (u % 2 = 1) = q := ⟨_, rfl⟩
  have hw : IntKind.u16.wrap (u - 80) = u - 80 := u16_in _ (by omega) (by omega)
  clear h0 h1 hm
  go_enter Tryd.func36, Tryd.ntmps36
  go_wp2
  all_goals (go_ret; exact ⟨rfl, rfl⟩)

theorem rup_23 (u : Int) (h0 : 1120 ≤ u) (h1 : u ≤ 1120) (w : World) : Calls Tryd.prog 36 #[.int .u16 u] w fun e w' => e = .returned (.int .u16 (upM u)) ∧ w' = w := by
  have hm : upM u = u := by
    unfold upM
    simp only [rowsL, upL]
    rw [if_neg (by simp only [hitR]; omega), if_neg (by simp only [hitR]; omega), if_neg (by simp only [hitR]; omega), if_neg (by simp only [hitR]; omega), if_neg (by simp only [hitR]; omega), if_neg (by simp only [hitR]; omega), if_neg (by simp only [hitR]; omega), if_neg (by simp only [hitR]; omega), if_neg (by simp only [hitR]; omega), if_neg (by simp only [hitR]; omega), if_neg (by simp only [hitR]; omega), if_neg (by simp only [hitR]; omega), if_neg (by simp only [hitR]; omega)]
  rw [hm]
  have g97 : 97 ≤ u := by omega
  have g224 : 224 ≤ u := by omega
  have g248 : 248 ≤ u := by omega
  have g945 : 945 ≤ u := by omega
  have g963 : 963 ≤ u := by omega
  have g1072 : 1072 ≤ u := by omega
  have g257 : 257 ≤ u := by omega
  have g331 : 331 ≤ u := by omega
  have g1121 : ¬ 1121 ≤ u := by omega
  have g314 : 314 ≤ u := by omega
  have g1104 : 1104 ≤ u := by omega
  have l122 : ¬ u ≤ 122 := by omega
  have l246 : ¬ u ≤ 246 := by omega
  have l254 : ¬ u ≤ 254 := by omega
  have l961 : ¬ u ≤ 961 := by omega
  have l969 : ¬ u ≤ 969 := by omega
  have l1103 : ¬ u ≤ 1103 := by omega
  have l311 : ¬ u ≤ 311 := by omega
  have l375 : ¬ u ≤ 375 := by omega
  have l1153 : u ≤ 1153 := by omega
  have l328 : ¬ u ≤ 328 := by omega
  have l1119 : ¬ u ≤ 1119 := by omega
  have e255 : ¬ u = 255 := by omega
  have e962 : ¬ u = 962 := by omega
  obtain ⟨q, hq⟩ : ∃ q : Bool, decide (u % 2 = 1) = q := ⟨_, rfl⟩
  clear h0 h1 hm
  go_enter Tryd.func36, Tryd.ntmps36
  go_wp2
  all_goals (go_ret; exact ⟨rfl, rfl⟩)

theorem rup_24 (u : Int) (h0 : 1121 ≤ u) (h1 : u ≤ 1153) (hp : u % 2 = 1) (w : World) : Calls Tryd.prog 36 #[.int .u16 u] w fun e w' => e = .returned (.int .u16 (upM u)) ∧ w' = w := by
  have hm : upM u = u - 1 := by
    unfold upM
    simp only [rowsL, upL]
    rw [if_neg (by simp only [hitR]; omega), if_neg (by simp only [hitR]; omega), if_neg (by simp only [hitR]; omega), if_neg (by simp only [hitR]; omega), if_neg (by simp only [hitR]; omega), if_neg (by simp only [hitR]; omega), if_neg (by simp only [hitR]; omega), if_neg (by simp only [hitR]; omega), if_neg (by simp only [hitR]; omega), if_neg (by simp only [hitR]; omega), if_neg (by simp only [hitR]; omega), if_neg (by simp only [hitR]; omega), if_pos (by simp only [hitR]; omega)]
    rfl
  rw [hm]
  have g97 : 97 ≤ u := by omega
  have g224 : 224 ≤ u := by omega
  have g248 : 248 ≤ u := by omega
  have g945 : 945 ≤ u := by omega
  have g963 : 963 ≤ u := by omega
  have g1072 : 1072 ≤ u := by omega
  have g257 : 257 ≤ u := by omega
  have g331 : 331 ≤ u := by omega
  have g1121 : 1121 ≤ u := by omega
  have g314 : 314 ≤ u := by omega
  have g1104 : 1104 ≤ u := by omega
  have l122 : ¬ u ≤ 122 := by omega
  have l246 : ¬ u ≤ 246 := by omega
  have l254 : ¬ u ≤ 254 := by omega
  have l961 : ¬ u ≤ 961 := by omega
  have l969 : ¬ u ≤ 969 := by omega
  have l1103 : ¬ u ≤ 1103 := by omega
  have l311 : ¬ u ≤ 311 := by omega
  have l375 : ¬ u ≤ 375 := by omega
  have l1153 : u ≤ 1153 := by omega
  have l328 : ¬ u ≤ 328 := by omega
  have l1119 : ¬ u ≤ 1119 := by omega
  have e255 : ¬ u = 255 := by omega
  have e962 : ¬ u = 962 := by omega
  have hpar : u % 2 = 1 := by omega
  have hw : IntKind.u16.wrap (u - 1) = u - 1 := u16_in _ (by omega) (by omega)
  clear h0 h1 hm
  go_enter Tryd.func36, Tryd.ntmps36
  go_wp2
  all_goals (go_ret; exact ⟨rfl, rfl⟩)

theorem rup_25 (u : Int) (h0 : 1121 ≤ u) (h1 : u ≤ 1153) (hp : u % 2 = 0) (w : World) : Calls Tryd.prog 36 #[.int .u16 u] w fun e w' => e = .returned (.int .u16 (upM u)) ∧ w' = w := by
  have hm : upM u = u := by
    unfold upM
    simp only [rowsL, upL]
    rw [if_neg (by simp only [hitR]; omega), if_neg (by simp only [hitR]; omega), if_neg (by simp only [hitR]; omega), if_neg (by simp only [hitR]; omega), if_neg (by simp only [hitR]; omega), if_neg (by simp only [hitR]; omega), if_neg (by simp only [hitR]; omega), if_neg (by simp only [hitR]; omega), if_neg (by simp only [hitR]; omega), if_neg (by simp only [hitR]; omega), if_neg (by simp only [hitR]; omega), if_neg (by simp only [hitR]; omega), if_neg (by simp only [hitR]; omega)]
  rw [hm]
  have g97 : 97 ≤ u := by omega
  have g224 : 224 ≤ u := by omega
  have g248 : 248 ≤ u := by omega
  have g945 : 945 ≤ u := by omega
  have g963 : 963 ≤ u := by omega
  have g1072 : 1072 ≤ u := by omega
  have g257 : 257 ≤ u := by omega
  have g331 : 331 ≤ u := by omega
  have g1121 : 1121 ≤ u := by omega
  have g314 : 314 ≤ u := by omega
  have g1104 : 1104 ≤ u := by omega
  have l122 : ¬ u ≤ 122 := by omega
  have l246 : ¬ u ≤ 246 := by omega
  have l254 : ¬ u ≤ 254 := by omega
  have l961 : ¬ u ≤ 961 := by omega
  have l969 : ¬ u ≤ 969 := by omega
  have l1103 : ¬ u ≤ 1103 := by omega
  have l311 : ¬ u ≤ 311 := by omega
  have l375 : ¬ u ≤ 375 := by omega
  have l1153 : u ≤ 1153 := by omega
  have l328 : ¬ u ≤ 328 := by omega
  have l1119 : ¬ u ≤ 1119 := by omega
  have e255 : ¬ u = 255 := by omega
  have e962 : ¬ u = 962 := by omega
  have hpar : ¬ u % 2 = 1 := by omega
  clear h0 h1 hm
  go_enter Tryd.func36, Tryd.ntmps36
  go_wp2
  all_goals (go_ret; exact ⟨rfl, rfl⟩)

theorem rup_26 (u : Int) (h0 : 1154 ≤ u) (h1 : u ≤ 65535) (w : World) : Calls Tryd.prog 36 #[.int .u16 u] w fun e w' => e = .returned (.int .u16 (upM u)) ∧ w' = w := by
  have hm : upM u = u := by
    unfold upM
    simp only [rowsL, upL]
    rw [if_neg (by simp only [hitR]; omega), if_neg (by simp only [hitR]; omega), if_neg (by simp only [hitR]; omega), if_neg (by simp only [hitR]; omega), if_neg (by simp only [hitR]; omega), if_neg (by simp only [hitR]; omega), if_neg (by simp only [hitR]; omega), if_neg (by simp only [hitR]; omega), if_neg (by simp only [hitR]; omega), if_neg (by simp only [hitR]; omega), if_neg (by simp only [hitR]; omega), if_neg (by simp only [hitR]; omega), if_neg (by simp only [hitR]; omega)]
  rw [hm]
  have g97 : 97 ≤ u := by omega
  have g224 : 224 ≤ u := by omega
  have g248 : 248 ≤ u := by omega
  have g945 : 945 ≤ u := by omega
  have g963 : 963 ≤ u := by omega
  have g1072 : 1072 ≤ u := by omega
  have g257 : 257 ≤ u := by omega
  have g331 : 331 ≤ u := by omega
  have g1121 : 1121 ≤ u := by omega
  have g314 : 314 ≤ u := by omega
  have g1104 : 1104 ≤ u := by omega
  have l122 : ¬ u ≤ 122 := by omega
  have l246 : ¬ u ≤ 246 := by omega
  have l254 : ¬ u ≤ 254 := by omega
  have l961 : ¬ u ≤ 961 := by omega
  have l969 : ¬ u ≤ 969 := by omega
  have l1103 : ¬ u ≤ 1103 := by omega
  have l311 : ¬ u ≤ 311 := by omega
  have l375 : ¬ u ≤ 375 := by omega
  have l1153 : ¬ u ≤ 1153 := by omega
  have l328 : ¬ u ≤ 328 := by omega
  have l1119 : ¬ u ≤ 1119 := by omega
  have e255 : ¬ u = 255 := by omega
  have e962 : ¬ u = 962 := by omega
  obtain ⟨q, hq⟩ : ∃ q : Bool, decide (u % 2 = 1) = q := ⟨_, rfl⟩
  clear h0 h1 hm
  go_enter Tryd.func36, Tryd.ntmps36
  go_wp2
  all_goals (go_ret; exact ⟨rfl, rfl⟩)

theorem rup_any (u : Int) (h0 : 0 ≤ u) (h1 : u ≤ 65535) (w : World) : Calls Tryd.prog 36 #[.int .u16 u] w fun e w' => e = .returned (.int .u16 (upM u)) ∧ w' = w := by
  by_cases b0 : u ≤ 96
  · exact rup_0 u (by omega) b0 w
  by_cases b1 : u ≤ 122
  · exact rup_1 u (by omega) b1 w
  by_cases b2 : u ≤ 223
  · exact rup_2 u (by omega) b2 w
  by_cases b3 : u ≤ 246
  · exact rup_3 u (by omega) b3 w
  by_cases b4 : u ≤ 247
  · exact rup_4 u (by omega) b4 w
  by_cases b5 : u ≤ 254
  · exact rup_5 u (by omega) b5 w
  by_cases b6 : u ≤ 255
  · exact rup_6 u (by omega) b6 w
  by_cases b7 : u ≤ 256
  · exact rup_7 u (by omega) b7 w
  by_cases b8 : u ≤ 311
  · by_cases hp : u % 2 = 1
    · exact rup_8 u (by omega) b8 hp w
    · exact rup_9 u (by omega) b8 (by omega) w
  by_cases b10 : u ≤ 313
  · exact rup_10 u (by omega) b10 w
  by_cases b11 : u ≤ 328
  · by_cases hp : u % 2 = 1
    · exact rup_11 u (by omega) b11 hp w
    · exact rup_12 u (by omega) b11 (by omega) w
  by_cases b13 : u ≤ 330
  · exact rup_13 u (by omega) b13 w
  by_cases b14 : u ≤ 375
  · by_cases hp : u % 2 = 1
    · exact rup_14 u (by omega) b14 hp w
    · exact rup_15 u (by omega) b14 (by omega) w
  by_cases b16 : u ≤ 944
  · exact rup_16 u (by omega) b16 w
  by_cases b17 : u ≤ 961
  · exact rup_17 u (by omega) b17 w
  by_cases b18 : u ≤ 962
  · exact rup_18 u (by omega) b18 w
  by_cases b19 : u ≤ 969
  · exact rup_19 u (by omega) b19 w
  by_cases b20 : u ≤ 1071
  · exact rup_20 u (by omega) b20 w
  by_cases b21 : u ≤ 1103
  · exact rup_21 u (by omega) b21 w
  by_cases b22 : u ≤ 1119
  · exact rup_22 u (by omega) b22 w
  by_cases b23 : u ≤ 1120
  · exact rup_23 u (by omega) b23 w
  by_cases b24 : u ≤ 1153
  · by_cases hp : u % 2 = 1
    · exact rup_24 u (by omega) b24 hp w
    · exact rup_25 u (by omega) b24 (by omega) w
  exact rup_26 u (by omega) (by omega) w
end Go.Proofs.YtmbdiimenmnfjaaDoor
/- Walks: the document's order, Raised, Compare, Same. -/
namespace Go.Proofs.YtmbdiimenmnfjaaDoor
open Go.RowKit Go.Deep
open Go.Proofs.YtmbdiimenmnfjaaDoor.PNamesNames
open Go.Proofs.YtmbdiimenmnfjaaDoorW.PrintWords (rd bt Drawn0 Kd)
set_option linter.unusedVariables false
set_option linter.unusedSimpArgs false

theorem order_l (x y : List Int) (hx : x.length ≤ 1000000) : ∀ (k i : Nat), i ≤ x.length → i ≤ y.length → 2 * x.length + 2 < 2 * i + k → archivoltref05_order.l0 k x y (i : Int) = some (cmpU (x.drop i) (y.drop i))
  | 0, i, h1, h2, h3 => by omega
  | 1, i, h1, h2, h3 => by omega
  | k + 2, i, h1, h2, h3 => by
    rw [archivoltref05_order.l0]
    by_cases hi : i < x.length
    · rw [if_pos (by omega)]
      by_cases hj : i < y.length
      · have e1 : decide ((i : Int) < (y.length : Int)) = true := by rw [decide_eq_true_eq]; omega
        have ex : rd x (i : Int) = x.getD i 0 := rfl
        have ey : rd y (i : Int) = y.getD i 0 := rfl
        rw [e1, archivoltref05_order.j1, if_pos rfl, if_pos (by omega), if_pos (by omega), if_pos (by omega), ex, ey, drop_cons hi, drop_cons hj]
        simp only [cmpU]
        by_cases q1 : x.getD i 0 < y.getD i 0
        · rw [if_pos q1, if_pos q1]
        · rw [if_neg q1, if_neg q1]
          by_cases q2 : x.getD i 0 > y.getD i 0
          · rw [if_pos q2, if_pos q2]
          · have ew : wrap64 ((i : Int) + 1) = ((i + 1 : Nat) : Int) := by rw [w64 _ (by omega) (by omega)]; rfl
            rw [if_neg q2, if_neg q2, ew]
            exact order_l x y hx k (i + 1) (by omega) (by omega) (by omega)
      · have e1 : decide ((i : Int) < (y.length : Int)) = false := by rw [decide_eq_false_iff_not]; omega
        rw [e1, archivoltref05_order.j1, if_neg (by decide), drop_cons hi, List.drop_eq_nil_of_le (by omega : y.length ≤ i), if_neg (by omega), if_pos (by omega)]
        rfl
    · rw [if_neg (by omega), archivoltref05_order.j1, if_neg (by decide), List.drop_eq_nil_of_le (by omega : x.length ≤ i)]
      by_cases hj : i < y.length
      · rw [if_pos (by omega), drop_cons hj]; rfl
      · rw [if_neg (by omega), if_neg (by omega), List.drop_eq_nil_of_le (by omega : y.length ≤ i)]; rfl
theorem rorder_any (A0 A1 : Option Addr) (c0 c1 : Nat) (x y : List Int) (w : World) (h0 : Rd w .u16 A0 x.length x) (h1 : Rd w .u16 A1 y.length y) (k0 : x.length ≤ c0) (k1 : y.length ≤ c1) (hl : x.length ≤ 1000000) :
    Calls Tryd.prog 53 #[.slice A0 x.length c0, .slice A1 y.length c1] w fun e w' => e = .returned (.int .i64 (cmpU x y)) ∧ Drawn w w' :=
  (archivoltref05_order.calls (2 * x.length + 3) A0 c0 x A1 c1 y (cmpU x y) w (rdC h0) k0 (rdC h1) k1 (by
    unfold archivoltref05_order.f
    exact order_l x y hl (2 * x.length + 3) 0 (by omega) (by omega) (by omega))).mono fun e w' h => ⟨h.1, drawn0 h.2⟩
theorem rorder_up (A0 A1 : Option Addr) (c0 c1 : Nat) (x y : List Int) (w : World) (h0 : Rd w .u16 A0 x.length (x.map upM)) (h1 : Rd w .u16 A1 y.length (y.map upM)) (k0 : x.length ≤ c0) (k1 : y.length ≤ c1) (hl : x.length ≤ 1000000) :
    Calls Tryd.prog 53 #[.slice A0 x.length c0, .slice A1 y.length c1] w fun e w' => e = .returned (.int .i64 (cmpU (x.map upM) (y.map upM))) ∧ Drawn w w' := by
  have := rorder_any A0 A1 c0 c1 (x.map upM) (y.map upM) w (by rw [map_len]; exact h0) (by rw [map_len]; exact h1) (by rw [map_len]; exact k0) (by rw [map_len]; exact k1) (by rw [map_len]; exact hl)
  rwa [map_len, map_len] at this
theorem runits_ok (s : ByteArray) (hs : s.size ≤ 100000) (x : List Int) (hg : getU s = some x) (w : World) :
    Calls Tryd.prog 34 #[.string s] w fun e w' => (∃ A c, e = .returned (.agg #[.slice A x.length c, .int .i64 0]) ∧ x.length ≤ c ∧ Rd w' .u16 A x.length x) ∧ Below w.heap.size w w' := by
  have h := runits_any s hs w
  have e : refU s = (x, 0) := by unfold refU; rw [hg]
  rw [e] at h
  exact h
theorem runits_no (s : ByteArray) (hs : s.size ≤ 100000) (hg : getU s = none) (w : World) :
    Calls Tryd.prog 34 #[.string s] w fun e w' => (∃ A c, e = .returned (.agg #[.slice A 0 c, .int .i64 4])) ∧ Below w.heap.size w w' := by
  have h := runits_any s hs w
  have e : refU s = ([], 4) := by unfold refU; rw [hg]
  rw [e] at h
  exact h.mono fun e w' ⟨⟨A, c, he, _⟩, hB⟩ => ⟨⟨_, _, he⟩, hB⟩

set_option maxRecDepth 100000 in
set_option maxHeartbeats 4000000 in
theorem rraised_any (A : Option Addr) (c : Nat) (xs : List Int) (hn : xs.length ≤ 40000) (hx : U16 xs) (w : World) (hR : Rd w .u16 A xs.length xs) :
    Calls Tryd.prog 39 #[.slice A xs.length c] w fun e w' => (∃ A' c', e = .returned (.slice A' xs.length c') ∧ xs.length ≤ c' ∧ Rd w' .u16 A' xs.length (xs.map upM)) ∧ Below w.heap.size w w' := by
  obtain ⟨i0, hi, hz0, hz1, hz2⟩ := info_parts info46
  have HR := Lib.hid hR
  have HX := Lib.hid hx
  clear hR hx
  go_enter Tryd.func39, Tryd.ntmps39
  go_wp2
  go_loopw [3, 4] (fun v i W => ∃ j : Nat, j ≤ xs.length ∧ i = .int .i64 j ∧ Hid (W.ownsRow w.heap.size 46 1 v j (numK .u16 ((xs.take j).map upM))) ∧ Hid (Below w.heap.size w W)) (fun _ i _ => xs.length - (intOf i).toNat)
  case atStart => exact ⟨0, by omega, rfl, Lib.hid (World.ownsRow_nil _ _ _ _), Lib.hid (Below.refl _ _)⟩
  case round =>
    obtain ⟨j, hj, rfl, HO, HB⟩ := hrel
    obtain ⟨Aq, cq, rfl, hcq⟩ := own_is_slice HO.out
    by_cases hlt : j < xs.length
    · have hlti : (j : Int) < xs.length := by omega
      obtain ⟨ad, hA, hcl⟩ := (HR.out.below HB.out).at_ j hlt
      subst hA
      obtain ⟨x, hx⟩ : ∃ x, xs.getD j 0 = x := ⟨_, rfl⟩
      have hxb := HX.out.get j
      rw [hx] at hcl hxb
      have htk : (xs.take (j + 1)).map upM = (xs.take j).map upM ++ [upM x] := by rw [List.take_add_one, ← hx, List.getD_eq_getElem?_getD, List.getElem?_eq_getElem hlt, List.map_append]; rfl
      obtain ⟨U, hU⟩ : ∃ U, upM x = U := ⟨_, rfl⟩
      rw [hU] at htk
      have HTK := Lib.hid htk
      have HU := Lib.hid hU
      have hbs := HB.out.size
      clear hx htk hU
      go_wp2_with (first
        | (go_at_call 36; refine (rup_any x (by omega) (by omega) _).mono ?_; rintro e w2 ⟨rfl, rfl⟩; rw [HU.out])
        | (at_builtin; refine wpList_append_own _ rfl _ _ 49 rfl w.heap.size 46 i0 (.int .u16 0) 1 2 Tryd.underlying49 hi hz0 hz1 hz2 rfl (by decide) _ j (numK .u16 ((xs.take j).map upM)) rfl (World.ownsRow.alloc HO.out _) ⟨_, 0, none⟩ 1 1 [.int .u16 U] rfl rfl (cell_new1 _ _ rfl _ _) (by simp [Value.oneCell']) (by simp only [maxLen]; omega) (by omega) (by simp; omega) ?_; intro v' w6 hown6 hgrow6 _; (have HQ6 := Lib.hid hown6); (have HB6 := Lib.hid ((below_al HB.out _).grown hgrow6 (by simp; omega) (fun kk hk => (HO.out.lt kk hk).1))); clear hown6 hgrow6))
      refine ⟨⟨j + 1, by omega, by simp, Lib.hid ?_, HB6⟩, by simp only [intOf]; omega⟩
      rw [HTK.out, numK_append]
      exact HQ6.out
    · have hie : j = xs.length := by omega
      subst hie
      have hlti : ¬ ((xs.length : Int) < xs.length) := by omega
      go_wp2
      go_ret
      have hO := HO.out
      rw [List.take_of_length_le (Nat.le_refl _)] at hO
      obtain ⟨A', c', e, hc', hRd, -⟩ := own_nums hO (by omega)
      cases e
      exact ⟨⟨_, _, rfl, hc', hRd⟩, HB.out⟩

theorem Rd.drew1 {w : World} {k : IntKind} {A : Option Addr} {n : Nat} {xs : List Int} (h : Rd w k A n xs) : Rd w.drew k A n xs := ⟨h.len, h.max, fun j hj => let ⟨ad, e, hc⟩ := h.at_ j hj; ⟨ad, e, hc⟩⟩
theorem two_at {W : World} {b : Nat} {u v : Value} {t : TypeId} (h : W.heap[b]? = some (.cells #[u, v] t (0, 0))) : W.cell? ⟨b, 0, none⟩ = some u ∧ W.cell? ⟨b, 1, none⟩ = some v ∧ W.frozen? ⟨b, 0, none⟩ = false ∧ b < W.heap.size :=
  ⟨by rw [cell_of_row _ _ _ _ _ _ h]; rfl, by rw [cell_of_row _ _ _ _ _ _ h]; rfl, by simp [World.frozen?, h], (Array.getElem?_eq_some_iff.1 h).1⟩

set_option maxRecDepth 100000 in
set_option maxHeartbeats 8000000 in
theorem rsame_any (a b : ByteArray) (ha : a.size ≤ 40000) (hb : b.size ≤ 40000) (w : World) : Calls Tryd.prog 24 #[.string a, .string b] w fun e w' => e = .returned (.bool (sameM a b)) ∧ Below w.heap.size w w' := by
  obtain ⟨C, hC⟩ : ∃ C, sameM a b = C := ⟨_, rfl⟩
  rw [hC]
  have HC := Lib.hid hC
  clear hC
  by_cases he : (a.toList == b.toList) = true
  · have hCt : C = true := by rw [← HC.out]; unfold sameM; rw [he]; rfl
    subst hCt
    go_enter Tryd.func24, Tryd.ntmps24
    go_wp2
    go_ret
    exact ⟨rfl, Below.refl _ _⟩
  · have he' : (a.toList == b.toList) = false := by simpa using he
    clear he
    cases hga : getU a with
    | none =>
      have hCf : C = false := by rw [← HC.out]; unfold sameM; rw [he', hga]; rfl
      subst hCf
      have hb2 : ∀ w, Calls Tryd.prog 34 #[.string b] w fun e w' => (∃ A n c q, e = .returned (.agg #[.slice A n c, .int .i64 q])) ∧ Below w.heap.size w w' := fun w => (runits_any b (by omega) w).mono fun e w' ⟨⟨A, c, he, _⟩, hB⟩ => ⟨⟨_, _, _, _, he⟩, hB⟩
      have HGA := Lib.hid hga
      have HB2 := Lib.hid hb2
      clear hga hb2
      go_enter Tryd.func24, Tryd.ntmps24
      go_upto_region 5 with (first
        | ((have hgd := HB1); clear hgd; go_at_call 34; refine (HB2.out _).mono ?_; rintro e w2 ⟨⟨A2, n2, c2, q2, rfl⟩, hB⟩; (have HX1 := Lib.hid (below_heap HX1.out hB)); (have HB3 := Lib.hid (below_then (below_al HB1.out _) (below_al HB1.out _).size hB)); clear hB)
        | (go_at_call 34; refine (runits_no a (by omega) HGA.out _).mono ?_; rintro e w1 ⟨⟨A1, c1, rfl⟩, hB⟩; (have HX1 := Lib.hid (heap_alloc_new w1 (.cells #[.slice A1 0 c1, .int .i64 4] 55))); (have HB1 := Lib.hid hB); clear hB))
      obtain ⟨B1, hB1⟩ : ∃ B1, w1.heap.size = B1 := ⟨_, rfl⟩
      obtain ⟨B2, hB2⟩ : ∃ B2, w2.heap.size = B2 := ⟨_, rfl⟩
      obtain ⟨W5, hW5⟩ : ∃ W5, w2.alloc (.cells #[.slice A2 n2 c2, .int .i64 q2] 55) = W5 := ⟨_, rfl⟩
      have k1 : W5.heap[B1]? = some (.cells #[.slice A1 0 c1, .int .i64 4] 55 (0, 0)) := by rw [← hW5, ← hB1]; exact heap_al HX1.out
      have k2 : W5.heap[B2]? = some (.cells #[.slice A2 n2 c2, .int .i64 q2] 55 (0, 0)) := by rw [← hW5, ← hB2]; exact heap_alloc_new _ _
      have HB5 : Hid (Below w.heap.size w W5) := Lib.hid (by rw [← hW5]; exact below_al HB3.out _)
      rw [hB1, hB2, hW5]
      obtain ⟨a0, a1, -, a3⟩ := two_at k1
      obtain ⟨b0, b1, -, b3⟩ := two_at k2
      clear hB1 hB2 hW5 k1 k2 HX1
      go_quiet (fail)
      go_wp2
      go_ret
      exact ⟨rfl, below_drewN HB5.out _⟩
    | some x =>
      cases hgb : getU b with
      | none =>
        have hCf : C = false := by rw [← HC.out]; unfold sameM; rw [he', hga, hgb]; rfl
        subst hCf
        have HGA := Lib.hid hga
        have HGB := Lib.hid hgb
        clear hga hgb
        go_enter Tryd.func24, Tryd.ntmps24
        go_upto_region 5 with (first
          | ((have hgd := HB1); clear hgd; go_at_call 34; refine (runits_no b (by omega) HGB.out _).mono ?_; rintro e w2 ⟨⟨A2, c2, rfl⟩, hB⟩; (have HX1 := Lib.hid (below_heap HX1.out hB)); (have HB3 := Lib.hid (below_then (below_al HB1.out _) (below_al HB1.out _).size hB)); clear hB)
          | (go_at_call 34; refine (runits_ok a (by omega) x HGA.out _).mono ?_; rintro e w1 ⟨⟨A1, c1, rfl, hc1, hR⟩, hB⟩; (have HX1 := Lib.hid (heap_alloc_new w1 (.cells #[.slice A1 x.length c1, .int .i64 0] 55))); (have HB1 := Lib.hid hB); clear hB hR))
        obtain ⟨B1, hB1⟩ : ∃ B1, w1.heap.size = B1 := ⟨_, rfl⟩
        obtain ⟨B2, hB2⟩ : ∃ B2, w2.heap.size = B2 := ⟨_, rfl⟩
        obtain ⟨W5, hW5⟩ : ∃ W5, w2.alloc (.cells #[.slice A2 0 c2, .int .i64 4] 55) = W5 := ⟨_, rfl⟩
        have k1 : W5.heap[B1]? = some (.cells #[.slice A1 x.length c1, .int .i64 0] 55 (0, 0)) := by rw [← hW5, ← hB1]; exact heap_al HX1.out
        have k2 : W5.heap[B2]? = some (.cells #[.slice A2 0 c2, .int .i64 4] 55 (0, 0)) := by rw [← hW5, ← hB2]; exact heap_alloc_new _ _
        have HB5 : Hid (Below w.heap.size w W5) := Lib.hid (by rw [← hW5]; exact below_al HB3.out _)
        rw [hB1, hB2, hW5]
        obtain ⟨a0, a1, -, a3⟩ := two_at k1
        obtain ⟨b0, b1, -, b3⟩ := two_at k2
        clear hB1 hB2 hW5 k1 k2 HX1
        go_quiet (fail)
        go_wp2
        go_ret
        exact ⟨rfl, below_drewN HB5.out _⟩
      | some y =>
        obtain ⟨r, hr⟩ : ∃ r, cmpU (x.map upM) (y.map upM) = r := ⟨_, rfl⟩
        have hCr : (r == 0) = C := by
          rw [← HC.out]; unfold sameM; rw [he', hga, hgb]
          simp only [Bool.false_or]
          rw [Bool.eq_iff_iff, beq_iff_eq, decide_eq_true_eq, ← hr, cmpU_zero]
        have hpx := getU_props hga
        have hpy := getU_props hgb
        have HR := Lib.hid hr
        have HXU := Lib.hid hpx.1
        have HYU := Lib.hid hpy.1
        have hlx : x.length ≤ 4096 := hpx.2.2
        have hly : y.length ≤ 4096 := hpy.2.2
        have HGA := Lib.hid hga
        have HGB := Lib.hid hgb
        clear hga hgb hpx hpy hr
        go_enter Tryd.func24, Tryd.ntmps24
        go_upto_region 5 with (first
          | ((have hgd := HB1); clear hgd; go_at_call 34; refine (runits_ok b (by omega) y HGB.out _).mono ?_; rintro e w2 ⟨⟨A2, c2, rfl, hc2, hR⟩, hB⟩; (have HX1 := Lib.hid (below_heap HX1.out hB)); (have HR1 := Lib.hid ((HR1.out.below (one_alloc _ _)).below hB)); (have HR2 := Lib.hid hR); (have HB3 := Lib.hid (below_then (below_al HB1.out _) (below_al HB1.out _).size hB)); clear hB hR)
          | (go_at_call 34; refine (runits_ok a (by omega) x HGA.out _).mono ?_; rintro e w1 ⟨⟨A1, c1, rfl, hc1, hR⟩, hB⟩; (have HX1 := Lib.hid (heap_alloc_new w1 (.cells #[.slice A1 x.length c1, .int .i64 0] 55))); (have HR1 := Lib.hid hR); (have HB1 := Lib.hid hB); clear hB hR))
        obtain ⟨B1, hB1⟩ : ∃ B1, w1.heap.size = B1 := ⟨_, rfl⟩
        obtain ⟨B2, hB2⟩ : ∃ B2, w2.heap.size = B2 := ⟨_, rfl⟩
        obtain ⟨W5, hW5⟩ : ∃ W5, w2.alloc (.cells #[.slice A2 y.length c2, .int .i64 0] 55) = W5 := ⟨_, rfl⟩
        have HX1' : Hid (W5.heap[B1]? = some (.cells #[.slice A1 x.length c1, .int .i64 0] 55 (0, 0))) := Lib.hid (by rw [← hW5, ← hB1]; exact heap_al HX1.out)
        have HX2 : Hid (W5.heap[B2]? = some (.cells #[.slice A2 y.length c2, .int .i64 0] 55 (0, 0))) := Lib.hid (by rw [← hW5, ← hB2]; exact heap_alloc_new _ _)
        have HB5 : Hid (Below w.heap.size w W5) := Lib.hid (by rw [← hW5]; exact below_al HB3.out _)
        have HRx : Hid (Rd W5 .u16 A1 x.length x) := Lib.hid (by rw [← hW5]; exact HR1.out.below (one_alloc _ _))
        have HRy : Hid (Rd W5 .u16 A2 y.length y) := Lib.hid (by rw [← hW5]; exact HR2.out.below (one_alloc _ _))
        rw [hB1, hB2, hW5]
        obtain ⟨a0, a1, -, a3⟩ := two_at HX1'.out
        obtain ⟨b0, b1, -, b3⟩ := two_at HX2.out
        clear hB1 hB2 hW5 HX1 HR1 HR2
        go_region_with (first
          | (go_at_call 53; refine (rorder_up A3 A4 c3 c4 x y _ HS1.out HS2.out hc3 hc4 (by omega)).mono ?_; rintro e w8 ⟨rfl, hD⟩; rw [HR.out]; (have HB8 := Lib.hid (below_drawn HB7.out hD)); clear hD)
          | ((have hgd := HS1); clear hgd; go_at_call 39; refine (rraised_any A2 c2 y (by omega) HYU.out _ HRy6.out).mono ?_; rintro e w7 ⟨⟨A4, c4, rfl, hc4, hR⟩, hB⟩; (have HS2 := Lib.hid hR); (have HS1 := Lib.hid (HS1.out.below hB)); (have HB7 := Lib.hid (below_then HB6.out HB6.out.size hB)); clear hB hR)
          | (go_at_call 39; refine (rraised_any A1 c1 x (by omega) HXU.out _ HRx.out.drew1).mono ?_; rintro e w6 ⟨⟨A3, c3, rfl, hc3, hR⟩, hB⟩; (have HS1 := Lib.hid hR); (have HRy6 := Lib.hid (HRy.out.drew1.below hB)); obtain ⟨a60, a61, -, a63⟩ := two_at (below_heap (w := W5.drew) HX1'.out hB); obtain ⟨b60, b61, -, b63⟩ := two_at (below_heap (w := W5.drew) HX2.out hB); (have HB6 := Lib.hid (below_then (below_drew1 HB5.out) (below_drew1 HB5.out).size hB)); clear hB hR))
        all_goals
          go_wp2
          go_ret
          exact ⟨rfl, HB8.out⟩
end Go.Proofs.YtmbdiimenmnfjaaDoor
/- The document's Check and IsShort: what was printed of them is the model. -/
namespace Go.Proofs.YtmbdiimenmnfjaaDoor
open Go.RowKit Go.Deep
open Go.Proofs.YtmbdiimenmnfjaaDoor.PNamesNames
open Go.Proofs.YtmbdiimenmnfjaaDoorW.PrintWords (rd bt Drawn0 Kd)
set_option linter.unusedVariables false
set_option linter.unusedSimpArgs false
set_option maxRecDepth 100000

theorem u16w (x : Int) (h0 : 0 ≤ x) (h1 : x ≤ 65535) : IntKind.u16.wrap x = x := by simp [IntKind.wrap, IntKind.bits, IntKind.signed]; omega
theorem drop_bts {s : ByteArray} {i : Nat} (h : i < s.size) : (bts s).drop i = (bts s).getD i 0 :: (bts s).drop (i + 1) := drop_cons (by rw [bts_len]; exact h)
theorem in_l (u : Int) (s : ByteArray) (hs : s.size ≤ 1000000) : ∀ (k i : Nat), i ≤ s.size → s.size < i + k → archivoltref05_in.l0 k u s (i : Int) = some (((bts s).drop i).any fun x => decide (x = u))
  | 0, i, h1, h2 => by omega
  | k + 1, i, h1, h2 => by
    unfold archivoltref05_in.l0
    by_cases hi : i < s.size
    · have hb := bts_bd s i
      have e1 : IntKind.u16.wrap ((bts s).getD i 0) = (bts s).getD i 0 := u16w _ (by omega) (by omega)
      rw [if_pos (by omega), if_pos (by omega), bt_bts s i hi, e1, drop_bts hi, List.any_cons]
      by_cases q : (bts s).getD i 0 = u
      · rw [if_pos q, decide_eq_true q]; rfl
      · have ew : wrap64 ((i : Int) + 1) = ((i + 1 : Nat) : Int) := by rw [w64 _ (by omega) (by omega)]; rfl
        rw [if_neg q, decide_eq_false q, Bool.false_or, ew]
        exact in_l u s hs k (i + 1) (by omega) (by omega)
    · rw [if_neg (by omega), List.drop_eq_nil_of_le (by rw [bts_len]; omega)]; rfl
theorem in_f (u : Int) (s : ByteArray) (hs : s.size ≤ 1000000) (k : Nat) (hk : s.size < k) : archivoltref05_in.f k u s = some ((bts s).any fun x => decide (x = u)) := by
  unfold archivoltref05_in.f
  have := in_l u s hs k 0 (by omega) (by omega)
  exact this

/-! The last unit, the last byte. -/
theorem encB_last (c : Int) (h0 : 0 ≤ c) : ∃ p b, encB c = p ++ [b] ∧ ((c < 128 ∧ b = c) ∨ (128 ≤ c ∧ 128 ≤ b)) := by
  unfold encB
  split
  · exact ⟨[], c, rfl, Or.inl ⟨by assumption, rfl⟩⟩
  split
  · exact ⟨[_], _, rfl, Or.inr ⟨by omega, by omega⟩⟩
  split
  · exact ⟨[_, _], _, rfl, Or.inr ⟨by omega, by omega⟩⟩
  · exact ⟨[_, _, _], _, rfl, Or.inr ⟨by omega, by omega⟩⟩
theorem text_last : ∀ (l : List Int) (u : Int), U16 (l ++ [u]) → ∃ p b, textM (l ++ [u]) = p ++ [b] ∧ ((u < 128 ∧ b = u) ∨ (128 ≤ u ∧ 128 ≤ b))
  | [], u, h => by
    have := h u (by simp)
    exact encB_last u this.1
  | [c], u, h => by
    have hc := h c (by simp)
    have hu := h u (by simp)
    simp only [List.cons_append, List.nil_append]
    by_cases q : pairU c u
    · rw [textM_pair c u [] q]
      unfold pairU at q
      obtain ⟨p, b, e, h1⟩ := encB_last (65536 + (c - 55296) * 1024 + u - 56320) (by omega)
      exact ⟨p, b, by rw [e]; simp [textM], Or.inr ⟨by omega, by omega⟩⟩
    · rw [textM_one c [u] (fun d r e => by cases e; exact q)]
      obtain ⟨p, b, e, h1⟩ := encB_last u hu.1
      exact ⟨encB c ++ p, b, by rw [show textM [u] = encB u from rfl, e, List.append_assoc], h1⟩
  | c :: d :: r, u, h => by
    simp only [List.cons_append]
    by_cases q : pairU c d
    · rw [textM_pair c d _ q]
      obtain ⟨p, b, e, h1⟩ := text_last r u (fun x hx => h x (by simp only [List.cons_append]; exact List.mem_cons_of_mem _ (List.mem_cons_of_mem _ hx)))
      exact ⟨_ ++ p, b, by rw [e, ← List.append_assoc], h1⟩
    · rw [textM_one c (d :: (r ++ [u])) (fun d' r' e => by cases e; exact q)]
      obtain ⟨p, b, e, h1⟩ := text_last (d :: r) u (fun x hx => h x (by simp only [List.cons_append] at hx ⊢; exact List.mem_cons_of_mem _ hx))
      simp only [List.cons_append] at e
      exact ⟨_ ++ p, b, by rw [e, ← List.append_assoc], h1⟩
theorem suffix_iff {s : ByteArray} {p : List Int} {b : Int} (h : bts s = p ++ [b]) (x : UInt8) : Lib.hasSuffix s.data.toList [x] = decide (b = x.toNat) := by
  have hne : s.data.toList ≠ [] := fun e => by unfold bts at h; rw [e] at h; simp at h
  obtain ⟨t, y, hty⟩ : ∃ t y, s.data.toList = t ++ [y] := ⟨_, _, (List.dropLast_concat_getLast hne).symm⟩
  unfold bts at h
  rw [hty, List.map_append] at h
  have hb := (List.append_inj' h rfl).2
  simp only [List.map_cons, List.map_nil, List.cons.injEq, and_true] at hb
  rw [hty, Bool.eq_iff_iff, decide_eq_true_eq]
  unfold Lib.hasSuffix
  rw [List.isSuffixOf_iff_suffix]
  constructor
  · rintro ⟨q, hq⟩
    have := (List.append_inj' hq rfl).2
    simp only [List.cons.injEq, and_true] at this
    rw [← hb, this]
  · intro e
    refine ⟨t, ?_⟩
    have : y = x := UInt8.toNat_inj.1 (by omega)
    rw [this]
theorem badL : bts ⟨#[34, 42, 47, 58, 60, 62, 63, 92, 124]⟩ = [34, 42, 47, 58, 60, 62, 63, 92, 124] := by decide
theorem bad_small : ∀ n : Nat, n < 128 → (([34, 42, 47, 58, 60, 62, 63, 92, 124] : List Int).any fun x => decide (x = (n : Int))) = decide (0 ≤ Lib.indexByte [34, 42, 47, 58, 60, 62, 63, 92, 124] (UInt8.ofNat n)) := by decide +kernel
theorem bad_in (u : Int) (h0 : 0 ≤ u) : (([34, 42, 47, 58, 60, 62, 63, 92, 124] : List Int).any fun x => decide (x = u)) = (decide (u < 128) && decide (0 ≤ Lib.indexByte [34, 42, 47, 58, 60, 62, 63, 92, 124] (UInt8.ofNat u.toNat))) := by
  rcases Int.lt_or_le u 128 with h | h
  · obtain ⟨n, rfl⟩ : ∃ n : Nat, u = n := ⟨u.toNat, by omega⟩
    rw [bad_small n (by omega), decide_eq_true h, Bool.true_and, Int.toNat_natCast]
  · rw [decide_eq_false (by omega : ¬ u < 128), Bool.false_and]
    simp
    omega
theorem check_l (l : List Int) (hu : U16 l) (hl : l.length ≤ 1000000) (e : Int) : ∀ (k i : Nat), i ≤ l.length → l.length + 12 < i + k → archivoltref05_Check.l0 k (l.length : Int) (i : Int) l e = some (if (l.drop i).any unitBad = true then 19 else 0)
  | 0, i, h1, h2 => by omega
  | k + 1, i, h1, h2 => by
    rw [archivoltref05_Check.l0]
    by_cases hi : i < l.length
    · have hb := hu.get i
      have ex : rd l (i : Int) = l.getD i 0 := rfl
      rw [if_pos (by omega), if_pos (by omega), if_pos (by omega), ex, drop_cons hi, List.any_cons]
      by_cases q : l.getD i 0 < 32
      · have : unitBad (l.getD i 0) = true := by unfold unitBad; rw [decide_eq_true q]; rfl
        rw [if_pos q, this, Bool.true_or, if_pos rfl]
      · rw [if_neg q, in_f _ _ (by decide) k (by have : (⟨#[34, 42, 47, 58, 60, 62, 63, 92, 124]⟩ : ByteArray).size = 9 := rfl; omega), badL, bad_in _ hb.1]
        simp only [Option.bind_some]
        have e1 : unitBad (l.getD i 0) = (decide (l.getD i 0 < 128) && decide (0 ≤ Lib.indexByte [34, 42, 47, 58, 60, 62, 63, 92, 124] (UInt8.ofNat (l.getD i 0).toNat))) := by unfold unitBad; rw [decide_eq_false q, Bool.false_or]
        rw [← e1]
        cases h : unitBad (l.getD i 0) with
        | true => rw [if_pos rfl, Bool.true_or, if_pos rfl]
        | false =>
          have ew : wrap64 ((i : Int) + 1) = ((i + 1 : Nat) : Int) := by rw [w64 _ (by omega) (by omega)]; rfl
          rw [if_neg (by decide), Bool.false_or, ew]
          exact check_l l hu hl e k (i + 1) (by omega) (by omega)
    · rw [if_neg (by omega), List.drop_eq_nil_of_le (by omega)]; rfl
theorem check_f (s : ByteArray) (hs : s.size ≤ 100000) (K : Nat) (hK : 2 * s.size + 40 ≤ K) : archivoltref05_Check.f K s = some (checkM s) := by
  unfold archivoltref05_Check.f
  rw [units_f s (by omega) K (by omega), Option.bind_some]
  obtain ⟨k, rfl⟩ : ∃ k, K = k + 1 := ⟨K - 1, by omega⟩
  unfold refU checkM
  cases hg : getU s with
  | none => simp
  | some l =>
    have hp := getU_props hg
    simp only [if_true]
    have h19 : ∀ (x : Int) (y : List Int) (z : Int), archivoltref05_Check.j0 (k + 1) x true y z = some 19 := fun x y z => by rw [archivoltref05_Check.j0]; rfl
    by_cases q1 : l.length < 1
    · rw [if_pos (by omega), h19, if_pos (Or.inl q1)]
    rw [if_neg (by omega)]
    by_cases q2 : 32 < l.length
    · rw [if_pos (by omega), h19, if_pos (Or.inr (Or.inl q2))]
    rw [if_neg (by omega)]
    have hnb : ∀ b : Bool, nameBad s = b → (l.length < 1 ∨ 32 < l.length ∨ nameBad s = true ↔ b = true) := fun b hb => ⟨fun h => by
      rcases h with h | h | h
      · exact absurd h q1
      · exact absurd h q2
      · rw [← hb]; exact h, fun h => Or.inr (Or.inr (hb.trans h))⟩
    by_cases q3 : s.toList = [46]
    · rw [if_pos q3, h19, if_pos ((hnb true (by unfold nameBad; simp [q3])).2 rfl)]
    rw [if_neg q3]
    by_cases q4 : s.toList = [46, 46]
    · rw [if_pos q4, h19, if_pos ((hnb true (by unfold nameBad; simp [q4])).2 rfl)]
    rw [if_neg q4]
    have e1 : wrap64 ((l.length : Int) - 1) = ((l.length - 1 : Nat) : Int) := by rw [w64 _ (by omega) (by omega)]; omega
    rw [e1, if_pos (by omega), if_pos (by omega)]
    obtain ⟨u, hu⟩ : ∃ u, l.getD (l.length - 1) 0 = u := ⟨_, rfl⟩
    have hne : l ≠ [] := fun e => by rw [e] at q1; simp at q1
    have hlast : l.getLast hne = u := by rw [← hu, List.getLast_eq_getElem, List.getD_eq_getElem?_getD, List.getElem?_eq_getElem (by omega)]; rfl
    have hsp : l = l.dropLast ++ [u] := by rw [← hlast]; exact (List.dropLast_concat_getLast hne).symm
    have ex : rd l ((l.length - 1 : Nat) : Int) = u := hu
    rw [ex, in_f _ _ (by decide) (k + 1) (by have : (⟨#[32, 46]⟩ : ByteArray).size = 2 := rfl; omega), show bts ⟨#[32, 46]⟩ = [32, 46] by decide, Option.bind_some]
    obtain ⟨p, b, hpb, hub⟩ := text_last l.dropLast u (by rw [← hsp]; exact hp.1)
    rw [← hsp, text_units (bts_range s) (getU_iff.1 hg).1] at hpb
    have hnbe : nameBad s = (([32, 46] : List Int).any fun x => decide (x = u)) := by
      unfold nameBad
      have n3 : (s.toList == [46]) = false := by simpa using q3
      have n4 : (s.toList == [46, 46]) = false := by simpa using q4
      rw [n3, n4, suffix_iff hpb, suffix_iff hpb, Bool.false_or, Bool.false_or, List.any_cons, List.any_cons, List.any_nil, Bool.or_false]
      have c1 : decide (b = ((32 : UInt8).toNat : Int)) = decide ((32 : Int) = u) := by
        rw [decide_eq_decide]
        have : ((32 : UInt8).toNat : Int) = 32 := rfl
        omega
      have c2 : decide (b = ((46 : UInt8).toNat : Int)) = decide ((46 : Int) = u) := by
        rw [decide_eq_decide]
        have : ((46 : UInt8).toNat : Int) = 46 := rfl
        omega
      rw [c1, c2]
    rw [← hnbe]
    cases hq : nameBad s with
    | true => rw [h19, if_pos (Or.inr (Or.inr rfl))]
    | false =>
      rw [archivoltref05_Check.j0, if_neg (by decide), if_neg (by rintro (h | h | h); exact q1 h; exact q2 h; exact absurd h (by decide))]
      have := check_l l hp.1 (by omega) 0 k 0 (by omega) (by omega)
      exact this
theorem rcheck_any (s : ByteArray) (hs : s.size ≤ 100000) (w : World) : Calls Tryd.prog 16 #[.string s] w fun e w' => e = .returned (.int .i64 (checkM s)) ∧ Below w.heap.size w w' :=
  (archivoltref05_Check.calls _ s (checkM s) w (check_f s hs _ (Nat.le_refl _))).mono fun e w' h => h

/-! Short names. -/
theorem charsL : bts ⟨#[33, 35, 36, 37, 38, 39, 40, 41, 45, 64, 94, 95, 123, 125, 126]⟩ = [33, 35, 36, 37, 38, 39, 40, 41, 45, 64, 94, 95, 123, 125, 126] := by decide
def inC (u : Int) : Bool := ([33, 35, 36, 37, 38, 39, 40, 41, 45, 64, 94, 95, 123, 125, 126] : List Int).any fun x => decide (x = u)
theorem char_small : ∀ n : Nat, n < 128 → (if (n : Int) ≥ 65 then (if (n : Int) ≤ 90 then true else (if (n : Int) ≥ 48 then (if (n : Int) ≤ 57 then true else inC n) else inC n)) else (if (n : Int) ≥ 48 then (if (n : Int) ≤ 57 then true else inC n) else inC n)) = decide ((n : Int) ∈ charL) := by decide +kernel
theorem character_f (u : Int) (h0 : 0 ≤ u) (k : Nat) (hk : 20 ≤ k) : archivoltref05_character.f k u = some (decide (u ∈ charL)) := by
  have hin : archivoltref05_in.f k u (⟨#[33, 35, 36, 37, 38, 39, 40, 41, 45, 64, 94, 95, 123, 125, 126]⟩ : ByteArray) = some (inC u) := by
    rw [in_f _ _ (by decide) k (by have : (⟨#[33, 35, 36, 37, 38, 39, 40, 41, 45, 64, 94, 95, 123, 125, 126]⟩ : ByteArray).size = 15 := rfl; omega), charsL]; rfl
  have e : archivoltref05_character.f k u = some (if u ≥ 65 then (if u ≤ 90 then true else (if u ≥ 48 then (if u ≤ 57 then true else inC u) else inC u)) else (if u ≥ 48 then (if u ≤ 57 then true else inC u) else inC u)) := by
    unfold archivoltref05_character.f
    rw [hin]
    simp only [Option.bind_some]
    split
    · split
      · rfl
      · split
        · split <;> rfl
        · rfl
    · split
      · split <;> rfl
      · rfl
  rw [e]
  congr 1
  rcases Int.lt_or_le u 128 with h | h
  · obtain ⟨n, rfl⟩ : ∃ n : Nat, u = n := ⟨u.toNat, by omega⟩
    exact char_small n (by omega)
  · rw [if_pos (by omega), if_neg (by omega), if_pos (by omega), if_neg (by omega)]
    have h1 : u ∉ charL := fun hm => by have := charL_bd u hm; omega
    rw [decide_eq_false h1]
    unfold inC
    simp
    omega
/-- Is a byte a character of short names? -/
def isC (b : Int) : Bool := decide (b ∈ charL)
/-- Behind a dot at d. -/
def finI (n d : Nat) : Bool := decide (1 ≤ d) && decide (d ≤ 8) && decide (1 ≤ n - d - 1) && decide (n - d - 1 ≤ 3)
theorem short_2 (s : ByteArray) (hs : s.size ≤ 1000000) (d : Nat) (hd : d < s.size) : ∀ (K i : Nat), i ≤ s.size → 2 * s.size + 30 ≤ 2 * i + K → archivoltref05_IsShort.l0 K s (d : Int) (i : Int) = some (((bts s).drop i).all isC && finI s.size d)
  | 0, i, h1, h2 => by omega
  | 1, i, h1, h2 => by omega
  | K + 2, i, h1, h2 => by
    rw [archivoltref05_IsShort.l0]
    by_cases hi : i < s.size
    · have hb := bts_bd s i
      have e0 : decide ((d : Int) < 0) = false := by rw [decide_eq_false]; omega
      have hj : archivoltref05_IsShort.j1 (K + 1) s (d : Int) (i : Int) false = some (((bts s).drop i).all isC && finI s.size d) := by
        have e1 : IntKind.u16.wrap ((bts s).getD i 0) = (bts s).getD i 0 := u16w _ (by omega) (by omega)
        rw [archivoltref05_IsShort.j1, if_neg (by decide), if_pos (by omega), if_pos (by omega), bt_bts s i hi, e1, character_f _ hb.1 K (by omega), Option.bind_some, drop_bts hi, List.all_cons]
        have ew : wrap64 ((i : Int) + 1) = ((i + 1 : Nat) : Int) := by rw [w64 _ (by omega) (by omega)]; rfl
        rw [ew, short_2 s hs d hd K (i + 1) (by omega) (by omega)]
        show (if isC ((bts s).getD i 0) = true then _ else _) = _
        cases isC ((bts s).getD i 0) with
        | true => rfl
        | false => rfl
      rw [if_pos (by omega), if_pos (by omega), e0, hj]
      split <;> rfl
    · have hsub : wrap64 ((wrap64 ((s.size : Int) - (d : Int))) - 1) = ((s.size - d - 1 : Nat) : Int) := by rw [w64 ((s.size : Int) - d) (by omega) (by omega), w64 _ (by omega) (by omega)]; omega
      rw [if_neg (by omega), List.drop_eq_nil_of_le (by rw [bts_len]; omega), if_neg (by omega), hsub]
      unfold finI
      rw [List.all_nil, Bool.true_and]
      by_cases q1 : 1 ≤ d
      · rw [if_pos (by omega), decide_eq_true q1]
        by_cases q2 : d ≤ 8
        · rw [if_pos (by omega), decide_eq_true q2]
          by_cases q3 : 1 ≤ s.size - d - 1
          · rw [if_pos (by omega), decide_eq_true q3]
            congr 1
            simp only [Bool.true_and]
            rw [decide_eq_decide]
            omega
          · rw [if_neg (by omega), decide_eq_false q3]; rfl
        · rw [if_neg (by omega), decide_eq_false q2]; rfl
      · rw [if_neg (by omega), decide_eq_false q1]; rfl
/-- The rounds ahead of the first dot. -/
def isR (n : Nat) : Nat → List Int → Bool
  | _, [] => decide (1 ≤ n) && decide (n ≤ 8)
  | i, b :: t => if b = 46 then t.all isC && finI n i else isC b && isR n (i + 1) t
theorem short_1 (s : ByteArray) (hs : s.size ≤ 1000000) : ∀ (K i : Nat), i ≤ s.size → 2 * s.size + 40 ≤ 2 * i + K → archivoltref05_IsShort.l0 K s (-1) (i : Int) = some (isR s.size i ((bts s).drop i))
  | 0, i, h1, h2 => by omega
  | 1, i, h1, h2 => by omega
  | K + 2, i, h1, h2 => by
    rw [archivoltref05_IsShort.l0]
    by_cases hi : i < s.size
    · have hb := bts_bd s i
      have ew : wrap64 ((i : Int) + 1) = ((i + 1 : Nat) : Int) := by rw [w64 _ (by omega) (by omega)]; rfl
      rw [if_pos (by omega), if_pos (by omega), bt_bts s i hi, drop_bts hi]
      simp only [isR]
      by_cases q : (bts s).getD i 0 = 46
      · rw [if_pos q, if_pos q, show decide ((-1 : Int) < 0) = true by decide, archivoltref05_IsShort.j1, if_pos rfl, ew, short_2 s hs i hi K (i + 1) (by omega) (by omega)]
      · have e1 : IntKind.u16.wrap ((bts s).getD i 0) = (bts s).getD i 0 := u16w _ (by omega) (by omega)
        rw [if_neg q, if_neg q, archivoltref05_IsShort.j1, if_neg (by decide), if_pos (by omega), if_pos (by omega), bt_bts s i hi, e1, character_f _ hb.1 K (by omega), Option.bind_some, ew, short_1 s hs K (i + 1) (by omega) (by omega)]
        show (if isC ((bts s).getD i 0) = true then _ else _) = _
        cases isC ((bts s).getD i 0) with
        | true => rfl
        | false => rfl
    · rw [if_neg (by omega), List.drop_eq_nil_of_le (by rw [bts_len]; omega), if_pos (by decide)]
      simp only [isR]
      by_cases q1 : 1 ≤ s.size
      · rw [if_pos (by omega), decide_eq_true q1, Bool.true_and]
        congr 1
        rw [decide_eq_decide]; omega
      · rw [if_neg (by omega), decide_eq_false q1]; rfl
theorem isR_none (n : Nat) : ∀ (x : List Int) (i : Nat), (∀ b ∈ x, b ≠ 46) → isR n i x = (x.all isC && (decide (1 ≤ n) && decide (n ≤ 8)))
  | [], i, _ => by simp [isR]
  | b :: x, i, h => by
    simp only [isR]
    rw [if_neg (h b (List.mem_cons_self ..)), isR_none n x (i + 1) (fun c hc => h c (List.mem_cons_of_mem _ hc)), List.all_cons, Bool.and_assoc]
theorem isR_dot (n : Nat) (y : List Int) : ∀ (x : List Int) (i : Nat), (∀ b ∈ x, b ≠ 46) → isR n i (x ++ 46 :: y) = (x.all isC && (y.all isC && finI n (i + x.length)))
  | [], i, _ => by simp [isR]
  | b :: x, i, h => by
    simp only [isR, List.cons_append]
    rw [if_neg (h b (List.mem_cons_self ..)), isR_dot n y x (i + 1) (fun c hc => h c (List.mem_cons_of_mem _ hc)), List.all_cons, Bool.and_assoc, List.length_cons, show i + 1 + x.length = i + (x.length + 1) by omega]
theorem isShort_R (s : ByteArray) : isShortM s = isR s.size 0 (bts s) := by
  have hd := dotAt_lt s
  unfold isShortM cutM
  by_cases h : 0 ≤ dotAt s
  · obtain ⟨d, hdd⟩ : ∃ d : Nat, dotAt s = d := ⟨(dotAt s).toNat, by omega⟩
    rw [hdd] at hd
    have hlt : d < s.size := by simpa using hd.2 (by omega)
    have h0d : (0 : Int) ≤ (d : Int) := by omega
    simp only [hdd, h0d, if_true, Int.toNat_natCast]
    have hs := Lib.indexByte_some (l := s.data.toList) (c := 46) (o := d) hdd
    have hx : ∀ b ∈ (bts s).take d, b ≠ 46 := by
      intro b hb
      obtain ⟨k, hk⟩ := List.getElem?_of_mem hb
      rw [List.getElem?_take] at hk
      split at hk
      · rename_i hkd
        intro e
        have hkl : k < s.data.toList.length := by
          have := (List.getElem?_eq_some_iff.1 hk).1
          unfold bts at this
          rwa [List.length_map] at this
        have hne := hs.2 k hkd
        rw [List.getElem?_eq_getElem hkl] at hne
        have h2 := bts_at (List.getElem?_eq_getElem hkl)
        rw [hk, e] at h2
        exact hne (congrArg some (UInt8.toNat_inj.1 (by have := Option.some.inj h2; have h46 : (46 : UInt8).toNat = 46 := rfl; omega)))
      · cases hk
    have h46 := bts_at hs.1
    have hsp : bts s = (bts s).take d ++ 46 :: (bts s).drop (d + 1) := by
      have hl : d < (bts s).length := by rw [bts_len]; exact hlt
      have e1 : (bts s)[d] = 46 := by rw [List.getElem?_eq_getElem hl] at h46; exact Option.some.inj h46
      rw [← e1, ← List.drop_eq_getElem_cons hl, List.take_append_drop]
    rw [hsp, isR_dot s.size _ _ 0 hx]
    unfold allChars
    rw [bts_append, bts_take, bts_drop, List.all_append]
    have hlen : ((bts s).take d).length = d := by rw [List.length_take, bts_len]; omega
    rw [hlen, Nat.zero_add]
    have z1 : (s.extract 0 d).size = d := by rw [ByteArray.size_extract]; omega
    have z2 : (s.extract (d + 1) s.size).size = s.size - d - 1 := by rw [ByteArray.size_extract]; omega
    have z3 : (s.extract (d + 1) s.size).toList = [] ↔ s.size - d - 1 = 0 := by
      rw [← z2, Go.ByteArray.toList_eq]
      constructor
      · intro e; have := congrArg List.length e; rwa [Array.length_toList] at this
      · intro e; exact List.length_eq_zero_iff.1 (by rw [Array.length_toList]; exact e)
    rw [z1, z2]
    have hiff : (d < 1 ∨ 8 < d ∨ 3 < s.size - d - 1 ∨ True ∧ (s.extract (d + 1) s.size).toList = []) ↔ (d < 1 ∨ 8 < d ∨ 3 < s.size - d - 1 ∨ s.size - d - 1 = 0) := by rw [z3, true_and]
    unfold finI
    by_cases q : d < 1 ∨ 8 < d ∨ 3 < s.size - d - 1 ∨ s.size - d - 1 = 0
    · rw [if_pos (hiff.2 q)]
      have : (decide (1 ≤ d) && decide (d ≤ 8) && decide (1 ≤ s.size - d - 1) && decide (s.size - d - 1 ≤ 3)) = false := by
        rw [Bool.eq_false_iff]; intro hh; simp only [Bool.and_eq_true, decide_eq_true_eq] at hh; omega
      rw [this, Bool.and_false, Bool.and_false]
    · rw [if_neg (fun h => q (hiff.1 h))]
      have : (decide (1 ≤ d) && decide (d ≤ 8) && decide (1 ≤ s.size - d - 1) && decide (s.size - d - 1 ≤ 3)) = true := by
        simp only [Bool.and_eq_true, decide_eq_true_eq]; omega
      rw [this, Bool.and_true]
      rfl
  · simp only [h, if_false]
    have hm : dotAt s = -1 := by omega
    have hno := Lib.indexByte_none (show Lib.indexByte s.data.toList 46 = -1 from hm)
    have hx : ∀ b ∈ bts s, b ≠ 46 := by
      intro b hb e
      obtain ⟨k, hk⟩ := List.getElem?_of_mem hb
      have hkl : k < s.data.toList.length := by
        have := (List.getElem?_eq_some_iff.1 hk).1
        unfold bts at this
        rwa [List.length_map] at this
      have hne := hno k
      rw [List.getElem?_eq_getElem hkl] at hne
      have h2 := bts_at (List.getElem?_eq_getElem hkl)
      rw [hk, e] at h2
      exact hne (congrArg some (UInt8.toNat_inj.1 (by have := Option.some.inj h2; have h46 : (46 : UInt8).toNat = 46 := rfl; omega)))
    rw [isR_none s.size _ 0 hx]
    have z0 : ByteArray.empty.size = 0 := rfl
    simp only [z0]
    unfold allChars
    rw [bts_append, show bts ByteArray.empty = [] from rfl, List.append_nil]
    by_cases q : s.size < 1 ∨ 8 < s.size
    · rw [if_pos (by rcases q with q | q; exact Or.inl q; exact Or.inr (Or.inl q))]
      have : (decide (1 ≤ s.size) && decide (s.size ≤ 8)) = false := by
        rw [Bool.eq_false_iff]; intro hh; simp only [Bool.and_eq_true, decide_eq_true_eq] at hh; omega
      rw [this, Bool.and_false]
    · rw [if_neg (by rintro (h | h | h | h); exact q (Or.inl h); exact q (Or.inr h); omega; exact absurd h.1 (by decide))]
      have : (decide (1 ≤ s.size) && decide (s.size ≤ 8)) = true := by
        simp only [Bool.and_eq_true, decide_eq_true_eq]; omega
      rw [this, Bool.and_true]
      rfl
theorem risShort_any (s : ByteArray) (hs : s.size ≤ 1000000) (w : World) : Calls Tryd.prog 26 #[.string s] w fun e w' => e = .returned (.bool (isShortM s)) ∧ Drawn w w' :=
  (archivoltref05_IsShort.calls (2 * s.size + 40) s (isShortM s) w (by
    unfold archivoltref05_IsShort.f
    have := short_1 s hs (2 * s.size + 40) 0 (by omega) (by omega)
    rw [isShort_R]
    exact this)).mono fun e w' h => ⟨h.1, drawn0 h.2⟩
end Go.Proofs.YtmbdiimenmnfjaaDoor
/- Patterns: what the rounds of Match come to; plain facts. -/
namespace Go.Proofs.YtmbdiimenmnfjaaDoor
open Go.RowKit Go.Deep
set_option linter.unusedVariables false
set_option linter.unusedSimpArgs false

/-- Does a part of a list that ends where the list ends have it? -/
def anyT (f : List Int → Bool) : List Int → Bool
  | [] => f []
  | a :: t => f (a :: t) || anyT f t
theorem anyT_iff (f : List Int → Bool) : ∀ l, anyT f l = true ↔ ∃ j, j ≤ l.length ∧ f (l.drop j) = true
  | [] => ⟨fun h => ⟨0, Nat.le_refl _, h⟩, fun ⟨j, hj, h⟩ => by simp only [anyT]; simpa using h⟩
  | a :: t => by
    simp only [anyT, Bool.or_eq_true, anyT_iff f t]
    constructor
    · rintro (h | ⟨j, hj, h⟩)
      · exact ⟨0, Nat.zero_le _, h⟩
      · exact ⟨j + 1, by simp; omega, h⟩
    · rintro ⟨j, hj, h⟩
      cases j with
      | zero => exact Or.inl h
      | succ j => exact Or.inr ⟨j, by simp at hj; omega, h⟩
/-- Do units match a pattern? -/
def gM : List Int → List Int → Bool
  | [] => fun l => l.isEmpty
  | c :: p => fun l => if c = 42 then anyT (gM p) l else match l with
    | [] => false
    | a :: t => (decide (c = 63) || decide (upM c = upM a)) && gM p t
theorem gM_star (p l : List Int) : gM (42 :: p) l = anyT (gM p) l := rfl
theorem gM_star_iff (p l : List Int) : gM (42 :: p) l = true ↔ ∃ j, j ≤ l.length ∧ gM p (l.drop j) = true := anyT_iff _ _
theorem gM_nil {c : Int} {p : List Int} (h : ¬ c = 42) : gM (c :: p) [] = false := by simp only [gM]; rw [if_neg h]
theorem gM_cons {c a : Int} {p t : List Int} (h : ¬ c = 42) : gM (c :: p) (a :: t) = ((decide (c = 63) || decide (upM c = upM a)) && gM p t) := by simp only [gM]; rw [if_neg h]
theorem gM_seg : ∀ (seg q x : List Int), (∀ c ∈ seg, ¬ c = 42) → gM (seg ++ q) x = true → seg.length ≤ x.length ∧ gM q (x.drop seg.length) = true
  | [], q, x, _, h => ⟨by simp, h⟩
  | c :: seg, q, [], hs, h => by
    rw [List.cons_append, gM_nil (hs c (List.mem_cons_self ..))] at h
    cases h
  | c :: seg, q, a :: x, hs, h => by
    rw [List.cons_append, gM_cons (hs c (List.mem_cons_self ..)), Bool.and_eq_true] at h
    have ih := gM_seg seg q x (fun d hd => hs d (List.mem_cons_of_mem _ hd)) h.2
    exact ⟨by simp; omega, ih.2⟩
theorem gM_empty : ∀ (q : List Int), gM q [] = q.all fun u => decide (u = 42)
  | [] => rfl
  | c :: q => by
    rw [List.all_cons]
    by_cases h : c = 42
    · subst h
      rw [gM_star]
      simp only [anyT]
      rw [gM_empty q]
      rfl
    · rw [gM_nil h, decide_eq_false h]; rfl
theorem drop_consG {xs : List Int} {i : Nat} (h : i < xs.length) : xs.drop i = xs.getD i 0 :: xs.drop (i + 1) := drop_cons h
/-- The rounds of Match. -/
theorem mGo_is (p l : List Int) (hp : p.length ≤ 64) (hl : l.length ≤ 32) : ∀ (f i k : Nat) (star : Int) (fr : Nat), i ≤ p.length → k ≤ l.length → fr ≤ k → -1 ≤ star →
    (∀ st : Nat, star = st → st < i ∧ fr + (i - st - 1) = k ∧ ∃ seg, p.drop (st + 1) = seg ++ p.drop i ∧ seg.length = i - st - 1 ∧ ∀ c ∈ seg, ¬ c = 42) →
    (l.length + 1 - fr) * 100 + (l.length - k) + (p.length - i) < f →
    (mGo p l f i k star fr = true ↔ gM (p.drop i) (l.drop k) = true ∨ ∃ st : Nat, star = st ∧ ∃ j, fr < j ∧ j ≤ l.length ∧ gM (p.drop (st + 1)) (l.drop j) = true)
  | 0, i, k, star, fr, _, _, _, _, _, hm => by omega
  | f + 1, i, k, star, fr, hi, hk, hfr, hs, hinv, hm => by
    simp only [mGo]
    by_cases hkl : k < l.length
    · rw [if_pos hkl]
      have hdl := drop_consG hkl
      by_cases h1 : i < p.length ∧ p.getD i 0 = 42
      · rw [if_pos h1]
        have hdp := drop_consG h1.1
        rw [h1.2] at hdp
        have ih := mGo_is p l hp hl f (i + 1) k i k (by omega) hk (Nat.le_refl _) (by omega) (fun st hst => by
          have : st = i := by omega
          subst this
          exact ⟨by omega, by omega, [], rfl, by simp, fun c hc => by cases hc⟩) (by omega)
        rw [ih, hdp, gM_star_iff]
        constructor
        · rintro (h | ⟨st, hst, j, hj1, hj2, h⟩)
          · exact Or.inl ⟨0, Nat.zero_le _, h⟩
          · have : st = i := by omega
            subst this
            refine Or.inl ⟨j - k, by rw [List.length_drop]; omega, ?_⟩
            rw [List.drop_drop, show k + (j - k) = j by omega]
            exact h
        · rintro (⟨j, hj, h⟩ | ⟨st, hst, j, hj1, hj2, h⟩)
          · rw [List.drop_drop] at h
            rw [List.length_drop] at hj
            rcases Nat.eq_zero_or_pos j with h0 | h0
            · subst h0; exact Or.inl h
            · exact Or.inr ⟨i, rfl, k + j, by omega, by omega, h⟩
          · obtain ⟨h2, h3, seg, h4, h5, h6⟩ := hinv st hst
            rw [h4, hdp] at h
            have hg := gM_seg seg _ _ h6 h
            rw [List.length_drop] at hg
            obtain ⟨q, hq, hg2⟩ := (gM_star_iff _ _).1 hg.2
            rw [List.drop_drop, List.drop_drop] at hg2
            rw [List.length_drop, List.length_drop] at hq
            rcases Nat.lt_or_ge k (j + (seg.length + q)) with h7 | h7
            · exact Or.inr ⟨i, rfl, j + (seg.length + q), h7, by omega, hg2⟩
            · omega
      · rw [if_neg h1]
        have hne : i < p.length → ¬ p.getD i 0 = 42 := fun h => fun e => h1 ⟨h, e⟩
        by_cases h2 : i < p.length ∧ (p.getD i 0 = 63 ∨ upM (p.getD i 0) = upM (l.getD k 0))
        · rw [if_pos h2]
          have hdp := drop_consG h2.1
          have ih := mGo_is p l hp hl f (i + 1) (k + 1) star fr (by omega) (by omega) (by omega) hs (fun st hst => by
            obtain ⟨h3, h4, seg, h5, h6, h7⟩ := hinv st hst
            refine ⟨by omega, by omega, seg ++ [p.getD i 0], by rw [h5, hdp, List.append_assoc]; rfl, by rw [List.length_append, h6]; simp; omega, fun c hc => ?_⟩
            rcases List.mem_append.1 hc with h | h
            · exact h7 c h
            · rw [List.mem_singleton.1 h]; exact hne h2.1) (by omega)
          rw [ih, hdp, hdl, gM_cons (hne h2.1)]
          have hc : (decide (p.getD i 0 = 63) || decide (upM (p.getD i 0) = upM (l.getD k 0))) = true := by simpa using h2.2
          rw [hc, Bool.true_and]
        · rw [if_neg h2]
          have hfalse : gM (p.drop i) (l.drop k) = false := by
            rw [hdl]
            rcases Nat.lt_or_ge i p.length with h | h
            · rw [drop_consG h, gM_cons (hne h)]
              have hc : (decide (p.getD i 0 = 63) || decide (upM (p.getD i 0) = upM (l.getD k 0))) = false := by
                rw [Bool.eq_false_iff]
                intro hh
                exact h2 ⟨h, by simpa using hh⟩
              rw [hc]; rfl
            · rw [List.drop_eq_nil_of_le h]; rfl
          rw [hfalse]
          by_cases h3 : star < 0
          · rw [if_pos h3]
            simp only [Bool.false_eq_true, false_or, false_iff]
            rintro ⟨st, hst, _⟩
            omega
          · rw [if_neg h3]
            obtain ⟨st, rfl⟩ : ∃ st : Nat, star = st := ⟨star.toNat, by omega⟩
            obtain ⟨h4, h5, seg, h6, h7, h8⟩ := hinv st rfl
            have ih := mGo_is p l hp hl f (st + 1) (fr + 1) st (fr + 1) (by omega) (by omega) (Nat.le_refl _) (by omega) (fun st' hst => by
              have : st' = st := by omega
              subst this
              exact ⟨by omega, by omega, [], rfl, by simp, fun c hc => by cases hc⟩) (by omega)
            rw [Int.toNat_natCast, ih]
            simp only [Bool.false_eq_true, false_or]
            constructor
            · rintro (h | ⟨st', hst, j, hj1, hj2, h⟩)
              · exact ⟨st, rfl, fr + 1, by omega, by omega, h⟩
              · exact ⟨st', hst, j, by omega, hj2, h⟩
            · rintro ⟨st', hst, j, hj1, hj2, h⟩
              have : st' = st := by omega
              subst this
              rcases Nat.lt_or_ge (fr + 1) j with h9 | h9
              · exact Or.inr ⟨st', rfl, j, h9, hj2, h⟩
              · have : j = fr + 1 := by omega
                subst this
                exact Or.inl h
    · have hke : k = l.length := by omega
      rw [if_neg hkl, List.drop_eq_nil_of_le (by omega : l.length ≤ k), gM_empty]
      constructor
      · exact fun h => Or.inl h
      · rintro (h | ⟨st, hst, j, hj1, hj2, h⟩)
        · exact h
        · obtain ⟨h4, h5, seg, h6, h7, h8⟩ := hinv st hst
          rw [h6] at h
          have := (gM_seg seg _ _ h8 h).1
          rw [List.length_drop] at this
          omega
theorem matchU_is (p l : List Int) (hp : p.length ≤ 64) (hl : l.length ≤ 32) : matchU p l = gM p l := by
  rw [Bool.eq_iff_iff]
  unfold matchU
  rw [mGo_is p l hp hl 10000 0 0 (-1) 0 (by omega) (by omega) (by omega) (by omega) (fun st h => by omega) (by omega)]
  constructor
  · rintro (h | ⟨st, h, _⟩)
    · exact h
    · omega
  · exact fun h => Or.inl h
theorem gM_plain : ∀ (a b : List Int), (∀ c ∈ a, ¬ c = 42 ∧ ¬ c = 63) → gM a b = decide (a.map upM = b.map upM)
  | [], [], _ => rfl
  | [], b :: y, _ => by simp [gM]
  | c :: a, [], h => by rw [gM_nil (h c (List.mem_cons_self ..)).1]; simp
  | c :: a, d :: b, h => by
    have hc := h c (List.mem_cons_self ..)
    rw [gM_cons hc.1, gM_plain a b (fun e he => h e (List.mem_cons_of_mem _ he)), decide_eq_false hc.2, Bool.false_or]
    by_cases q : upM c = upM d
    · rw [decide_eq_true q, Bool.true_and, decide_eq_decide]
      simp [q]
    · rw [decide_eq_false q, Bool.false_and]
      symm
      rw [decide_eq_false_iff_not]
      simp [q]
theorem gM_all (l : List Int) : gM [42] l = true := (gM_star_iff _ _).2 ⟨l.length, Nat.le_refl _, by rw [List.drop_length]; rfl⟩
theorem gM_up : ∀ (p l m : List Int), l.map upM = m.map upM → gM p l = gM p m
  | [], l, m, h => by
    have := congrArg List.length h
    rw [List.length_map, List.length_map] at this
    cases l <;> cases m <;> simp_all [gM]
  | c :: p, l, m, h => by
    have hlen : l.length = m.length := by have := congrArg List.length h; rwa [List.length_map, List.length_map] at this
    by_cases hc : c = 42
    · subst hc
      rw [Bool.eq_iff_iff, gM_star_iff, gM_star_iff]
      have hd : ∀ j, gM p (l.drop j) = gM p (m.drop j) := fun j => gM_up p _ _ (by rw [List.map_drop, List.map_drop, h])
      exact ⟨fun ⟨j, hj, h⟩ => ⟨j, by omega, by rw [← hd]; exact h⟩, fun ⟨j, hj, h⟩ => ⟨j, by omega, by rw [hd]; exact h⟩⟩
    · cases l with
      | nil => cases m with
        | nil => rfl
        | cons b y => simp at hlen
      | cons a x => cases m with
        | nil => simp at hlen
        | cons b y =>
          simp only [List.map_cons, List.cons.injEq] at h
          rw [gM_cons hc, gM_cons hc, gM_up p x y h.2, h.1]
theorem gM_tail : ∀ (p x y : List Int), gM p x = true → gM (p ++ [42]) (x ++ y) = true
  | [], x, y, h => gM_all _
  | c :: p, x, y, h => by
    by_cases hc : c = 42
    · subst hc
      obtain ⟨j, hj, hg⟩ := (gM_star_iff _ _).1 h
      rw [List.cons_append]
      refine (gM_star_iff _ _).2 ⟨j, by rw [List.length_append]; omega, ?_⟩
      rw [List.drop_append_of_le_length hj]
      exact gM_tail p _ y hg
    · cases x with
      | nil => rw [gM_nil hc] at h; cases h
      | cons a x =>
        rw [gM_cons hc, Bool.and_eq_true] at h
        rw [List.cons_append, List.cons_append, gM_cons hc, h.1, Bool.true_and]
        exact gM_tail p x y h.2
theorem gM_two : ∀ (x y l : List Int), gM (x ++ 42 :: 42 :: y) l = gM (x ++ 42 :: y) l
  | [], y, l => by
    rw [List.nil_append, List.nil_append, Bool.eq_iff_iff, gM_star_iff, gM_star_iff]
    constructor
    · rintro ⟨j, hj, h⟩
      obtain ⟨q, hq, h2⟩ := (gM_star_iff _ _).1 h
      rw [List.drop_drop] at h2
      rw [List.length_drop] at hq
      exact ⟨j + q, by omega, h2⟩
    · rintro ⟨j, hj, h⟩
      exact ⟨j, hj, (gM_star_iff _ _).2 ⟨0, Nat.zero_le _, h⟩⟩
  | c :: x, y, l => by
    by_cases hc : c = 42
    · subst hc
      rw [List.cons_append, List.cons_append, Bool.eq_iff_iff, gM_star_iff, gM_star_iff]
      exact ⟨fun ⟨j, hj, h⟩ => ⟨j, hj, by rw [← gM_two]; exact h⟩, fun ⟨j, hj, h⟩ => ⟨j, hj, by rw [gM_two]; exact h⟩⟩
    · cases l with
      | nil => rw [List.cons_append, List.cons_append, gM_nil hc, gM_nil hc]
      | cons a t => rw [List.cons_append, List.cons_append, gM_cons hc, gM_cons hc, gM_two]

/-! Stars in the bytes. -/
theorem goL_star (t : List Int) : ∀ (k : Nat) (s : List Int) (c : Int), goL k (s ++ 42 :: t) c = goL k s c
  | 0, s, c => rfl
  | k + 1, [], c => by simp [goL]
  | k + 1, b :: s, c => by
    simp only [List.cons_append, goL]
    split
    · exact goL_star t k s _
    · rfl
theorem point_star (b : Int) (s t : List Int) : pointM (b :: (s ++ 42 :: t)) = pointM (b :: s) := by
  rw [pointM_cons, pointM_cons, goL_star, goL_star, goL_star]
theorem unitsF_mono : ∀ (f g : Nat) (s : List Int) (b : Int), (∀ x ∈ s, 0 ≤ x ∧ x ≤ 255) → s.length < f → s.length < g → unitsF f s b = unitsF g s b
  | 0, g, s, b, _, h, _ => by omega
  | f + 1, 0, s, b, _, _, h => by omega
  | f + 1, g + 1, s, b, hs, h1, h2 => by
    unfold unitsF
    by_cases he : s = []
    · rw [if_pos he, if_pos he]
    · rw [if_neg he, if_neg he]
      cases hp : pointM s with
      | none => rfl
      | some cn =>
        obtain ⟨c, n⟩ := cn
        have hb := pointM_bd he (getD_nonneg hs 0) hp
        simp only [stepU]
        rw [unitsF_mono f g (s.drop n) c (fun x hx => hs x (mem_drop' hx)) (by rw [List.length_drop]; omega) (by rw [List.length_drop]; omega)]
theorem unitsF_low (f : Nat) (s : List Int) (b b' : Int) (hb : ¬ (55296 ≤ b ∧ b < 56320)) (hb' : ¬ (55296 ≤ b' ∧ b' < 56320)) : unitsF f s b = unitsF f s b' := by
  cases f with
  | zero => rfl
  | succ f =>
    unfold unitsF
    split
    · rfl
    · cases pointM s with
      | none => rfl
      | some cn =>
        simp only [stepU]
        rw [if_neg (fun h => hb ⟨h.1, h.2.1⟩), if_neg (fun h => hb' ⟨h.1, h.2.1⟩)]
theorem unitsF_eqn (g : Nat) (s : List Int) (b : Int) : unitsF (g + 1) s b = if s = [] then some [] else stepU b s (unitsF g) (pointM s) := rfl
/-- A star parts the bytes. -/
theorem units_star (t : List Int) (ht : ∀ x ∈ t, 0 ≤ x ∧ x ≤ 255) : ∀ (f : Nat) (s : List Int) (b : Int), (∀ x ∈ s, 0 ≤ x ∧ x ≤ 255) → s.length + t.length + 1 < f →
    unitsF f (s ++ 42 :: t) b = (unitsF f s b).bind fun x => (unitsM t).map fun y => x ++ 42 :: y
  | 0, s, b, _, h => by omega
  | f + 1, [], b, hs, h => by
    have e1 : unitsF (f + 1) ([] ++ 42 :: t) b = (unitsF f t 42).map ([42] ++ ·) := by
      rw [List.nil_append, unitsF_eqn, if_neg (by simp), pointM_cons, if_pos (by decide)]
      simp only [stepU]
      rw [if_neg (by omega), List.drop_succ_cons, List.drop_zero, encU_1 (by decide)]
    have e2 : unitsF (f + 1) [] b = some [] := by rw [unitsF_eqn, if_pos rfl]
    have e3 : unitsF f t 42 = unitsM t := by
      unfold unitsM
      rw [unitsF_low f t 42 0 (by omega) (by omega)]
      exact unitsF_mono _ _ _ _ ht (by simp at h; omega) (by omega)
    rw [e1, e2, e3]
    rfl
  | f + 1, c0 :: s, b, hs, h => by
    have hL : unitsF (f + 1) (c0 :: s ++ 42 :: t) b = stepU b (c0 :: s ++ 42 :: t) (unitsF f) (pointM (c0 :: s)) := by
      unfold unitsF
      rw [if_neg (by simp), List.cons_append, point_star]
    have hR : unitsF (f + 1) (c0 :: s) b = stepU b (c0 :: s) (unitsF f) (pointM (c0 :: s)) := by
      unfold unitsF
      rw [if_neg (by simp)]
    rw [hL, hR]
    cases hp : pointM (c0 :: s) with
    | none => rfl
    | some cn =>
      obtain ⟨c, n⟩ := cn
      have hb := pointM_bd (by simp) (getD_nonneg hs 0) hp
      simp only [stepU]
      by_cases hq : 55296 ≤ b ∧ b < 56320 ∧ 56320 ≤ c ∧ c < 57344
      · rw [if_pos hq, if_pos hq]; rfl
      · rw [if_neg hq, if_neg hq, List.drop_append_of_le_length hb.2.2.2.2, units_star t ht f ((c0 :: s).drop n) c (fun x hx => hs x (mem_drop' hx)) (by rw [List.length_drop]; simp at h ⊢; omega)]
        cases unitsF f ((c0 :: s).drop n) c with
        | none => rfl
        | some x =>
          simp only [Option.bind_some, Option.map_some]
          cases unitsM t with
          | none => rfl
          | some y => simp
theorem unitsM_star (s t : List Int) (hs : ∀ x ∈ s, 0 ≤ x ∧ x ≤ 255) (ht : ∀ x ∈ t, 0 ≤ x ∧ x ≤ 255) : unitsM (s ++ 42 :: t) = (unitsM s).bind fun x => (unitsM t).map fun y => x ++ 42 :: y := by
  have h := units_star t ht (s.length + t.length + 2) s 0 hs (by omega)
  have e1 : unitsF (s.length + t.length + 2) s 0 = unitsM s := unitsF_mono _ _ _ _ hs (by omega) (by omega)
  rw [e1] at h
  rw [← h]
  unfold unitsM
  exact unitsF_mono _ _ _ _ (fun x hx => by
    rcases List.mem_append.1 hx with h | h
    · exact hs x h
    · rcases List.mem_cons.1 h with h | h
      · omega
      · exact ht x h) (by omega) (by rw [List.length_append, List.length_cons]; omega)
/-- A pattern with a star, and with one more beside it. -/
theorem star_more {s t : List Int} (hs : ∀ x ∈ s, 0 ≤ x ∧ x ≤ 255) (ht : ∀ x ∈ t, 0 ≤ x ∧ x ≤ 255) {r : List Int} (h : unitsM (s ++ 42 :: 42 :: t) = some r) :
    ∃ x y, r = x ++ 42 :: 42 :: y ∧ unitsM (s ++ 42 :: t) = some (x ++ 42 :: y) := by
  have h42 : ∀ x ∈ (42 :: t : List Int), 0 ≤ x ∧ x ≤ 255 := fun x hx => by
    rcases List.mem_cons.1 hx with h | h
    · omega
    · exact ht x h
  rw [unitsM_star s (42 :: t) hs h42] at h
  have h2 := unitsM_star [] t (fun x hx => by cases hx) ht
  rw [List.nil_append] at h2
  rw [unitsM_star s t hs ht]
  cases hus : unitsM s with
  | none => rw [hus] at h; cases h
  | some x =>
    rw [hus] at h
    simp only [Option.bind_some] at h ⊢
    cases hut : unitsM t with
    | none => rw [h2, hut] at h; simp [unitsM, unitsF] at h
    | some y =>
      rw [h2, hut] at h
      have e0 : unitsM ([] : List Int) = some [] := rfl
      rw [e0] at h
      simp only [Option.bind_some, Option.map_some, List.nil_append, Option.some.injEq] at h
      exact ⟨x, y, h.symm, rfl⟩
/-- A star behind a pattern. -/
theorem star_behind {p : List Int} (hp : ∀ x ∈ p, 0 ≤ x ∧ x ≤ 255) : unitsM (p ++ [42]) = (unitsM p).map fun x => x ++ [42] := by
  rw [unitsM_star p [] hp (fun x hx => by cases hx)]
  cases unitsM p with
  | none => rfl
  | some x => rfl
/-- What Match says of a name. -/
theorem match_name {q a : ByteArray} {u : List Int} (ha : checkM a = 0) (hu : getU a = some u) :
    (matchM q a).2 = 0 → ∃ r, getU q = some r ∧ r.length ≤ 64 ∧ (matchM q a).1 = gM r u := by
  obtain ⟨u', hu', -, h32, -⟩ := check_units ha
  rw [hu] at hu'
  cases hu'
  unfold matchM
  cases hq : getU q with
  | none => intro h; cases h
  | some r =>
    simp only
    by_cases hl : 64 < r.length
    · rw [if_pos hl]; intro h; cases h
    · rw [if_neg hl, if_neg (by rw [ha]; decide), hu]
      intro _
      exact ⟨r, rfl, by omega, matchU_is r u (by omega) h32⟩
theorem match_errs {q a b : ByteArray} (ha : checkM a = 0) (hb : checkM b = 0) : (matchM q a).2 = (matchM q b).2 := by
  obtain ⟨u, hu, -⟩ := check_units ha
  obtain ⟨v, hv, -⟩ := check_units hb
  unfold matchM
  cases hq : getU q with
  | none => rfl
  | some r =>
    simp only
    split
    · rfl
    · rw [if_neg (by rw [ha]; decide), if_neg (by rw [hb]; decide), hu, hv]
theorem match_ok {q a : ByteArray} {r u : List Int} (ha : checkM a = 0) (hu : getU a = some u) (hq : getU q = some r) (hl : r.length ≤ 64) : matchM q a = (gM r u, 0) := by
  obtain ⟨u', hu', -, h32, -⟩ := check_units ha
  rw [hu] at hu'
  cases hu'
  unfold matchM
  rw [hq]
  simp only
  rw [if_neg (by omega), if_neg (by rw [ha]; decide), hu]
  simp only
  rw [matchU_is r u hl h32]
theorem name_plain {a : ByteArray} {u : List Int} (ha : checkM a = 0) (hu : getU a = some u) : ∀ c ∈ u, ¬ c = 42 ∧ ¬ c = 63 := by
  obtain ⟨u', hu', -, -, -, hb⟩ := check_units ha
  rw [hu] at hu'
  cases hu'
  rw [List.any_eq_false] at hb
  intro c hc
  have h1 := hb c hc
  refine ⟨fun e => h1 (by rw [e]; decide), fun e => h1 (by rw [e]; decide)⟩
end Go.Proofs.YtmbdiimenmnfjaaDoor
/- The table of beginnings, plain: which beginnings of a name the beginnings of a pattern match. -/
namespace Go.Proofs.YtmbdiimenmnfjaaDoor
open Go.RowKit Go.Deep
set_option linter.unusedVariables false
set_option linter.unusedSimpArgs false

theorem gM_end (c : Int) (hc : ¬ c = 42) : ∀ q : List Int, gM (q ++ [c]) [] = false
  | [] => gM_nil hc
  | b :: q => by
    by_cases hb : b = 42
    · subst hb
      rw [List.cons_append, gM_star]
      exact gM_end c hc q
    · exact gM_nil hb
theorem gM_snoc (c a : Int) (hc : ¬ c = 42) : ∀ q x : List Int, gM (q ++ [c]) (x ++ [a]) = (gM q x && (decide (c = 63) || decide (upM c = upM a)))
  | [], [] => by
    show gM [c] [a] = _
    rw [gM_cons hc]
    simp [gM]
  | [], b :: x => by
    show gM [c] (b :: (x ++ [a])) = _
    rw [gM_cons hc]
    have h1 : gM [] (x ++ [a]) = false := by simp [gM]
    have h2 : gM [] (b :: x) = false := rfl
    rw [h1, h2]; simp
  | b :: q, x => by
    by_cases hb : b = 42
    · subst hb
      rw [List.cons_append, Bool.eq_iff_iff, gM_star_iff, Bool.and_eq_true, gM_star_iff]
      constructor
      · rintro ⟨j, hj, h⟩
        by_cases hjx : j ≤ x.length
        · rw [List.drop_append_of_le_length hjx, gM_snoc c a hc q] at h
          rw [Bool.and_eq_true] at h
          exact ⟨⟨j, hjx, h.1⟩, h.2⟩
        · rw [List.length_append, List.length_singleton] at hj
          rw [List.drop_eq_nil_of_le (by rw [List.length_append, List.length_singleton]; omega), gM_end c hc] at h
          cases h
      · rintro ⟨⟨j, hj, h⟩, h2⟩
        refine ⟨j, by rw [List.length_append]; omega, ?_⟩
        rw [List.drop_append_of_le_length hj, gM_snoc c a hc q, h, h2]; rfl
    · cases x with
      | nil =>
        show gM (b :: (q ++ [c])) [a] = _
        rw [gM_cons hb, gM_nil hb, gM_end c hc]
        simp
      | cons y x =>
        show gM (b :: (q ++ [c])) (y :: (x ++ [a])) = _
        rw [gM_cons hb, gM_cons hb, gM_snoc c a hc q x, Bool.and_assoc]
theorem gM_snoc_star : ∀ q x : List Int, gM (q ++ [42]) x = true ↔ ∃ j, j ≤ x.length ∧ gM q (x.take j) = true := by
  intro q x
  constructor
  · induction q generalizing x with
    | nil => exact fun _ => ⟨0, Nat.zero_le _, rfl⟩
    | cons b q ih =>
      intro h
      by_cases hb : b = 42
      · subst hb
        rw [List.cons_append, gM_star_iff] at h
        obtain ⟨i, hi, h⟩ := h
        obtain ⟨j, hj, h⟩ := ih _ h
        rw [List.length_drop] at hj
        refine ⟨i + j, by omega, (gM_star_iff _ _).2 ⟨i, by rw [List.length_take]; omega, ?_⟩⟩
        rw [List.drop_take, show i + j - i = j from by omega]
        exact h
      · cases x with
        | nil => rw [List.cons_append, gM_nil hb] at h; cases h
        | cons y x =>
          rw [List.cons_append, gM_cons hb, Bool.and_eq_true] at h
          obtain ⟨j, hj, h2⟩ := ih _ h.2
          refine ⟨j + 1, by simp; omega, ?_⟩
          rw [List.take_succ_cons, gM_cons hb, h.1, h2]; rfl
  · rintro ⟨j, hj, h⟩
    have := gM_tail q (x.take j) (x.drop j) h
    rwa [List.take_append_drop] at this

/-- Does the beginning of i units of the pattern match that of k units of the name? -/
def tabM (r u : List Int) (i k : Nat) : Bool := gM (r.take i) (u.take k)
theorem take_more {r : List Int} {i : Nat} (hi : i < r.length) : r.take (i + 1) = r.take i ++ [r.getD i 0] := by
  rw [List.take_add_one, List.getD_eq_getElem?_getD, List.getElem?_eq_getElem hi]; rfl
theorem tab_first (r u : List Int) (k : Nat) (hk : k ≤ u.length) : tabM r u 0 k = decide (k = 0) := by
  unfold tabM
  rw [List.take_zero]
  show (u.take k).isEmpty = _
  cases k with
  | zero => rfl
  | succ k =>
    cases u with
    | nil => simp at hk
    | cons a t => simp
theorem tab_last (r u : List Int) : tabM r u r.length u.length = gM r u := by
  unfold tabM; rw [List.take_of_length_le (Nat.le_refl _), List.take_of_length_le (Nat.le_refl _)]
theorem tab_star_iff {r u : List Int} {i k : Nat} (hi : i < r.length) (hc : r.getD i 0 = 42) (hk : k ≤ u.length) : tabM r u (i + 1) k = true ↔ ∃ j, j ≤ k ∧ tabM r u i j = true := by
  unfold tabM
  rw [take_more hi, hc, gM_snoc_star, List.length_take]
  constructor
  · rintro ⟨j, hj, h⟩
    rw [List.take_take, Nat.min_eq_left (by omega)] at h
    exact ⟨j, by omega, h⟩
  · rintro ⟨j, hj, h⟩
    refine ⟨j, by omega, ?_⟩
    rw [List.take_take, Nat.min_eq_left (by omega)]
    exact h
theorem tab_star {r u : List Int} {i k : Nat} (hi : i < r.length) (hc : r.getD i 0 = 42) (hk : k ≤ u.length) : tabM r u (i + 1) k = (tabM r u i k || (decide (0 < k) && tabM r u (i + 1) (k - 1))) := by
  rw [Bool.eq_iff_iff, Bool.or_eq_true, Bool.and_eq_true, decide_eq_true_eq, tab_star_iff hi hc hk, tab_star_iff hi hc (by omega)]
  constructor
  · rintro ⟨j, hj, h⟩
    by_cases hjk : j = k
    · subst hjk; exact Or.inl h
    · exact Or.inr ⟨by omega, j, by omega, h⟩
  · rintro (h | ⟨h0, j, hj, h⟩)
    · exact ⟨k, Nat.le_refl _, h⟩
    · exact ⟨j, by omega, h⟩
theorem tab_zero {r u : List Int} {i : Nat} (hi : i < r.length) (hc : ¬ r.getD i 0 = 42) : tabM r u (i + 1) 0 = false := by
  unfold tabM
  rw [take_more hi, List.take_zero, gM_end _ hc]
theorem tab_one {r u : List Int} {i k : Nat} (hi : i < r.length) (hc : ¬ r.getD i 0 = 42) (hk : k < u.length) : tabM r u (i + 1) (k + 1) = (tabM r u i k && (decide (r.getD i 0 = 63) || decide (upM (r.getD i 0) = upM (u.getD k 0)))) := by
  unfold tabM
  rw [take_more hi, take_more hk, gM_snoc _ _ hc]

/-- A row of the table. -/
def rowM (r u : List Int) (i : Nat) : List Bool := (List.range (u.length + 1)).map fun k => tabM r u i k
/-- A row of which the first k are there. -/
def partM (r u : List Int) (i k : Nat) : List Bool := (List.range (u.length + 1)).map fun j => decide (j < k) && tabM r u i j
theorem rowM_len (r u : List Int) (i : Nat) : (rowM r u i).length = u.length + 1 := by simp [rowM]
theorem partM_len (r u : List Int) (i k : Nat) : (partM r u i k).length = u.length + 1 := by simp [partM]
theorem rowM_at (r u : List Int) (i k : Nat) (hk : k ≤ u.length) : (rowM r u i).getD k false = tabM r u i k := by
  unfold rowM
  rw [List.getD_eq_getElem?_getD, List.getElem?_map, List.getElem?_range (by omega)]; rfl
theorem partM_at (r u : List Int) (i k j : Nat) (hj : j ≤ u.length) : (partM r u i k).getD j false = (decide (j < k) && tabM r u i j) := by
  unfold partM
  rw [List.getD_eq_getElem?_getD, List.getElem?_map, List.getElem?_range (by omega)]; rfl
theorem partM_none (r u : List Int) (i : Nat) : partM r u i 0 = List.replicate (u.length + 1) false := by
  unfold partM
  rw [List.eq_replicate_iff]
  exact ⟨by simp, fun b hb => by obtain ⟨j, -, rfl⟩ := List.mem_map.1 hb; simp⟩
theorem partM_all (r u : List Int) (i : Nat) : partM r u i (u.length + 1) = rowM r u i := by
  unfold partM rowM
  refine List.map_congr_left fun j hj => ?_
  rw [List.mem_range] at hj
  rw [decide_eq_true hj]; rfl
theorem partM_set (r u : List Int) (i k : Nat) (hk : k ≤ u.length) (v : Bool) (hv : tabM r u i k = v) : (partM r u i k).set k v = partM r u i (k + 1) := by
  refine List.ext_getElem? fun j => ?_
  unfold partM
  by_cases hj : j < u.length + 1
  · by_cases hjk : j = k
    · subst hjk
      rw [List.getElem?_set_self (by simp; omega), List.getElem?_map, List.getElem?_range hj, ← hv]
      simp
    · rw [List.getElem?_set_ne (by omega), List.getElem?_map, List.getElem?_map, List.getElem?_range hj]
      simp only [Option.map_some, Option.some.injEq]
      rw [show decide (j < k + 1) = decide (j < k) from by rw [decide_eq_decide]; omega]
  · rw [List.getElem?_eq_none (by simp; omega), List.getElem?_eq_none (by simp; omega)]
theorem partM_skip (r u : List Int) (i k : Nat) (hv : tabM r u i k = false) : partM r u i k = partM r u i (k + 1) := by
  unfold partM
  refine List.map_congr_left fun j hj => ?_
  by_cases hjk : j = k
  · subst hjk; rw [hv]; simp
  · rw [show decide (j < k + 1) = decide (j < k) from by rw [decide_eq_decide]; omega]
theorem rowM_first (r u : List Int) : rowM r u 0 = (List.replicate (u.length + 1) false).set 0 true := by
  refine List.ext_getElem? fun j => ?_
  unfold rowM
  by_cases hj : j < u.length + 1
  · rw [List.getElem?_map, List.getElem?_range hj, Option.map_some, tab_first _ _ _ (by omega)]
    by_cases h0 : j = 0
    · subst h0
      rw [List.getElem?_set_self (by simp)]; rfl
    · rw [List.getElem?_set_ne (by omega), List.getElem?_replicate, if_pos hj, decide_eq_false h0]
  · rw [List.getElem?_eq_none (by simp; omega), List.getElem?_eq_none (by simp; omega)]
end Go.Proofs.YtmbdiimenmnfjaaDoor
/- Walk: the document's Match. -/
namespace Go.Proofs.YtmbdiimenmnfjaaDoor
open Go.RowKit Go.Deep
set_option linter.unusedVariables false
set_option linter.unusedSimpArgs false

theorem two_frz {W : World} {b : Nat} {u v : Value} {t : TypeId} (h : W.heap[b]? = some (.cells #[u, v] t (0, 0))) : W.frozen? ⟨b, 1, none⟩ = false := by simp [World.frozen?, h]
theorem set_two {w W W' : World} {b : Nat} {u v u' v' : Value} {t : TypeId} (h : W.heap[b]? = some (.cells #[u, v] t (0, 0))) (hB : Below w.heap.size w W) (hb : w.heap.size ≤ b) (e : ((W.setCell ⟨b, 0, none⟩ u').setCell ⟨b, 1, none⟩ v') = W') :
    W'.cell? ⟨b, 0, none⟩ = some u' ∧ W'.cell? ⟨b, 1, none⟩ = some v' ∧ Below w.heap.size w W' := by
  subst e
  refine ⟨?_, ?_, below_st (below_st hB hb) hb⟩
  · rw [World.cell?_setCell_other _ _ _ _ (by simp)]
    exact World.cell?_setCell_same _ _ _ (two_at h).1
  · exact World.cell?_setCell_same (u := v) _ _ _ (by rw [World.cell?_setCell_other _ _ _ _ (by simp)]; exact (two_at h).2.1)
def boolsV (xs : List Bool) : List Value := xs.map Value.bool
theorem info4 : (Tryd.prog.info? 4).map (fun i => (i.zero, i.size, i.bytes)) = some (some (.bool false), 1, 1) := by kernel_rfl
theorem bools_at {w : World} {base n g c : Nat} {xs : List Bool} (h : w.ownsRow base 4 1 (.slice (some ⟨g, 0, none⟩) n c) n (boolsV xs)) (j : Nat) (hj : j < n) : w.cell? ⟨g, j, none⟩ = some (.bool (xs.getD j false)) := by
  have hl : xs.length = n := by have := h.1; simpa [boolsV] using this
  have hc := h.cells (g := g) rfl j (.bool (xs.getD j false)) (by
    simp only [boolsV, List.getElem?_map]
    rw [List.getElem?_eq_getElem (by omega)]
    simp [List.getD_eq_getElem?_getD, List.getElem?_eq_getElem (show j < xs.length by omega)])
  rwa [Addr.add_lit, Nat.zero_add] at hc
theorem boolsV_set (xs : List Bool) (j : Nat) (v : Bool) : (boolsV xs).set j (.bool v) = boolsV (xs.set j v) := by simp [boolsV, List.map_set]
theorem far_ofB {g1 g2 n c o : Nat} (h : ¬ g1 = g2) : ∀ k, (Value.slice (some ⟨g1, 0, none⟩) n c).ownBlock = some k → k ≠ (⟨g2, o, none⟩ : Addr).block := by
  intro k hk
  have : g1 = k := by simpa [Value.ownBlock] using hk
  subst this
  exact h
/-- One entry of the next row is written. -/
theorem tab_put {W w0 : World} {b g8 g10 N : Nat} {r u : List Int} {i k : Nat} (HA : Hid (W.ownsRow b 4 1 (.slice (some ⟨g8, 0, none⟩) N N) N (boolsV (rowM r u i)))) (HQ : Hid (W.ownsRow b 4 1 (.slice (some ⟨g10, 0, none⟩) N N) N (boolsV (partM r u (i + 1) k))))
    (hne : ¬ g8 = g10) (HB : Hid (Below b w0 W)) (hk : k ≤ u.length) (v : Bool) (hv : tabM r u (i + 1) k = v) (W' : World) (e : W.setCell ⟨g10, k, none⟩ (.bool v) = W') :
    Hid (W'.ownsRow b 4 1 (.slice (some ⟨g8, 0, none⟩) N N) N (boolsV (rowM r u i))) ∧ Hid (W'.ownsRow b 4 1 (.slice (some ⟨g10, 0, none⟩) N N) N (boolsV (partM r u (i + 1) (k + 1)))) ∧ Hid (Below b w0 W') := by
  subst e
  refine ⟨Lib.hid (own_far HA.out (far_ofB hne)), Lib.hid ?_, Lib.hid (below_st' HB.out (HQ.out.lt g10 rfl).1)⟩
  have h1 := (World.ownsRow.stored HQ.out k (.bool v)).1
  rw [boolsV_set, partM_set r u (i + 1) k hk v hv] at h1
  exact h1

set_option maxRecDepth 100000 in
set_option maxHeartbeats 8000000 in
theorem rmatch_any (p a : ByteArray) (hp : p.size ≤ 40000) (ha : a.size ≤ 40000) (w : World) : Calls Tryd.prog 30 #[.string p, .string a] w fun e w' => e = .returned (.agg #[.bool (matchM p a).1, .int .i64 (matchM p a).2]) ∧ Below w.heap.size w w' := by
  cases hg : getU p with
  | none =>
    have hM : matchM p a = (false, 4) := by unfold matchM; rw [hg]
    rw [hM]
    have HG := Lib.hid hg
    clear hg hM
    go_enter Tryd.func30, Tryd.ntmps30
    go_upto_region 2 with (go_at_call 34; refine (runits_no p (by omega) HG.out _).mono ?_; rintro e w1 ⟨⟨A1, c1, rfl⟩, hB⟩; (have HX4 := Lib.hid (below_heap (heap_alloc_new w (.cells #[.bool false, .int .i64 0] 43)) hB)); (have HB1 := Lib.hid (below_then (below_al (Below.refl w.heap.size w) (.cells #[.bool false, .int .i64 0] 43)) (below_al (Below.refl w.heap.size w) (.cells #[.bool false, .int .i64 0] 43)).size hB)); clear hB)
    obtain ⟨B4, hB4⟩ : ∃ B, w.heap.size = B := ⟨_, rfl⟩
    obtain ⟨B5, hB5⟩ : ∃ B, w1.heap.size = B := ⟨_, rfl⟩
    obtain ⟨W5, hW5⟩ : ∃ W5, w1.alloc (.cells #[.slice A1 0 c1, .int .i64 4] 55) = W5 := ⟨_, rfl⟩
    have HX4' : Hid (W5.heap[B4]? = some (.cells #[.bool false, .int .i64 0] 43 (0, 0))) := Lib.hid (by rw [← hW5, ← hB4]; exact heap_al HX4.out)
    have HX5 : Hid (W5.heap[B5]? = some (.cells #[.slice A1 0 c1, .int .i64 4] 55 (0, 0))) := Lib.hid (by rw [← hW5, ← hB5]; exact heap_alloc_new _ _)
    have HB6 : Hid (Below w.heap.size w W5) := Lib.hid (by rw [← hW5]; exact below_al HB1.out _)
    skip
    have HB4 := Lib.hid hB4
    rw [hB4, hB5, hW5]
    clear hB4 hB5 hW5 HX4
    obtain ⟨a0, a1, a2, a3⟩ := two_at HX4'.out
    obtain ⟨b0, b1, b2, b3⟩ := two_at HX5.out
    have a4 := two_frz HX4'.out
    go_wp2
    obtain ⟨W6, hW6⟩ : ∃ W6, ((W5.setCell ⟨B4, 0, none⟩ (.bool false)).setCell ⟨B4, 1, none⟩ (.int .i64 4)) = W6 := ⟨_, rfl⟩
    obtain ⟨d0, d1, d2⟩ := set_two HX4'.out HB6.out (by rw [HB4.out]; exact Nat.le_refl _) hW6
    rw [hW6]
    clear hW6
    exact bodyPost_ret (v := .agg #[.bool false, .int .i64 4]) (by simp [results, Tryd.results30, go_sem, d0, d1]) rfl ⟨rfl, d2⟩
  | some r =>
    obtain ⟨M, hM⟩ : ∃ M, matchM p a = M := ⟨_, rfl⟩
    rw [hM]
    have hl16 := getU_props hg
    have HM := Lib.hid hM
    have HG := Lib.hid hg
    clear hg hM
    go_enter Tryd.func30, Tryd.ntmps30
    go_upto_region 2 with (go_at_call 34; refine (runits_ok p (by omega) r HG.out _).mono ?_; rintro e w1 ⟨⟨A1, c1, rfl, hc1, hR⟩, hB⟩; (have HX4 := Lib.hid (below_heap (heap_alloc_new w (.cells #[.bool false, .int .i64 0] 43)) hB)); (have HR1 := Lib.hid hR); (have HB1 := Lib.hid (below_then (below_al (Below.refl w.heap.size w) (.cells #[.bool false, .int .i64 0] 43)) (below_al (Below.refl w.heap.size w) (.cells #[.bool false, .int .i64 0] 43)).size hB)); clear hB hR)
    obtain ⟨B4, hB4⟩ : ∃ B, w.heap.size = B := ⟨_, rfl⟩
    obtain ⟨B5, hB5⟩ : ∃ B, w1.heap.size = B := ⟨_, rfl⟩
    obtain ⟨W5, hW5⟩ : ∃ W5, w1.alloc (.cells #[.slice A1 r.length c1, .int .i64 0] 55) = W5 := ⟨_, rfl⟩
    have HX4' : Hid (W5.heap[B4]? = some (.cells #[.bool false, .int .i64 0] 43 (0, 0))) := Lib.hid (by rw [← hW5, ← hB4]; exact heap_al HX4.out)
    have HX5 : Hid (W5.heap[B5]? = some (.cells #[.slice A1 r.length c1, .int .i64 0] 55 (0, 0))) := Lib.hid (by rw [← hW5, ← hB5]; exact heap_alloc_new _ _)
    have HB6 : Hid (Below w.heap.size w W5) := Lib.hid (by rw [← hW5]; exact below_al HB1.out _)
    have HR5 : Hid (Rd W5 .u16 A1 r.length r) := Lib.hid (by rw [← hW5]; exact HR1.out.below (one_alloc _ _))
    have HB4 := Lib.hid hB4
    rw [hB4, hB5, hW5]
    clear hB4 hB5 hW5 HX4
    obtain ⟨a0, a1, a2, a3⟩ := two_at HX4'.out
    obtain ⟨b0, b1, b2, b3⟩ := two_at HX5.out
    have a4 := two_frz HX4'.out
    by_cases hl : 64 < r.length
    · have hM : M = (false, 2) := by rw [← HM.out]; unfold matchM; rw [HG.out]; simp only; rw [if_pos hl]
      subst hM
      have hli : 64 < (r.length : Int) := by omega
      go_wp2
      obtain ⟨W6, hW6⟩ : ∃ W6, ((W5.setCell ⟨B4, 0, none⟩ (.bool false)).setCell ⟨B4, 1, none⟩ (.int .i64 2)) = W6 := ⟨_, rfl⟩
      obtain ⟨d0, d1, d2⟩ := set_two HX4'.out HB6.out (by rw [HB4.out]; exact Nat.le_refl _) hW6
      rw [hW6]
      clear hW6
      exact bodyPost_ret (v := .agg #[.bool false, .int .i64 2]) (by simp [results, Tryd.results30, go_sem, d0, d1]) rfl ⟨rfl, d2⟩
    have hli : ¬ 64 < (r.length : Int) := by omega
    by_cases hc : checkM a = 0
    · obtain ⟨u, hu, hu1, hu32, -⟩ := check_units hc
      have hM : M = (gM r u, 0) := by rw [← HM.out]; exact match_ok hc hu HG.out (by omega)
      subst hM
      have HC := Lib.hid hc
      have HU := Lib.hid hu
      have HU16 := Lib.hid (getU_props hu).1
      have HR16 := Lib.hid hl16.1
      clear hc hu hl16
      obtain ⟨i4, h4i, h4z, h41, h4b⟩ := info_parts info4
      have hN : (u.length : Int) + 1 = ((u.length + 1 : Nat) : Int) := by omega
      obtain ⟨N, hNN⟩ : ∃ N, u.length + 1 = N := ⟨_, rfl⟩
      have HNN := Lib.hid hNN
      have hNb : N ≤ 33 := by omega
      have hfd : ∀ (A : Option Addr) (n c : Nat) (q : Int) (w : World), (Instr.field 55 (.agg #[.slice A n c, .int .i64 q]) 0).run Tryd.prog w = .ok (.slice A n c) w := fun A n c q w => by kernel_rfl
      go_upto_region 10 with (first
        | ((have hgd := HS1); clear hgd; go_at_call 34; refine (runits_ok a (by omega) u HU.out _).mono ?_; rintro e w3 ⟨⟨A7, c7, rfl, hc7, hR⟩, hB⟩; (have HR7 := Lib.hid hR); (have HX4' := Lib.hid (below_heap HX4'.out hB)); (have HX5 := Lib.hid (below_heap HX5.out hB)); (have HR5 := Lib.hid (HR5.out.below hB)); (have HB6 := Lib.hid (below_then HB6.out HB6.out.size hB)); clear hB; clear hR)
        | (go_at_call 16; refine (rcheck_any a (by omega) _).mono ?_; rintro e w2 ⟨rfl, hB⟩; rw [HC.out]; (have HX4' := Lib.hid (below_heap HX4'.out hB)); (have HX5 := Lib.hid (below_heap HX5.out hB)); (have HR5 := Lib.hid (HR5.out.below hB)); (have HB6 := Lib.hid (below_then HB6.out HB6.out.size hB)); clear hB; (have HS1 := HB6)))
      clear a0 a1 a2 a3 a4 b0 b1 b2 b3 HS1
      clear hN hNN
      go_upto_region 11 with (refine wpList_make_full _ rfl _ _ 85 rfl w3.heap.size 4 i4 _ 1 Tryd.underlying85 h4i h4z h41 .i64 .i64 _ _ N rfl rfl (by have := HNN.out; omega) (by have := HNN.out; omega) (by rw [h4b]; omega) (by simp only [maxLen]; omega) (Nat.le_refl _) ?_; intro w4 hown4 hgrow4; (have HO4 := Lib.hid hown4); (have HB4' := Lib.hid ((Below.refl w3.heap.size w3).grown hgrow4 (Nat.le_refl _) (fun k e => by cases e))); clear hown4 hgrow4)
      obtain ⟨b3, hb3⟩ : ∃ b, w3.heap.size = b := ⟨_, rfl⟩
      have emk : (madeCells (Value.bool false).cells (N * 1)).toList = boolsV (List.replicate (u.length + 1) false) := by
        rw [Nat.mul_one, show (Value.bool false).cells = #[.bool false] from rfl, toList_madeCells_one, ← HNN.out]
        simp [boolsV]
      have ho4 := HO4.out
      rw [emk, hb3] at ho4
      have hb4 := HB4'.out
      rw [hb3] at hb4 ⊢
      have hc0 := bools_at ho4 0 (by have := HNN.out; omega)
      have hf0 := ho4.frozenAt
      have hN0 : 0 < N := by have := HNN.out; omega
      have hst : ∀ W', w4.setCell ⟨b3, 0, none⟩ (.bool true) = W' → W'.ownsRow b3 4 1 (.slice (some ⟨b3, 0, none⟩) N N) N (boolsV (rowM r u 0)) ∧ Below b3 w3 W' := by
        rintro W' rfl
        have h1 := (World.ownsRow.stored ho4 0 (.bool true)).1
        rw [boolsV_set, ← rowM_first] at h1
        exact ⟨h1, below_st' hb4 (Nat.le_refl _)⟩
      have HST := Lib.hid hst
      have HB3 := Lib.hid hb3
      clear hst hb3 ho4 hb4 HO4 HB4' emk
      go_wp2
      obtain ⟨W9, hW9⟩ : ∃ W', w4.setCell ⟨b3, 0, none⟩ (.bool true) = W' := ⟨_, rfl⟩
      obtain ⟨hq1, hq2⟩ := HST.out W9 hW9
      rw [hW9]
      have HQ1 := Lib.hid hq1
      have HQ2 := Lib.hid hq2
      clear hW9 hq1 hq2 HST hc0 hf0
      go_loopw [8, 9] (fun v8 v9 W => ∃ (i g8 : Nat), v9 = .int .i64 i ∧ i ≤ r.length ∧ v8 = .slice (some ⟨g8, 0, none⟩) N N ∧ Hid (W.ownsRow b3 4 1 (.slice (some ⟨g8, 0, none⟩) N N) N (boolsV (rowM r u i))) ∧ Hid (Below b3 w3 W)) (fun _ v9 _ => r.length - (intOf v9).toNat)
      case atStart => exact ⟨0, b3, rfl, by omega, rfl, HQ1, HQ2⟩
      case round =>
        obtain ⟨i, g8, rfl, hil, rfl, HA, HB⟩ := hrel
        have hnx := HNN.out
        have hx5 := below_heap HX5.out (by rw [HB3.out]; exact HB.out)
        obtain ⟨y0, y1, y2, y3⟩ := two_at hx5
        by_cases hlt : i < r.length
        · have hlti : (i : Int) < r.length := by omega
          have hbase : b3 ≤ wr.heap.size := by rw [← HB3.out]; exact HB.out.size
          go_wp2_with (refine wpList_make_full _ rfl _ _ 85 rfl b3 4 i4 _ 1 Tryd.underlying85 h4i h4z h41 .i64 .i64 _ _ N rfl rfl (by have := HNN.out; omega) (by have := HNN.out; omega) (by rw [h4b]; omega) (by simp only [maxLen]; omega) hbase ?_; intro w5 hown5 hgrow5; (have HO5 := Lib.hid hown5); (have HA5 := Lib.hid (HA.out.kept hgrow5 (by simp [Value.ownBlock]))); (have HB5 := Lib.hid (HB.out.grown hgrow5 hbase (fun k e => by cases e))); clear hown5 hgrow5)
          clear y0 y1 y2 y3 hx5
          have hg8 := (HA.out.lt g8 rfl).2
          obtain ⟨g10, hg10⟩ : ∃ b, wr.heap.size = b := ⟨_, rfl⟩
          have h810 : ¬ g8 = g10 := by omega
          have emk : (madeCells (Value.bool false).cells (N * 1)).toList = boolsV (partM r u (i + 1) 0) := by
            rw [Nat.mul_one, show (Value.bool false).cells = #[.bool false] from rfl, toList_madeCells_one, ← HNN.out, partM_none]
            simp [boolsV]
          have ho5 := HO5.out
          rw [emk, hg10] at ho5
          rw [hg10]
          have HQ5 := Lib.hid ho5
          clear hg10 ho5 HO5 emk hg8 HA HB hbase
          go_loopw [11] (fun v11 W => ∃ k : Nat, v11 = .int .i64 k ∧ k ≤ N ∧ Hid (W.ownsRow b3 4 1 (.slice (some ⟨g8, 0, none⟩) N N) N (boolsV (rowM r u i))) ∧ Hid (W.ownsRow b3 4 1 (.slice (some ⟨g10, 0, none⟩) N N) N (boolsV (partM r u (i + 1) k))) ∧ Hid (Below b3 w3 W)) (fun v11 _ => N - (intOf v11).toNat)
          case atStart => exact ⟨0, rfl, by omega, HA5, HQ5, HB5⟩
          case round =>
            obtain ⟨k, rfl, hkN, HA, HQ, HB⟩ := hrel
            clear HA5 HQ5 HB5
            have hx5 := below_heap HX5.out (by rw [HB3.out]; exact HB.out)
            obtain ⟨y0, y1, y2, y3⟩ := two_at hx5
            by_cases hk : k < N
            · have hkl : k ≤ u.length := by omega
              have hkli : (k : Int) ≤ u.length := by omega
              have hki : (k : Int) < N := by omega
              obtain ⟨ad, hA1, hcl⟩ := (HR5.out.below (by rw [HB3.out]; exact HB.out)).at_ i hlt
              subst hA1
              obtain ⟨c, hc⟩ : ∃ c, r.getD i 0 = c := ⟨_, rfl⟩
              have hcb := HR16.out.get i
              rw [hc] at hcl hcb
              have hT := bools_at HA.out k (by omega)
              rw [rowM_at _ _ _ _ hkl] at hT
              have hQk := bools_at HQ.out k (by omega)
              obtain ⟨qv, hqv⟩ : ∃ q, (partM r u (i + 1) k).getD k false = q := ⟨_, rfl⟩
              rw [hqv] at hQk
              have hfq := HQ.out.frozenAt
              clear hqv hx5
              by_cases h42 : c = 42
              · subst h42
                have hst := tab_star (k := k) hlt hc hkl
                obtain ⟨T, hTT⟩ : ∃ T, tabM r u i k = T := ⟨_, rfl⟩
                rw [hTT] at hT hst
                cases T with
                | true =>
                  have HPT := Lib.hid (tab_put HA HQ h810 HB hkl true (by rw [hst]; rfl))
                  clear hst hTT hc
                  go_wp2
                  obtain ⟨W9, hW9⟩ : ∃ W', wr.setCell ⟨g10, k, none⟩ (.bool true) = W' := ⟨_, rfl⟩
                  obtain ⟨HA9, HQ9, HB9⟩ := HPT.out W9 hW9
                  rw [hW9]
                  exact ⟨⟨k + 1, by simp, by omega, HA9, HQ9, HB9⟩, by simp only [intOf]; omega⟩
                | false =>
                  cases k with
                  | zero =>
                    have HPT := Lib.hid (tab_put HA HQ h810 HB hkl false (by rw [hst]; rfl))
                    clear hst hTT hc
                    go_wp2
                    obtain ⟨W9, hW9⟩ : ∃ W', wr.setCell ⟨g10, 0, none⟩ (.bool false) = W' := ⟨_, rfl⟩
                    obtain ⟨HA9, HQ9, HB9⟩ := HPT.out W9 hW9
                    rw [hW9]
                    exact ⟨⟨0 + 1, by simp, by omega, HA9, HQ9, HB9⟩, by simp only [intOf]; omega⟩
                  | succ k =>
                    have hP := bools_at HQ.out k (by omega)
                    rw [partM_at _ _ _ _ _ (by omega), decide_eq_true (by omega : k < k + 1), Bool.true_and] at hP
                    obtain ⟨V, hV⟩ : ∃ V, tabM r u (i + 1) k = V := ⟨_, rfl⟩
                    rw [hV] at hP
                    rw [show k + 1 - 1 = k from rfl, hV, decide_eq_true (by omega : 0 < k + 1), Bool.false_or, Bool.true_and] at hst
                    have HPT := Lib.hid (tab_put HA HQ h810 HB hkl V (hst))
                    clear hst hTT hc hV
                    go_wp2
                    obtain ⟨W9, hW9⟩ : ∃ W', wr.setCell ⟨g10, (k + 1), none⟩ (.bool V) = W' := ⟨_, rfl⟩
                    obtain ⟨HA9, HQ9, HB9⟩ := HPT.out W9 hW9
                    rw [hW9]
                    exact ⟨⟨(k + 1) + 1, by simp, by omega, HA9, HQ9, HB9⟩, by simp only [intOf]; omega⟩
              · have h42b : (c == 42) = false := by simpa using h42
                have hc42 : ¬ r.getD i 0 = 42 := by rw [hc]; exact h42
                cases k with
                | zero =>
                  have hq1 := HQ.out
                  rw [partM_skip r u (i + 1) 0 (tab_zero hlt hc42)] at hq1
                  have HQ9 := Lib.hid hq1
                  clear hq1 hc42 hc
                  go_wp2
                  exact ⟨⟨0 + 1, by simp, by omega, HA, HQ9, HB⟩, by simp only [intOf]; omega⟩
                | succ k =>
                  have hT' := bools_at HA.out k (by omega)
                  rw [rowM_at _ _ _ _ (by omega)] at hT'
                  have hst := tab_one (k := k) (u := u) hlt hc42 (by omega)
                  rw [hc] at hst
                  obtain ⟨T, hTT⟩ : ∃ T, tabM r u i k = T := ⟨_, rfl⟩
                  rw [hTT] at hT' hst
                  have hk0 : (0 : Int) < (k : Int) + 1 := by omega
                  cases T with
                  | false =>
                    have hq1 := HQ.out
                    rw [partM_skip r u (i + 1) (k + 1) (by rw [hst]; rfl)] at hq1
                    have HQ9 := Lib.hid hq1
                    clear hq1 hc42 hc hst hTT
                    go_wp2
                    exact ⟨⟨k + 1 + 1, by simp, by omega, HA, HQ9, HB⟩, by simp only [intOf]; omega⟩
                  | true =>
                    rw [Bool.true_and] at hst
                    obtain ⟨ad7, hA7, hcl7⟩ := (HR7.out.below (by rw [HB3.out]; exact HB.out)).at_ k (by omega)
                    subst hA7
                    obtain ⟨d, hd⟩ : ∃ d, u.getD k 0 = d := ⟨_, rfl⟩
                    have hdb := HU16.out.get k
                    rw [hd] at hcl7 hdb hst
                    have hku : (k : Int) < u.length := by omega
                    by_cases h63 : c = 63
                    · subst h63
                      have HPT := Lib.hid (tab_put HA HQ h810 HB hkl true (by rw [hst]; rfl))
                      clear hst hTT hc hc42 hd
                      go_upto_region 22 with (fail)
                      go_region
                      go_wp2
                      obtain ⟨W9, hW9⟩ : ∃ W', wr.setCell ⟨g10, k + 1, none⟩ (.bool true) = W' := ⟨_, rfl⟩
                      obtain ⟨HA9, HQ9, HB9⟩ := HPT.out W9 hW9
                      rw [hW9]
                      exact ⟨⟨k + 1 + 1, by simp, by omega, Lib.hid HA9.out.drew, Lib.hid HQ9.out.drew, Lib.hid (below_drew1 HB9.out)⟩, by simp only [intOf]; omega⟩
                    · have h63b : (c == 63) = false := by simpa using h63
                      rw [decide_eq_false h63, Bool.false_or] at hst
                      obtain ⟨UC, hUC⟩ : ∃ x, upM c = x := ⟨_, rfl⟩
                      obtain ⟨UD, hUD⟩ : ∃ x, upM d = x := ⟨_, rfl⟩
                      rw [hUC, hUD] at hst
                      have HUC := Lib.hid hUC
                      have HUD := Lib.hid hUD
                      have k0 : wr.drew.cell? ⟨B5, 0, none⟩ = _ := y0
                      have k1 : wr.drew.cell? (ad.add i) = some (.int .u16 c) := hcl
                      have k2 : wr.drew.cell? (ad7.add k) = some (.int .u16 d) := hcl7
                      have k3 : wr.drew.cell? ⟨g10, k + 1, none⟩ = some (.bool qv) := hQk
                      have k4 : ∀ j, wr.drew.frozen? ⟨g10, j, none⟩ = false := hfq
                      have hkn : k < u.length := by omega
                      have hwp : IntKind.i64.wrap (k : Int) = (k : Int) := IntWalk.i64_in _ (by omega)
                      have hk1N : (k : Int) + 1 < N := by omega
                      have hk1z : (0 : Int) ≤ (k : Int) + 1 := by omega
                      have hk1t : ((k : Int) + 1).toNat = k + 1 := by omega
                      clear hTT hc hc42 hd hUC hUD
                      go_upto_region 22 with (fail)
                      obtain ⟨wd, hwd⟩ : ∃ W, wr.drew = W := ⟨_, rfl⟩
                      have HAd : Hid (wd.ownsRow b3 4 1 (.slice (some ⟨g8, 0, none⟩) N N) N (boolsV (rowM r u i))) := Lib.hid (by rw [← hwd]; exact HA.out.drew)
                      have HQd : Hid (wd.ownsRow b3 4 1 (.slice (some ⟨g10, 0, none⟩) N N) N (boolsV (partM r u (i + 1) (k + 1)))) := Lib.hid (by rw [← hwd]; exact HQ.out.drew)
                      have HBd : Hid (Below b3 w3 wd) := Lib.hid (by rw [← hwd]; exact below_drew1 HB.out)
                      have HPT := Lib.hid (tab_put HAd HQd h810 HBd hkl (UC == UD) (by rw [hst]; rfl))
                      rw [hwd] at k0 k1 k2 k3 k4
                      refine wp_region_still_tail 24 (by kernel_rfl) (by kernel_rfl) ?_
                      change wpStill _ _ wr.drew (fun a' => wpList _ _ _ _ a' wr.drew) _ _
                      rw [hwd]
                      simp only [List.take_succ_cons, List.take_zero, List.drop_succ_cons, List.drop_zero]
                      clear y0 y1 y2 y3 hcl hcl7 hQk hfq hT hT' hst hwd
                      repeat still_step
                      still_call (by have h := rup_any c (by omega) (by omega) wd; rw [HUC.out] at h; exact h)
                      repeat still_step
                      still_call (by have h := rup_any d (by omega) (by omega) wd; rw [HUD.out] at h; exact h)
                      repeat still_step
                      refine wpStill_nil ?_
                      go_wp2
                      obtain ⟨W9, hW9⟩ : ∃ W', wd.setCell ⟨g10, k + 1, none⟩ (.bool (UC == UD)) = W' := ⟨_, rfl⟩
                      obtain ⟨HA9, HQ9, HB9⟩ := HPT.out W9 hW9
                      rw [hW9]
                      exact ⟨⟨k + 1 + 1, by simp, by omega, HA9, HQ9, HB9⟩, by simp only [intOf]; omega⟩
            · have hkN' : k = N := by omega
              subst hkN'
              have hki : ¬ (k : Int) ≤ u.length := by omega
              have hrow := HQ.out
              rw [← HNN.out, partM_all, HNN.out] at hrow
              go_wp2
              exact ⟨⟨i + 1, g10, by simp, by omega, rfl, Lib.hid hrow, HB⟩, by simp only [intOf]; omega⟩
        · have hie : i = r.length := by omega
          subst hie
          have hlti : ¬ ((r.length : Int) < r.length) := by omega
          have hbl := bools_at HA.out u.length (by omega)
          rw [rowM_at _ _ _ _ (Nat.le_refl _), tab_last] at hbl
          have hx4 := below_heap HX4'.out (by rw [HB3.out]; exact HB.out)
          obtain ⟨z0, z1, z2, z3⟩ := two_at hx4
          have z4 := two_frz hx4
          have hb6 := below_then HB6.out HB6.out.size (by rw [HB3.out]; exact HB.out)
          have hNi : (u.length : Int) < N := by omega
          go_wp2
          obtain ⟨W6, hW6⟩ : ∃ W6, ((wr.setCell ⟨B4, 0, none⟩ (.bool (gM r u))).setCell ⟨B4, 1, none⟩ (.int .i64 0)) = W6 := ⟨_, rfl⟩
          obtain ⟨d0, d1, d2⟩ := set_two hx4 hb6 (by rw [HB4.out]; exact Nat.le_refl _) hW6
          rw [hW6]
          clear hW6
          exact bodyPost_ret (v := .agg #[.bool (gM r u), .int .i64 0]) (by simp [results, Tryd.results30, go_sem, d0, d1]) rfl ⟨rfl, d2⟩
    · obtain ⟨C, hC⟩ : ∃ C, checkM a = C := ⟨_, rfl⟩
      have hM : M = (false, C) := by rw [← HM.out]; unfold matchM; rw [HG.out]; simp only; rw [if_neg hl, if_pos (by rw [hC] at hc ⊢; simpa using hc), hC]
      subst hM
      rw [hC] at hc
      have hcb : (C == 0) = false := by simpa using hc
      have HC := Lib.hid hC
      clear hC
      go_wp2_with (go_at_call 16; refine (rcheck_any a (by omega) _).mono ?_; rintro e w2 ⟨rfl, hB⟩; rw [HC.out]; (have HX4' := Lib.hid (below_heap HX4'.out hB)); (have HX5 := Lib.hid (below_heap HX5.out hB)); (have HR5 := Lib.hid (HR5.out.below hB)); (have HB6 := Lib.hid (below_then HB6.out HB6.out.size hB)); clear hB; obtain ⟨z0, z1, z2, z3⟩ := two_at HX4'.out; (have z4 := two_frz HX4'.out))
      obtain ⟨W6, hW6⟩ : ∃ W6, ((w2.setCell ⟨B4, 0, none⟩ (.bool false)).setCell ⟨B4, 1, none⟩ (.int .i64 C)) = W6 := ⟨_, rfl⟩
      obtain ⟨d0, d1, d2⟩ := set_two HX4'.out HB6.out (by rw [HB4.out]; exact Nat.le_refl _) hW6
      rw [hW6]
      clear hW6
      exact bodyPost_ret (v := .agg #[.bool false, .int .i64 C]) (by simp [results, Tryd.results30, go_sem, d0, d1]) rfl ⟨rfl, d2⟩
end Go.Proofs.YtmbdiimenmnfjaaDoor
/- Walk: the law NamesMatches. -/
namespace Go.Proofs.YtmbdiimenmnfjaaDoor
open Go.RowKit Go.Deep
set_option linter.unusedVariables false
set_option linter.unusedSimpArgs false

set_option maxRecDepth 100000 in
set_option maxHeartbeats 8000000 in
theorem law_NamesMatches (p a : ByteArray) (w : World) (ht : Tab w) : Calls Tryd.prog 5 #[.string p, .string a] w fun e w' => e = .returned (.bool true) ∧ Below w.heap.size w w' := by
  have HT := Lib.hid ht
  clear ht
  obtain ⟨f, hf⟩ : ∃ f, fewM [p, a] = f := ⟨_, rfl⟩
  have HF := Lib.hid hf
  cases f with
  | false =>
    clear hf
    go_enter Tryd.func5, Tryd.ntmps5
    go_wp2_with (first
      | ((have hgd := HB1); clear hgd; go_at_call 15; refine (sanity_any _ (HT.out.below HB1.out)).mono ?_; rintro e w2 ⟨rfl, hB⟩; (have HB2 := Lib.hid (below_then HB1.out HB1.out.size hB)); clear hB)
      | (go_at_call 14; refine (few_two p a _ _ rfl).mono ?_; rintro e w1 ⟨rfl, hB⟩; rw [HF.out]; (have HB1 := Lib.hid hB); clear hB))
    go_ret
    exact ⟨rfl, HB2.out⟩
  | true =>
  have hz := (few_is hf).1
  have hzp : p.size ≤ 400 := hz p (by simp)
  have hza : a.size ≤ 400 := hz a (by simp)
  clear hf hz
  obtain ⟨⟨I, E⟩, hM⟩ : ∃ m, matchM p a = m := ⟨_, rfl⟩
  have HM := Lib.hid hM
  clear hM
  go_enter Tryd.func5, Tryd.ntmps5
  go_upto_region 5 with (first
    | ((have hgd := HB2); clear hgd; go_at_call 30; refine (rmatch_any p a (by omega) (by omega) _).mono ?_; rintro e w3 ⟨rfl, hB⟩; rw [HM.out]; (have HB3 := Lib.hid (below_then HB2.out HB2.out.size hB)); clear hB)
    | ((have hgd := HB1); clear hgd; go_at_call 29; refine (match_any p a (by omega) (by omega) _).mono ?_; rintro e w2 ⟨rfl, hB⟩; rw [HM.out]; (have HB2 := Lib.hid (below_then HB1.out HB1.out.size hB)); clear hB)
    | (go_at_call 14; refine (few_two p a _ _ rfl).mono ?_; rintro e w1 ⟨rfl, hB⟩; rw [HF.out]; (have HB1 := Lib.hid hB); clear hB))
  obtain ⟨B7, hB7⟩ : ∃ B, w3.heap.size = B := ⟨_, rfl⟩
  obtain ⟨W7, hW7⟩ : ∃ W, w3.alloc (.cells #[.bool I, .int .i64 E] 43) = W := ⟨_, rfl⟩
  have HX7 : Hid (W7.heap[B7]? = some (.cells #[.bool I, .int .i64 E] 43 (0, 0))) := Lib.hid (by rw [← hW7, ← hB7]; exact heap_alloc_new _ _)
  have HB7 : Hid (Below w.heap.size w W7) := Lib.hid (by rw [← hW7]; exact below_al HB3.out _)
  rw [hB7, hW7]
  clear hB7 hW7
  go_wp2_with (go_at_call 15; refine (sanity_any _ (HT.out.below HB7.out)).mono ?_; rintro e w9 ⟨rfl, hB⟩; obtain ⟨y0, y1, y2, y3⟩ := two_at (below_heap HX7.out hB); (have HB9 := Lib.hid (below_then HB7.out HB7.out.size hB)); clear hB)
  go_ret
  exact ⟨rfl, HB9.out⟩
end Go.Proofs.YtmbdiimenmnfjaaDoor
/- The rows' words: what the condition on the listed variables gives; a world that meets it; an argument that is a slice of strings. -/
namespace Go.Proofs.YtmbdiimenmnfjaaDoor
open Go.Shelf Go.ChangeShapes Go.WideShapes Go.ChangeAt Go.RowKit Go.Deep
open Go.ChangeMaps (open_string shut_string)
set_option linter.unusedVariables false
set_option maxRecDepth 100000

theorem Tryd.own : ownKnob Tryd.prog.godebug = none := by kernel_rfl
theorem Tryd.laidOut : laidOutB Tryd.prog = true := by kernel_rfl
theorem Tryd.cells9 : Tryd.prog.cellsOf 9 = 1 := by kernel_rfl
theorem Tryd.cells46 : Tryd.prog.cellsOf 46 = 1 := by kernel_rfl
theorem Tryd.cells120 : Tryd.prog.cellsOf 120 = 1 := by kernel_rfl
theorem Tryd.cells126 : Tryd.prog.cellsOf 126 = 20 := by kernel_rfl
theorem Tryd.gP : Tryd.prog.globalNamed "internal/strconv.uint64pow10" = some 1 := by kernel_rfl
theorem Tryd.gPType : (Tryd.prog.globals[1]?).map (·.type) = some 126 := by kernel_rfl

def laidL : List (String × DataW Unit) := [("math/bits.deBruijn32tab", Rows.laid_math_bits_deBruijn32tab), ("math/bits.deBruijn64tab", Rows.laid_math_bits_deBruijn64tab), ("internal/strconv.uint64pow10", Rows.laid_internal_strconv_uint64pow10)]
theorem tab_of_laid {W : World} (h : laidMet Tryd.prog laidL W) : Tab W := by
  have h3 : laidMet Tryd.prog [("internal/strconv.uint64pow10", Lib.tabData .u64 Lib.pow10Tab)] W := h.tail.tail
  exact Lib.tabIs_of_head Tryd.gP Tryd.gPType Tryd.underlying126 Tryd.underlying120 Tryd.cells120 Tryd.cells126 h3

def cellsOfData : DataW Unit → Array Value
  | .agg l => (l.map fun
    | .lit (.int k z) => Value.int k z
    | _ => .int .i64 0).toArray
  | _ => #[]
/-- A world that meets the condition: the settled one, the three variables laid. -/
noncomputable def laidWorld (os : Os) : World :=
  let w0 := World.holding Tryd.prog os ⟨#[], #[], []⟩
  let put (h : Array Obj) (g : Nat) (cs : Array Value) : Array Obj := h.modify g fun
    | .cells _ t frozen => .cells cs t frozen
    | o => o
  let h1 := put w0.heap 1 (cellsOfData Rows.laid_internal_strconv_uint64pow10)
  let h2 := put h1 2 (cellsOfData Rows.laid_math_bits_deBruijn32tab)
  let h3 := put h2 3 (cellsOfData Rows.laid_math_bits_deBruijn64tab)
  { w0 with heap := h3 }
theorem laid_met (os : Os) (args : Array Value) : laidMet Tryd.prog laidL ((laidWorld os).forCall (fun _ _ => 0) ⟨#[], args, []⟩).memory :=
  (LaidIn.of_run [2, 3, 1] 8 (by kernel_rfl) (by kernel_rfl) (by kernel_rfl) (by kernel_rfl)).met

section
variable {H : Type} {enc : TypeId × Value → H}
/-- A slice of strings that came in. -/
theorem open_taken {W : World} {base : Nat} {v1 : Value} {d1 : DataW H} {p1 : List MemPlace} (hval : Value.okWide Tryd.prog W .any base 33 v1) (h1 : DataW.Trod enc Tryd.prog W 0 (fun _ => true) true 33 v1 d1 p1) :
    ∃ A c b, v1 = .slice A b.length c ∧ b.length ≤ c ∧ b.length ≤ maxLen ∧ RdS W A b.length b := by
  obtain ⟨a1, len, cap, rfl⟩ := okWide_slice Tryd.underlying33 hval
  obtain ⟨fuel, hf⟩ := h1
  rcases open_strings Tryd.underlying33 Tryd.underlying9 Tryd.cells9 hf with ⟨hcs, hx⟩ | ⟨a, len', cap', zs, hcs, _, hl, hm, hz, hx, hcell, hwz⟩
  · simp [Value.cells] at hcs
    obtain ⟨rfl, rfl, rfl⟩ := hcs
    exact ⟨none, 0, [], rfl, by simp, by simp, ⟨rfl, by simp, fun j hj => absurd hj (Nat.not_lt_zero _)⟩⟩
  · simp [Value.cells] at hcs
    obtain ⟨rfl, rfl, rfl⟩ := hcs
    simp only [if_true] at hz
    have hlen : (zs.take len).length = len := by simp; omega
    have hget : ∀ j, j < len → (zs.take len).getD j ByteArray.empty = zs.getD j ByteArray.empty := fun j hj => by
      simp [List.getD_eq_getElem?_getD, hj]
    refine ⟨some a, cap, zs.take len, by rw [hlen], by rw [hlen]; exact hl, by rw [hlen]; omega, ⟨rfl, by rw [hlen]; simp only [maxLen] at hm; omega, fun j hj => ⟨a, rfl, ?_⟩⟩⟩
    rw [hlen] at hj
    rw [hget j hj]
    exact hcell j (by omega)
theorem shut_bool {W : World} {base : Nat} {spare : Nat → Bool} {held : Bool} (b : Bool) : DataW.Trod enc Tryd.prog W base spare held 4 (.bool b) (.lit (.bool b)) [] :=
  ⟨1, by simp [DataW.trod, Value.cells, Tryd.underlying4]⟩
end
end Go.Proofs.YtmbdiimenmnfjaaDoor
/- NamesMatches: for every input the law returns true and leaves its arguments as they were; the three listed tables of the library are tied to the program's text. Conditions: none beyond the row. -/
namespace Go.Proofs.YtmbdiimenmnfjaaDoor
open Go.Shelf Go.ChangeShapes Go.WideShapes Go.ChangeAt Go.RowKit Go.Deep
open Go.ChangeMaps (open_string shut_string)
set_option linter.unusedVariables false
set_option maxRecDepth 100000

theorem namesMatches_witness (os : Os) {H : Type} (enc : TypeId × Value → H) :
    (OpenSpec.ofChange Rows.namesMatchesSpec).preRow enc Tryd.prog Tryd.f5 Rows.namesMatchesRow.domain false Rows.namesMatchesRow.laid ((laidWorld os).forCall (fun _ _ => 0) ⟨#[], #[.string ⟨#[]⟩, .string ⟨#[]⟩], []⟩).memory #[.string ⟨#[]⟩, .string ⟨#[]⟩] := by
  have hw : (DataW.whole enc Tryd.prog ((laidWorld os).forCall (fun _ _ => 0) ⟨#[], #[.string ⟨#[]⟩, .string ⟨#[]⟩], []⟩).memory Tryd.f5.params.toList (OpenSpec.ofChange Rows.namesMatchesSpec).vars false ((#[.string ⟨#[]⟩, .string ⟨#[]⟩] : Array Value).toList) 8).map (fun x => (x.1, x.2.1)) =
      some ([.lit (.string []), .lit (.string [])], []) := by kernel_rfl
  obtain ⟨⟨x1, x2, x3⟩, hx, hx1⟩ := Option.map_eq_some_iff.1 hw
  simp only [Prod.mk.injEq] at hx1
  obtain ⟨rfl, rfl⟩ := hx1
  exact OpenSpec.preRow_of_cond 8 hx (by kernel_rfl) (fun k hk => by cases hk) (by kernel_rfl) (laid_met os _)

set_option maxHeartbeats 2000000 in
theorem namesMatches_lifted (os : Os) (started : os.Started) (H : Type) (enc : TypeId × Value → H) (F : Stop.Interp) :
    ReturnsInHanded {} Tryd.checked os 5 .any ((OpenSpec.ofChange Rows.namesMatchesSpec).preRow enc Tryd.prog Tryd.f5 Rows.namesMatchesRow.domain false Rows.namesMatchesRow.laid) (((OpenSpec.ofChange Rows.namesMatchesSpec).at F).post enc Tryd.prog Tryd.f5 false true false false) := by
  refine returnsInHanded_of_row (C := Tryd.checked) (s := (OpenSpec.ofChange Rows.namesMatchesSpec)) Tryd.own started (by kernel_rfl) Tryd.func5
    (witness_row_atRef (enc := enc) (C := Tryd.checked) false (laidWorld os) #[.string ⟨#[]⟩, .string ⟨#[]⟩] rfl (by kernel_rfl) (by kernel_rfl) (by kernel_rfl) (namesMatches_witness os enc)) ?_
  intro W base args ds gs before hval0 hW hcnd0 _ _ hL _ _
  have hval : ∀ (j : Nat) t v, Tryd.f5.params[j]? = some t → args[j]? = some v → Value.okWide Tryd.prog W .any base t v := hval0
  have hW' := hW
  obtain ⟨p, q, hA0, hV0, rfl, _, _⟩ := hW
  have hA : DataW.TrodAll enc Tryd.prog W 0 (fun _ => true) true Tryd.f5.params.toList args.toList ds p := hA0
  rw [Tryd.params5] at hA hval
  obtain ⟨v0, v1, d0, d1, p0, p1, rfl, rfl, rfl, h0, h1⟩ := trodAll_two hA
  obtain ⟨rfl, rfl⟩ := trodVars_none hV0
  obtain ⟨s0, rfl, rfl, rfl, ws0⟩ := open_string Tryd.underlying9 (hval 0 9 v0 rfl rfl) h0
  obtain ⟨s1, rfl, rfl, rfl, ws1⟩ := open_string Tryd.underlying9 (hval 1 9 v1 rfl rfl) h1
  clear hA0 hV0 hval0
  refine (law_NamesMatches s0 s1 W (tab_of_laid hL)).mono ?_
  rintro e W' ⟨rfl, bel⟩
  refine ⟨_, rfl, _, _, _, [], _, [], hW', trodAll_mk1 (shut_bool true), trodAll_mk2 (shut_string Tryd.underlying9 ws0) (shut_string Tryd.underlying9 ws1), rfl, bel.frame _, fun h => by cases h⟩

theorem namesMatches_said : Rows.NamesMatchesSaid :=
  OpenClaim.holds_of_cond 5 Tryd.f5 rfl rfl rfl rfl rfl rfl rfl ⟨rfl, rfl, rfl, rfl, rfl⟩ rfl rfl rfl rfl rfl (by kernel_rfl) Tryd.func5 (by kernel_rfl)
    (of_decide_eq_true (by kernel_rfl)) (by unfold Func.isWrapper; rw [if_neg (of_decide_eq_false (by kernel_rfl))]; exact ⟨rfl, rfl⟩)
    (fun os started H enc _ F0 => by rw [OpenClaim.pre_eq_preRow]; exact namesMatches_lifted os started H enc F0)

/-- The tied card. -/
theorem namesMatches_holds : Rows.NamesMatchesCardSaid :=
  Claim7.holds_tied_plain_at .later [] [.data, .data, .data] true (true, "66086631d20495c7847d46aa70f2f13bc49942b8d180c92b9434ef6fd88d0904") true
    namesMatches_said (fun _ h => by cases h) (by kernel_rfl) (fun _ h => by cases h) namesMatches_row_tie rfl ⟨rfl, rfl⟩ (by kernel_rfl) rfl
    (fun f fn hf hfn => by
      obtain rfl : f = 5 := Option.some.inj ((show Tryd.prog.funcNamed "archivolt/archivoltlaw05.NamesMatches" = some 5 by kernel_rfl).symm.trans hf) |>.symm
      obtain rfl : fn = Tryd.f5 := (Option.some.inj (Tryd.func5.symm.trans hfn)).symm
      refine ⟨by kernel_rfl, fun j t ht => ?_⟩
      rw [Tryd.params5] at ht
      have hm := List.mem_of_getElem? (l := [9, 9]) (by simpa using ht)
      have hall : ∀ t ∈ ([9, 9] : List TypeId), Tryd.prog.wantsStandIn t = false := by
        intro t ht
        simp only [List.mem_cons, List.not_mem_nil, or_false] at ht
        rcases ht with rfl | rfl <;> kernel_rfl
      exact hall t hm)
    (by kernel_rfl)
#print axioms namesMatches_holds
end Go.Proofs.YtmbdiimenmnfjaaDoor
