/- The upper case: plain facts. -/
import Derived.Test.YtmbdiimenmnfjaaDoorGa
import Derived.Test.YtmbdiimenmnfjaaDoorGd
import Derived.Test.YtmbdiimenmnfjaaDoorGb
import Derived.Test.YtmbdiimenmnfjaaDoorTie
import Derived.Test.YtmbdiimenmnfjaaDoorCards
import Derived.Test.YtmbdiimenmnfjaaDoorGf
import Derived.Deep.DeepHandedRow
import Derived.Deep.DeepWitnessRowRef
import Derived.ProofKit
import Derived.SizedLaws
import Derived.Lib.LaidTab
import Derived.Lib.LaidIn
import Derived.Carry
import Derived.Stop.LaidErr
import Derived.SliceStrings
import Derived.Laws.BitsLemmas
namespace Go.Proofs.YtmbdiimenmnfjaaDoor
open Go.RowKit
set_option linter.unusedVariables false
set_option maxRecDepth 100000

theorem upL_big (u : Int) (h : 1153 < u) : ∀ l, (∀ r ∈ l, r ∈ rowsL) → upL u l = u
  | [], _ => rfl
  | r :: rs, hr => by
    simp only [upL]
    rw [if_neg, upL_big u h rs fun x hx => hr x (List.mem_cons_of_mem _ hx)]
    intro hh
    have hm := hr r (List.mem_cons_self ..)
    simp only [rowsL, List.mem_cons, List.not_mem_nil, or_false] at hm
    unfold hitR at hh
    rcases hm with rfl | rfl | rfl | rfl | rfl | rfl | rfl | rfl | rfl | rfl | rfl | rfl | rfl <;> simp only at hh <;> omega
theorem upM_big (u : Int) (h : 1153 < u) : upM u = u := upL_big u h rowsL fun r hr => hr
theorem up_small : ∀ n : Nat, n < 1154 → upM (upM (n : Int)) = upM (n : Int) := by decide +kernel
theorem upM_idem (u : Int) (h0 : 0 ≤ u) : upM (upM u) = upM u := by
  rcases Int.lt_or_le 1153 u with h | h
  · rw [upM_big u h, upM_big u h]
  · obtain ⟨n, rfl⟩ : ∃ n : Nat, u = n := ⟨u.toNat, by omega⟩
    exact up_small n (by omega)
theorem map_up_idem {l : List Int} (h : U16 l) : (l.map upM).map upM = l.map upM := by
  rw [List.map_map]
  exact List.map_congr_left fun u hu => upM_idem u (h u hu).1
end Go.Proofs.YtmbdiimenmnfjaaDoor
/- What several laws share. -/
namespace Go.Proofs.YtmbdiimenmnfjaaDoor
open Go.RowKit Go.Deep
set_option linter.unusedVariables false

/-- Key, whatever the string. -/
theorem key_gen (s : ByteArray) (hs : s.size ≤ 40000) (w : World) : Calls Tryd.prog 17 #[.string s] w fun e w' => ∃ v, e = .returned (.tuple #[v, .int .i64 (checkM s)]) ∧ Below w.heap.size w w' := by
  by_cases hc : checkM s = 0
  · obtain ⟨r, hg, -⟩ := check_units hc
    rw [hc]
    exact (key_ok s hs w hc r hg).mono fun e w' ⟨v, he, _, hB⟩ => ⟨v, he, hB⟩
  · exact (key_no s hs w hc).mono fun e w' ⟨he, hB⟩ => ⟨_, he, hB⟩
theorem key_rd (s : ByteArray) (hs : s.size ≤ 40000) (w : World) (hc : checkM s = 0) (r : List Int) (hg : getU s = some r) :
    Calls Tryd.prog 17 #[.string s] w fun e w' => ∃ A c, e = .returned (.tuple #[.slice A (keyM r).length c, .int .i64 0]) ∧ Rd w' .u8 A (keyM r).length (keyM r) ∧ Below w.heap.size w w' :=
  (key_ok s hs w hc r hg).mono fun e w' ⟨v, he, hO, hB⟩ => by
    obtain ⟨A, c, rfl, hc', hRd, -⟩ := own_nums hO (by
      obtain ⟨r', hg', h1, h2, -⟩ := check_units hc
      rw [hg] at hg'; cases hg'
      rw [show keyM r = keyB (r.map upM ++ [0] ++ r) from rfl, keyB_len]
      simp; omega)
    exact ⟨A, c, he, hRd, hB⟩

theorem sameM_symm (a b : ByteArray) : sameM b a = sameM a b := by
  rw [Bool.eq_iff_iff, sameM_iff, sameM_iff]
  constructor
  · rintro (h | ⟨x, y, h1, h2, h3⟩)
    · exact Or.inl h.symm
    · exact Or.inr ⟨y, x, h2, h1, h3.symm⟩
  · rintro (h | ⟨x, y, h1, h2, h3⟩)
    · exact Or.inl h.symm
    · exact Or.inr ⟨y, x, h2, h1, h3.symm⟩
theorem sameM_trans {a b c : ByteArray} (h1 : sameM a b = true) (h2 : sameM b c = true) : sameM a c = true := by
  rcases (sameM_iff a b).1 h1 with rfl | ⟨x, y, ha, hb, hxy⟩
  · exact h2
  · rcases (sameM_iff b c).1 h2 with rfl | ⟨y', z, hb', hc, hyz⟩
    · exact h1
    · rw [hb] at hb'
      cases hb'
      exact (sameM_iff a c).2 (Or.inr ⟨x, z, ha, hc, hxy.trans hyz⟩)
theorem units_rd (s : ByteArray) (hs : s.size ≤ 100000) (w : World) (r : List Int) (h : getU s = some r) :
    Calls Tryd.prog 33 #[.string s] w fun e w' => (∃ A c, e = .returned (.tuple #[.slice A r.length c, .int .i64 0])) ∧ Below w.heap.size w w' :=
  (units_ok s hs w r h).mono fun e w' ⟨v, he, hO, hB⟩ => by
    obtain ⟨A, c, rfl, hc⟩ := own_is_slice hO
    exact ⟨⟨A, c, he⟩, hB⟩
theorem getU_up {s : ByteArray} {r : List Int} (h : getU s = some r) : getU (upS r) = some (r.map upM) := by
  have hp := getU_props h
  exact getU_text hp.1.map_up (by rw [List.length_map]; exact hp.2.2)
theorem upS_size (r : List Int) : (upS r).size ≤ 4 * r.length := by
  unfold upS
  rw [mkB_size]
  have := textM_len (r.map upM)
  rwa [List.length_map] at this

end Go.Proofs.YtmbdiimenmnfjaaDoor
/- Bytes of parts and of sums. -/
namespace Go.Proofs.YtmbdiimenmnfjaaDoor
open Go.RowKit Go.Deep
set_option linter.unusedVariables false

theorem bts_take (s : ByteArray) (n : Nat) : bts (s.extract 0 n) = (bts s).take n := by
  unfold bts
  rw [ByteArray.data_extract, Array.toList_extract, List.extract_eq_take_drop, List.drop_zero, Nat.sub_zero, List.map_take]
theorem bts_append (x y : ByteArray) : bts (x ++ y) = bts x ++ bts y := by
  unfold bts
  rw [ByteArray.data_append, Array.toList_append, List.map_append]
theorem bts_at {s : ByteArray} {k : Nat} {c : UInt8} (h : s.data.toList[k]? = some c) : (bts s)[k]? = some (c.toNat : Int) := by
  unfold bts
  rw [List.getElem?_map, h]; rfl
end Go.Proofs.YtmbdiimenmnfjaaDoor
/- Patterns: what the rounds of Match come to; plain facts. -/
namespace Go.Proofs.YtmbdiimenmnfjaaDoor
open Go.RowKit Go.Deep
set_option linter.unusedVariables false
set_option linter.unusedSimpArgs false

/-- Does a part of a list that ends where the list ends have it? -/
def anyT (f : List Int → Bool) : List Int → Bool
  | [] => f []
  | a :: t => f (a :: t) || anyT f t
theorem anyT_iff (f : List Int → Bool) : ∀ l, anyT f l = true ↔ ∃ j, j ≤ l.length ∧ f (l.drop j) = true
  | [] => ⟨fun h => ⟨0, Nat.le_refl _, h⟩, fun ⟨j, hj, h⟩ => by simp only [anyT]; simpa using h⟩
  | a :: t => by
    simp only [anyT, Bool.or_eq_true, anyT_iff f t]
    constructor
    · rintro (h | ⟨j, hj, h⟩)
      · exact ⟨0, Nat.zero_le _, h⟩
      · exact ⟨j + 1, by simp; omega, h⟩
    · rintro ⟨j, hj, h⟩
      cases j with
      | zero => exact Or.inl h
      | succ j => exact Or.inr ⟨j, by simp at hj; omega, h⟩
/-- Do units match a pattern? -/
def gM : List Int → List Int → Bool
  | [] => fun l => l.isEmpty
  | c :: p => fun l => if c = 42 then anyT (gM p) l else match l with
    | [] => false
    | a :: t => (decide (c = 63) || decide (upM c = upM a)) && gM p t
theorem gM_star (p l : List Int) : gM (42 :: p) l = anyT (gM p) l := rfl
theorem gM_star_iff (p l : List Int) : gM (42 :: p) l = true ↔ ∃ j, j ≤ l.length ∧ gM p (l.drop j) = true := anyT_iff _ _
theorem gM_nil {c : Int} {p : List Int} (h : ¬ c = 42) : gM (c :: p) [] = false := by simp only [gM]; rw [if_neg h]
theorem gM_cons {c a : Int} {p t : List Int} (h : ¬ c = 42) : gM (c :: p) (a :: t) = ((decide (c = 63) || decide (upM c = upM a)) && gM p t) := by simp only [gM]; rw [if_neg h]
theorem gM_seg : ∀ (seg q x : List Int), (∀ c ∈ seg, ¬ c = 42) → gM (seg ++ q) x = true → seg.length ≤ x.length ∧ gM q (x.drop seg.length) = true
  | [], q, x, _, h => ⟨by simp, h⟩
  | c :: seg, q, [], hs, h => by
    rw [List.cons_append, gM_nil (hs c (List.mem_cons_self ..))] at h
    cases h
  | c :: seg, q, a :: x, hs, h => by
    rw [List.cons_append, gM_cons (hs c (List.mem_cons_self ..)), Bool.and_eq_true] at h
    have ih := gM_seg seg q x (fun d hd => hs d (List.mem_cons_of_mem _ hd)) h.2
    exact ⟨by simp; omega, ih.2⟩
theorem gM_empty : ∀ (q : List Int), gM q [] = q.all fun u => decide (u = 42)
  | [] => rfl
  | c :: q => by
    rw [List.all_cons]
    by_cases h : c = 42
    · subst h
      rw [gM_star]
      simp only [anyT]
      rw [gM_empty q]
      rfl
    · rw [gM_nil h, decide_eq_false h]; rfl
theorem drop_consG {xs : List Int} {i : Nat} (h : i < xs.length) : xs.drop i = xs.getD i 0 :: xs.drop (i + 1) := drop_cons h
/-- The rounds of Match. -/
theorem mGo_is (p l : List Int) (hp : p.length ≤ 64) (hl : l.length ≤ 32) : ∀ (f i k : Nat) (star : Int) (fr : Nat), i ≤ p.length → k ≤ l.length → fr ≤ k → -1 ≤ star →
    (∀ st : Nat, star = st → st < i ∧ fr + (i - st - 1) = k ∧ ∃ seg, p.drop (st + 1) = seg ++ p.drop i ∧ seg.length = i - st - 1 ∧ ∀ c ∈ seg, ¬ c = 42) →
    (l.length + 1 - fr) * 100 + (l.length - k) + (p.length - i) < f →
    (mGo p l f i k star fr = true ↔ gM (p.drop i) (l.drop k) = true ∨ ∃ st : Nat, star = st ∧ ∃ j, fr < j ∧ j ≤ l.length ∧ gM (p.drop (st + 1)) (l.drop j) = true)
  | 0, i, k, star, fr, _, _, _, _, _, hm => by omega
  | f + 1, i, k, star, fr, hi, hk, hfr, hs, hinv, hm => by
    simp only [mGo]
    by_cases hkl : k < l.length
    · rw [if_pos hkl]
      have hdl := drop_consG hkl
      by_cases h1 : i < p.length ∧ p.getD i 0 = 42
      · rw [if_pos h1]
        have hdp := drop_consG h1.1
        rw [h1.2] at hdp
        have ih := mGo_is p l hp hl f (i + 1) k i k (by omega) hk (Nat.le_refl _) (by omega) (fun st hst => by
          have : st = i := by omega
          subst this
          exact ⟨by omega, by omega, [], rfl, by simp, fun c hc => by cases hc⟩) (by omega)
        rw [ih, hdp, gM_star_iff]
        constructor
        · rintro (h | ⟨st, hst, j, hj1, hj2, h⟩)
          · exact Or.inl ⟨0, Nat.zero_le _, h⟩
          · have : st = i := by omega
            subst this
            refine Or.inl ⟨j - k, by rw [List.length_drop]; omega, ?_⟩
            rw [List.drop_drop, show k + (j - k) = j by omega]
            exact h
        · rintro (⟨j, hj, h⟩ | ⟨st, hst, j, hj1, hj2, h⟩)
          · rw [List.drop_drop] at h
            rw [List.length_drop] at hj
            rcases Nat.eq_zero_or_pos j with h0 | h0
            · subst h0; exact Or.inl h
            · exact Or.inr ⟨i, rfl, k + j, by omega, by omega, h⟩
          · obtain ⟨h2, h3, seg, h4, h5, h6⟩ := hinv st hst
            rw [h4, hdp] at h
            have hg := gM_seg seg _ _ h6 h
            rw [List.length_drop] at hg
            obtain ⟨q, hq, hg2⟩ := (gM_star_iff _ _).1 hg.2
            rw [List.drop_drop, List.drop_drop] at hg2
            rw [List.length_drop, List.length_drop] at hq
            rcases Nat.lt_or_ge k (j + (seg.length + q)) with h7 | h7
            · exact Or.inr ⟨i, rfl, j + (seg.length + q), h7, by omega, hg2⟩
            · omega
      · rw [if_neg h1]
        have hne : i < p.length → ¬ p.getD i 0 = 42 := fun h => fun e => h1 ⟨h, e⟩
        by_cases h2 : i < p.length ∧ (p.getD i 0 = 63 ∨ upM (p.getD i 0) = upM (l.getD k 0))
        · rw [if_pos h2]
          have hdp := drop_consG h2.1
          have ih := mGo_is p l hp hl f (i + 1) (k + 1) star fr (by omega) (by omega) (by omega) hs (fun st hst => by
            obtain ⟨h3, h4, seg, h5, h6, h7⟩ := hinv st hst
            refine ⟨by omega, by omega, seg ++ [p.getD i 0], by rw [h5, hdp, List.append_assoc]; rfl, by rw [List.length_append, h6]; simp; omega, fun c hc => ?_⟩
            rcases List.mem_append.1 hc with h | h
            · exact h7 c h
            · rw [List.mem_singleton.1 h]; exact hne h2.1) (by omega)
          rw [ih, hdp, hdl, gM_cons (hne h2.1)]
          have hc : (decide (p.getD i 0 = 63) || decide (upM (p.getD i 0) = upM (l.getD k 0))) = true := by simpa using h2.2
          rw [hc, Bool.true_and]
        · rw [if_neg h2]
          have hfalse : gM (p.drop i) (l.drop k) = false := by
            rw [hdl]
            rcases Nat.lt_or_ge i p.length with h | h
            · rw [drop_consG h, gM_cons (hne h)]
              have hc : (decide (p.getD i 0 = 63) || decide (upM (p.getD i 0) = upM (l.getD k 0))) = false := by
                rw [Bool.eq_false_iff]
                intro hh
                exact h2 ⟨h, by simpa using hh⟩
              rw [hc]; rfl
            · rw [List.drop_eq_nil_of_le h]; rfl
          rw [hfalse]
          by_cases h3 : star < 0
          · rw [if_pos h3]
            simp only [Bool.false_eq_true, false_or, false_iff]
            rintro ⟨st, hst, _⟩
            omega
          · rw [if_neg h3]
            obtain ⟨st, rfl⟩ : ∃ st : Nat, star = st := ⟨star.toNat, by omega⟩
            obtain ⟨h4, h5, seg, h6, h7, h8⟩ := hinv st rfl
            have ih := mGo_is p l hp hl f (st + 1) (fr + 1) st (fr + 1) (by omega) (by omega) (Nat.le_refl _) (by omega) (fun st' hst => by
              have : st' = st := by omega
              subst this
              exact ⟨by omega, by omega, [], rfl, by simp, fun c hc => by cases hc⟩) (by omega)
            rw [Int.toNat_natCast, ih]
            simp only [Bool.false_eq_true, false_or]
            constructor
            · rintro (h | ⟨st', hst, j, hj1, hj2, h⟩)
              · exact ⟨st, rfl, fr + 1, by omega, by omega, h⟩
              · exact ⟨st', hst, j, by omega, hj2, h⟩
            · rintro ⟨st', hst, j, hj1, hj2, h⟩
              have : st' = st := by omega
              subst this
              rcases Nat.lt_or_ge (fr + 1) j with h9 | h9
              · exact Or.inr ⟨st', rfl, j, h9, hj2, h⟩
              · have : j = fr + 1 := by omega
                subst this
                exact Or.inl h
    · have hke : k = l.length := by omega
      rw [if_neg hkl, List.drop_eq_nil_of_le (by omega : l.length ≤ k), gM_empty]
      constructor
      · exact fun h => Or.inl h
      · rintro (h | ⟨st, hst, j, hj1, hj2, h⟩)
        · exact h
        · obtain ⟨h4, h5, seg, h6, h7, h8⟩ := hinv st hst
          rw [h6] at h
          have := (gM_seg seg _ _ h8 h).1
          rw [List.length_drop] at this
          omega
theorem matchU_is (p l : List Int) (hp : p.length ≤ 64) (hl : l.length ≤ 32) : matchU p l = gM p l := by
  rw [Bool.eq_iff_iff]
  unfold matchU
  rw [mGo_is p l hp hl 10000 0 0 (-1) 0 (by omega) (by omega) (by omega) (by omega) (fun st h => by omega) (by omega)]
  constructor
  · rintro (h | ⟨st, h, _⟩)
    · exact h
    · omega
  · exact fun h => Or.inl h
theorem gM_plain : ∀ (a b : List Int), (∀ c ∈ a, ¬ c = 42 ∧ ¬ c = 63) → gM a b = decide (a.map upM = b.map upM)
  | [], [], _ => rfl
  | [], b :: y, _ => by simp [gM]
  | c :: a, [], h => by rw [gM_nil (h c (List.mem_cons_self ..)).1]; simp
  | c :: a, d :: b, h => by
    have hc := h c (List.mem_cons_self ..)
    rw [gM_cons hc.1, gM_plain a b (fun e he => h e (List.mem_cons_of_mem _ he)), decide_eq_false hc.2, Bool.false_or]
    by_cases q : upM c = upM d
    · rw [decide_eq_true q, Bool.true_and, decide_eq_decide]
      simp [q]
    · rw [decide_eq_false q, Bool.false_and]
      symm
      rw [decide_eq_false_iff_not]
      simp [q]
theorem gM_all (l : List Int) : gM [42] l = true := (gM_star_iff _ _).2 ⟨l.length, Nat.le_refl _, by rw [List.drop_length]; rfl⟩
theorem gM_up : ∀ (p l m : List Int), l.map upM = m.map upM → gM p l = gM p m
  | [], l, m, h => by
    have := congrArg List.length h
    rw [List.length_map, List.length_map] at this
    cases l <;> cases m <;> simp_all [gM]
  | c :: p, l, m, h => by
    have hlen : l.length = m.length := by have := congrArg List.length h; rwa [List.length_map, List.length_map] at this
    by_cases hc : c = 42
    · subst hc
      rw [Bool.eq_iff_iff, gM_star_iff, gM_star_iff]
      have hd : ∀ j, gM p (l.drop j) = gM p (m.drop j) := fun j => gM_up p _ _ (by rw [List.map_drop, List.map_drop, h])
      exact ⟨fun ⟨j, hj, h⟩ => ⟨j, by omega, by rw [← hd]; exact h⟩, fun ⟨j, hj, h⟩ => ⟨j, by omega, by rw [hd]; exact h⟩⟩
    · cases l with
      | nil => cases m with
        | nil => rfl
        | cons b y => simp at hlen
      | cons a x => cases m with
        | nil => simp at hlen
        | cons b y =>
          simp only [List.map_cons, List.cons.injEq] at h
          rw [gM_cons hc, gM_cons hc, gM_up p x y h.2, h.1]
theorem gM_tail : ∀ (p x y : List Int), gM p x = true → gM (p ++ [42]) (x ++ y) = true
  | [], x, y, h => gM_all _
  | c :: p, x, y, h => by
    by_cases hc : c = 42
    · subst hc
      obtain ⟨j, hj, hg⟩ := (gM_star_iff _ _).1 h
      rw [List.cons_append]
      refine (gM_star_iff _ _).2 ⟨j, by rw [List.length_append]; omega, ?_⟩
      rw [List.drop_append_of_le_length hj]
      exact gM_tail p _ y hg
    · cases x with
      | nil => rw [gM_nil hc] at h; cases h
      | cons a x =>
        rw [gM_cons hc, Bool.and_eq_true] at h
        rw [List.cons_append, List.cons_append, gM_cons hc, h.1, Bool.true_and]
        exact gM_tail p x y h.2
theorem gM_two : ∀ (x y l : List Int), gM (x ++ 42 :: 42 :: y) l = gM (x ++ 42 :: y) l
  | [], y, l => by
    rw [List.nil_append, List.nil_append, Bool.eq_iff_iff, gM_star_iff, gM_star_iff]
    constructor
    · rintro ⟨j, hj, h⟩
      obtain ⟨q, hq, h2⟩ := (gM_star_iff _ _).1 h
      rw [List.drop_drop] at h2
      rw [List.length_drop] at hq
      exact ⟨j + q, by omega, h2⟩
    · rintro ⟨j, hj, h⟩
      exact ⟨j, hj, (gM_star_iff _ _).2 ⟨0, Nat.zero_le _, h⟩⟩
  | c :: x, y, l => by
    by_cases hc : c = 42
    · subst hc
      rw [List.cons_append, List.cons_append, Bool.eq_iff_iff, gM_star_iff, gM_star_iff]
      exact ⟨fun ⟨j, hj, h⟩ => ⟨j, hj, by rw [← gM_two]; exact h⟩, fun ⟨j, hj, h⟩ => ⟨j, hj, by rw [gM_two]; exact h⟩⟩
    · cases l with
      | nil => rw [List.cons_append, List.cons_append, gM_nil hc, gM_nil hc]
      | cons a t => rw [List.cons_append, List.cons_append, gM_cons hc, gM_cons hc, gM_two]

/-! Stars in the bytes. -/
theorem goL_star (t : List Int) : ∀ (k : Nat) (s : List Int) (c : Int), goL k (s ++ 42 :: t) c = goL k s c
  | 0, s, c => rfl
  | k + 1, [], c => by simp [goL]
  | k + 1, b :: s, c => by
    simp only [List.cons_append, goL]
    split
    · exact goL_star t k s _
    · rfl
theorem point_star (b : Int) (s t : List Int) : pointM (b :: (s ++ 42 :: t)) = pointM (b :: s) := by
  rw [pointM_cons, pointM_cons, goL_star, goL_star, goL_star]
theorem unitsF_mono : ∀ (f g : Nat) (s : List Int) (b : Int), (∀ x ∈ s, 0 ≤ x ∧ x ≤ 255) → s.length < f → s.length < g → unitsF f s b = unitsF g s b
  | 0, g, s, b, _, h, _ => by omega
  | f + 1, 0, s, b, _, _, h => by omega
  | f + 1, g + 1, s, b, hs, h1, h2 => by
    unfold unitsF
    by_cases he : s = []
    · rw [if_pos he, if_pos he]
    · rw [if_neg he, if_neg he]
      cases hp : pointM s with
      | none => rfl
      | some cn =>
        obtain ⟨c, n⟩ := cn
        have hb := pointM_bd he (getD_nonneg hs 0) hp
        simp only [stepU]
        rw [unitsF_mono f g (s.drop n) c (fun x hx => hs x (mem_drop' hx)) (by rw [List.length_drop]; omega) (by rw [List.length_drop]; omega)]
theorem unitsF_low (f : Nat) (s : List Int) (b b' : Int) (hb : ¬ (55296 ≤ b ∧ b < 56320)) (hb' : ¬ (55296 ≤ b' ∧ b' < 56320)) : unitsF f s b = unitsF f s b' := by
  cases f with
  | zero => rfl
  | succ f =>
    unfold unitsF
    split
    · rfl
    · cases pointM s with
      | none => rfl
      | some cn =>
        simp only [stepU]
        rw [if_neg (fun h => hb ⟨h.1, h.2.1⟩), if_neg (fun h => hb' ⟨h.1, h.2.1⟩)]
theorem unitsF_eqn (g : Nat) (s : List Int) (b : Int) : unitsF (g + 1) s b = if s = [] then some [] else stepU b s (unitsF g) (pointM s) := rfl
/-- A star parts the bytes. -/
theorem units_star (t : List Int) (ht : ∀ x ∈ t, 0 ≤ x ∧ x ≤ 255) : ∀ (f : Nat) (s : List Int) (b : Int), (∀ x ∈ s, 0 ≤ x ∧ x ≤ 255) → s.length + t.length + 1 < f →
    unitsF f (s ++ 42 :: t) b = (unitsF f s b).bind fun x => (unitsM t).map fun y => x ++ 42 :: y
  | 0, s, b, _, h => by omega
  | f + 1, [], b, hs, h => by
    have e1 : unitsF (f + 1) ([] ++ 42 :: t) b = (unitsF f t 42).map ([42] ++ ·) := by
      rw [List.nil_append, unitsF_eqn, if_neg (by simp), pointM_cons, if_pos (by decide)]
      simp only [stepU]
      rw [if_neg (by omega), List.drop_succ_cons, List.drop_zero, encU_1 (by decide)]
    have e2 : unitsF (f + 1) [] b = some [] := by rw [unitsF_eqn, if_pos rfl]
    have e3 : unitsF f t 42 = unitsM t := by
      unfold unitsM
      rw [unitsF_low f t 42 0 (by omega) (by omega)]
      exact unitsF_mono _ _ _ _ ht (by simp at h; omega) (by omega)
    rw [e1, e2, e3]
    rfl
  | f + 1, c0 :: s, b, hs, h => by
    have hL : unitsF (f + 1) (c0 :: s ++ 42 :: t) b = stepU b (c0 :: s ++ 42 :: t) (unitsF f) (pointM (c0 :: s)) := by
      unfold unitsF
      rw [if_neg (by simp), List.cons_append, point_star]
    have hR : unitsF (f + 1) (c0 :: s) b = stepU b (c0 :: s) (unitsF f) (pointM (c0 :: s)) := by
      unfold unitsF
      rw [if_neg (by simp)]
    rw [hL, hR]
    cases hp : pointM (c0 :: s) with
    | none => rfl
    | some cn =>
      obtain ⟨c, n⟩ := cn
      have hb := pointM_bd (by simp) (getD_nonneg hs 0) hp
      simp only [stepU]
      by_cases hq : 55296 ≤ b ∧ b < 56320 ∧ 56320 ≤ c ∧ c < 57344
      · rw [if_pos hq, if_pos hq]; rfl
      · rw [if_neg hq, if_neg hq, List.drop_append_of_le_length hb.2.2.2.2, units_star t ht f ((c0 :: s).drop n) c (fun x hx => hs x (mem_drop' hx)) (by rw [List.length_drop]; simp at h ⊢; omega)]
        cases unitsF f ((c0 :: s).drop n) c with
        | none => rfl
        | some x =>
          simp only [Option.bind_some, Option.map_some]
          cases unitsM t with
          | none => rfl
          | some y => simp
theorem unitsM_star (s t : List Int) (hs : ∀ x ∈ s, 0 ≤ x ∧ x ≤ 255) (ht : ∀ x ∈ t, 0 ≤ x ∧ x ≤ 255) : unitsM (s ++ 42 :: t) = (unitsM s).bind fun x => (unitsM t).map fun y => x ++ 42 :: y := by
  have h := units_star t ht (s.length + t.length + 2) s 0 hs (by omega)
  have e1 : unitsF (s.length + t.length + 2) s 0 = unitsM s := unitsF_mono _ _ _ _ hs (by omega) (by omega)
  rw [e1] at h
  rw [← h]
  unfold unitsM
  exact unitsF_mono _ _ _ _ (fun x hx => by
    rcases List.mem_append.1 hx with h | h
    · exact hs x h
    · rcases List.mem_cons.1 h with h | h
      · omega
      · exact ht x h) (by omega) (by rw [List.length_append, List.length_cons]; omega)
/-- A pattern with a star, and with one more beside it. -/
theorem star_more {s t : List Int} (hs : ∀ x ∈ s, 0 ≤ x ∧ x ≤ 255) (ht : ∀ x ∈ t, 0 ≤ x ∧ x ≤ 255) {r : List Int} (h : unitsM (s ++ 42 :: 42 :: t) = some r) :
    ∃ x y, r = x ++ 42 :: 42 :: y ∧ unitsM (s ++ 42 :: t) = some (x ++ 42 :: y) := by
  have h42 : ∀ x ∈ (42 :: t : List Int), 0 ≤ x ∧ x ≤ 255 := fun x hx => by
    rcases List.mem_cons.1 hx with h | h
    · omega
    · exact ht x h
  rw [unitsM_star s (42 :: t) hs h42] at h
  have h2 := unitsM_star [] t (fun x hx => by cases hx) ht
  rw [List.nil_append] at h2
  rw [unitsM_star s t hs ht]
  cases hus : unitsM s with
  | none => rw [hus] at h; cases h
  | some x =>
    rw [hus] at h
    simp only [Option.bind_some] at h ⊢
    cases hut : unitsM t with
    | none => rw [h2, hut] at h; simp [unitsM, unitsF] at h
    | some y =>
      rw [h2, hut] at h
      have e0 : unitsM ([] : List Int) = some [] := rfl
      rw [e0] at h
      simp only [Option.bind_some, Option.map_some, List.nil_append, Option.some.injEq] at h
      exact ⟨x, y, h.symm, rfl⟩
/-- A star behind a pattern. -/
theorem star_behind {p : List Int} (hp : ∀ x ∈ p, 0 ≤ x ∧ x ≤ 255) : unitsM (p ++ [42]) = (unitsM p).map fun x => x ++ [42] := by
  rw [unitsM_star p [] hp (fun x hx => by cases hx)]
  cases unitsM p with
  | none => rfl
  | some x => rfl
/-- What Match says of a name. -/
theorem match_name {q a : ByteArray} {u : List Int} (ha : checkM a = 0) (hu : getU a = some u) :
    (matchM q a).2 = 0 → ∃ r, getU q = some r ∧ r.length ≤ 64 ∧ (matchM q a).1 = gM r u := by
  obtain ⟨u', hu', -, h32, -⟩ := check_units ha
  rw [hu] at hu'
  cases hu'
  unfold matchM
  cases hq : getU q with
  | none => intro h; cases h
  | some r =>
    simp only
    by_cases hl : 64 < r.length
    · rw [if_pos hl]; intro h; cases h
    · rw [if_neg hl, if_neg (by rw [ha]; decide), hu]
      intro _
      exact ⟨r, rfl, by omega, matchU_is r u (by omega) h32⟩
theorem match_errs {q a b : ByteArray} (ha : checkM a = 0) (hb : checkM b = 0) : (matchM q a).2 = (matchM q b).2 := by
  obtain ⟨u, hu, -⟩ := check_units ha
  obtain ⟨v, hv, -⟩ := check_units hb
  unfold matchM
  cases hq : getU q with
  | none => rfl
  | some r =>
    simp only
    split
    · rfl
    · rw [if_neg (by rw [ha]; decide), if_neg (by rw [hb]; decide), hu, hv]
theorem match_ok {q a : ByteArray} {r u : List Int} (ha : checkM a = 0) (hu : getU a = some u) (hq : getU q = some r) (hl : r.length ≤ 64) : matchM q a = (gM r u, 0) := by
  obtain ⟨u', hu', -, h32, -⟩ := check_units ha
  rw [hu] at hu'
  cases hu'
  unfold matchM
  rw [hq]
  simp only
  rw [if_neg (by omega), if_neg (by rw [ha]; decide), hu]
  simp only
  rw [matchU_is r u hl h32]
theorem name_plain {a : ByteArray} {u : List Int} (ha : checkM a = 0) (hu : getU a = some u) : ∀ c ∈ u, ¬ c = 42 ∧ ¬ c = 63 := by
  obtain ⟨u', hu', -, -, -, hb⟩ := check_units ha
  rw [hu] at hu'
  cases hu'
  rw [List.any_eq_false] at hb
  intro c hc
  have h1 := hb c hc
  refine ⟨fun e => h1 (by rw [e]; decide), fun e => h1 (by rw [e]; decide)⟩
end Go.Proofs.YtmbdiimenmnfjaaDoor
/- The rows' words: what the condition on the listed variables gives; a world that meets it; an argument that is a slice of strings. -/
namespace Go.Proofs.YtmbdiimenmnfjaaDoor
open Go.Shelf Go.ChangeShapes Go.WideShapes Go.ChangeAt Go.RowKit Go.Deep
open Go.ChangeMaps (open_string shut_string)
set_option linter.unusedVariables false
set_option maxRecDepth 100000

theorem Tryd.own : ownKnob Tryd.prog.godebug = none := by kernel_rfl
theorem Tryd.laidOut : laidOutB Tryd.prog = true := by kernel_rfl
theorem Tryd.cells9 : Tryd.prog.cellsOf 9 = 1 := by kernel_rfl
theorem Tryd.cells46 : Tryd.prog.cellsOf 46 = 1 := by kernel_rfl
theorem Tryd.cells120 : Tryd.prog.cellsOf 120 = 1 := by kernel_rfl
theorem Tryd.cells126 : Tryd.prog.cellsOf 126 = 20 := by kernel_rfl
theorem Tryd.gP : Tryd.prog.globalNamed "internal/strconv.uint64pow10" = some 1 := by kernel_rfl
theorem Tryd.gPType : (Tryd.prog.globals[1]?).map (·.type) = some 126 := by kernel_rfl

def laidL : List (String × DataW Unit) := [("math/bits.deBruijn32tab", Rows.laid_math_bits_deBruijn32tab), ("math/bits.deBruijn64tab", Rows.laid_math_bits_deBruijn64tab), ("internal/strconv.uint64pow10", Rows.laid_internal_strconv_uint64pow10)]
theorem tab_of_laid {W : World} (h : laidMet Tryd.prog laidL W) : Tab W := by
  have h3 : laidMet Tryd.prog [("internal/strconv.uint64pow10", Lib.tabData .u64 Lib.pow10Tab)] W := h.tail.tail
  exact Lib.tabIs_of_head Tryd.gP Tryd.gPType Tryd.underlying126 Tryd.underlying120 Tryd.cells120 Tryd.cells126 h3

def cellsOfData : DataW Unit → Array Value
  | .agg l => (l.map fun
    | .lit (.int k z) => Value.int k z
    | _ => .int .i64 0).toArray
  | _ => #[]
/-- A world that meets the condition: the settled one, the three variables laid. -/
noncomputable def laidWorld (os : Os) : World :=
  let w0 := World.holding Tryd.prog os ⟨#[], #[], []⟩
  let put (h : Array Obj) (g : Nat) (cs : Array Value) : Array Obj := h.modify g fun
    | .cells _ t frozen => .cells cs t frozen
    | o => o
  let h1 := put w0.heap 1 (cellsOfData Rows.laid_internal_strconv_uint64pow10)
  let h2 := put h1 2 (cellsOfData Rows.laid_math_bits_deBruijn32tab)
  let h3 := put h2 3 (cellsOfData Rows.laid_math_bits_deBruijn64tab)
  { w0 with heap := h3 }
theorem laid_met (os : Os) (args : Array Value) : laidMet Tryd.prog laidL ((laidWorld os).forCall (fun _ _ => 0) ⟨#[], args, []⟩).memory :=
  (LaidIn.of_run [2, 3, 1] 8 (by kernel_rfl) (by kernel_rfl) (by kernel_rfl) (by kernel_rfl)).met

section
variable {H : Type} {enc : TypeId × Value → H}
/-- A slice of strings that came in. -/
theorem open_taken {W : World} {base : Nat} {v1 : Value} {d1 : DataW H} {p1 : List MemPlace} (hval : Value.okWide Tryd.prog W .any base 33 v1) (h1 : DataW.Trod enc Tryd.prog W 0 (fun _ => true) true 33 v1 d1 p1) :
    ∃ A c b, v1 = .slice A b.length c ∧ b.length ≤ c ∧ b.length ≤ maxLen ∧ RdS W A b.length b := by
  obtain ⟨a1, len, cap, rfl⟩ := okWide_slice Tryd.underlying33 hval
  obtain ⟨fuel, hf⟩ := h1
  rcases open_strings Tryd.underlying33 Tryd.underlying9 Tryd.cells9 hf with ⟨hcs, hx⟩ | ⟨a, len', cap', zs, hcs, _, hl, hm, hz, hx, hcell, hwz⟩
  · simp [Value.cells] at hcs
    obtain ⟨rfl, rfl, rfl⟩ := hcs
    exact ⟨none, 0, [], rfl, by simp, by simp, ⟨rfl, by simp, fun j hj => absurd hj (Nat.not_lt_zero _)⟩⟩
  · simp [Value.cells] at hcs
    obtain ⟨rfl, rfl, rfl⟩ := hcs
    simp only [if_true] at hz
    have hlen : (zs.take len).length = len := by simp; omega
    have hget : ∀ j, j < len → (zs.take len).getD j ByteArray.empty = zs.getD j ByteArray.empty := fun j hj => by
      simp [List.getD_eq_getElem?_getD, hj]
    refine ⟨some a, cap, zs.take len, by rw [hlen], by rw [hlen]; exact hl, by rw [hlen]; omega, ⟨rfl, by rw [hlen]; simp only [maxLen] at hm; omega, fun j hj => ⟨a, rfl, ?_⟩⟩⟩
    rw [hlen] at hj
    rw [hget j hj]
    exact hcell j (by omega)
theorem shut_bool {W : World} {base : Nat} {spare : Nat → Bool} {held : Bool} (b : Bool) : DataW.Trod enc Tryd.prog W base spare held 4 (.bool b) (.lit (.bool b)) [] :=
  ⟨1, by simp [DataW.trod, Value.cells, Tryd.underlying4]⟩
end
end Go.Proofs.YtmbdiimenmnfjaaDoor
/- Walk: the law NamesPatterns. -/
namespace Go.Proofs.YtmbdiimenmnfjaaDoor
open Go.RowKit Go.Deep
set_option linter.unusedVariables false
set_option linter.unusedSimpArgs false

theorem units_rd3 (s : ByteArray) (hs : s.size ≤ 100000) (w : World) (r : List Int) (h : getU s = some r) :
    Calls Tryd.prog 33 #[.string s] w fun e w' => (∃ A c, e = .returned (.tuple #[.slice A r.length c, .int .i64 0]) ∧ (Rd w' .u16 A r.length r ∧ r.length ≤ c)) ∧ Below w.heap.size w w' :=
  (units_ok s hs w r h).mono fun e w' ⟨v, he, hO, hB⟩ => by
    obtain ⟨A, c, rfl, hc, hRd, -⟩ := own_nums hO (by have := (getU_props h).2.2; omega)
    exact ⟨⟨A, c, he, hRd, hc⟩, hB⟩
theorem string_at (A : Option Addr) (c n : Nat) (xs : List Int) (hn : xs.length = n) (hx : U16 xs) (w : World) (hR : Rd w .u16 A n xs) :
    Calls Tryd.prog 37 #[.slice A n c] w fun e w' => e = .returned (.tuple #[.string (strM xs).1, .int .i64 (strM xs).2]) ∧ Below w.heap.size w w' := by
  subst hn
  exact string_any A c xs hx w hR
theorem and31 (x : Int) : ∃ K : Nat, K ≤ 31 ∧ bits .and .i64 x 31 = (K : Int) := by
  refine ⟨(BitVec.ofInt 64 x).toNat &&& 31, Nat.and_le_right, ?_⟩
  have h : (BitVec.ofInt 64 x).toNat &&& 31 ≤ 31 := Nat.and_le_right
  have e : (BitVec.ofInt 64 31).toNat = 31 := by decide
  show IntKind.i64.wrap (((BitVec.ofInt 64 x &&& BitVec.ofInt 64 31).toNat : Nat) : Int) = _
  rw [BitVec.toNat_and, e]
  exact IntWalk.i64_in _ (by omega)
theorem match_zero {q x : ByteArray} (h : (matchM q x).2 = 0) : checkM x = 0 := by
  unfold matchM at h
  cases hq : getU q with
  | none => rw [hq] at h; simp at h
  | some r =>
    rw [hq] at h
    simp only at h
    split at h
    · simp at h
    · split at h
      · exact h
      · rename_i hc
        exact Classical.byContradiction hc
theorem match_same {q a b : ByteArray} {u v : List Int} (ha : checkM a = 0) (hb : checkM b = 0) (hu : getU a = some u) (hv : getU b = some v) (h : u.map upM = v.map upM) : matchM q a = matchM q b := by
  obtain ⟨u', hu', -, h32, -⟩ := check_units ha
  rw [hu] at hu'
  cases hu'
  obtain ⟨v', hv', -, k32, -⟩ := check_units hb
  rw [hv] at hv'
  cases hv'
  unfold matchM
  cases hq : getU q with
  | none => rfl
  | some r =>
    simp only
    by_cases hl : 64 < r.length
    · rw [if_pos hl, if_pos hl]
    · rw [if_neg hl, if_neg hl, if_neg (by rw [ha]; decide), if_neg (by rw [hb]; decide), hu, hv]
      simp only
      rw [matchU_is r u (by omega) h32, matchU_is r v (by omega) k32, gM_up r u v h]
/-- What begins with what a pattern matches is matched by the pattern and a star. -/
theorem head_star {p a HD : ByteArray} {u : List Int} {K : Nat} (ha : checkM a = 0) (hu : getU a = some u) (hh : getU HD = some (u.take K)) (h1 : (matchM p HD).2 = 0) (h2 : (matchM (p ++ ⟨#[42]⟩) a).2 = 0) (h3 : (matchM p HD).1 = true) : (matchM (p ++ ⟨#[42]⟩) a).1 = true := by
  have hc := match_zero h1
  obtain ⟨r, hr, hrl, e1⟩ := match_name hc hh h1
  obtain ⟨r', hr', hrl', e2⟩ := match_name ha hu h2
  rw [e1] at h3
  rw [e2]
  have hb : bts (p ++ ⟨#[42]⟩) = bts p ++ [42] := by rw [bts_append]; rfl
  have h4 := (getU_iff.1 hr').1
  rw [hb, star_behind (bts_range p), (getU_iff.1 hr).1] at h4
  obtain rfl : r ++ [42] = r' := by simpa using h4
  have := gM_tail r (u.take K) (u.drop K) h3
  rwa [List.take_append_drop] at this
/-- A star more beside a star. -/
theorem star_beside {p a Q : ByteArray} {u : List Int} {i : Nat} (hi : i < p.size) (hx : (bts p).getD i 0 = 42) (ha : checkM a = 0) (hu : getU a = some u) (hQ : bts Q = (bts p).take i ++ 42 :: (bts p).drop i) (h : (matchM Q a).2 = 0) : (matchM Q a).1 = (matchM p a).1 := by
  obtain ⟨r, hr, hrl, e1⟩ := match_name ha hu h
  have hdr : (bts p).drop i = 42 :: (bts p).drop (i + 1) := by rw [← hx]; exact drop_cons (by rw [bts_len]; exact hi)
  have hpb : bts p = (bts p).take i ++ 42 :: (bts p).drop (i + 1) := by rw [← hdr, List.take_append_drop]
  have h4 := (getU_iff.1 hr).1
  rw [hQ, hdr] at h4
  obtain ⟨x, y, e, hp⟩ := star_more (fun z hz => bts_range p z (List.mem_of_mem_take hz)) (fun z hz => bts_range p z (List.mem_of_mem_drop hz)) h4
  rw [← hpb] at hp
  have hlen : (x ++ 42 :: y).length + 1 = r.length := by rw [e]; simp; omega
  have hgp : getU p = some (x ++ 42 :: y) := getU_iff.2 ⟨hp, by omega⟩
  rw [match_ok ha hu hgp (by omega), e1, e, gM_two]

theorem index_at (p : ByteArray) (i : Nat) (hi : i < p.size) : ∃ x : Int, (bts p).getD i 0 = x ∧ ∀ W : World, (Instr.index 9 (.string p) (.int .i64 (i : Int))).run Tryd.prog W = .ok (.int .u8 x) W := by
  refine ⟨(p[i]).toNat, ?_, fun W => ?_⟩
  · unfold bts
    rw [List.getD_eq_getElem?_getD, List.getElem?_map, List.getElem?_eq_getElem (by rw [Array.length_toList]; exact hi)]
    rfl
  · rw [run_index_string _ 9 p .i64 i Tryd.underlying9, dif_pos ⟨by omega, by omega⟩]
    rfl
theorem bts_dropA (s : ByteArray) (n : Nat) : bts (s.extract n s.size) = (bts s).drop n := by
  unfold bts
  rw [ByteArray.data_extract, Array.toList_extract, List.extract_eq_take_drop, ← List.map_drop, List.take_of_length_le]
  rw [List.length_drop, Array.length_toList]
  exact Nat.le_refl _
theorem parts_at (p : ByteArray) (i : Nat) (hi : i < p.size) (hp : p.size ≤ 400) : ∃ L L1 R Q : ByteArray, (∀ W : World, (Instr.slice 9 (.string p) none (some (.int .i64 (i : Int))) none).run Tryd.prog W = .ok (.string L) W) ∧
    (∀ W : World, (Instr.slice 9 (.string p) (some (.int .i64 (i : Int))) none none).run Tryd.prog W = .ok (.string R) W) ∧ (∀ W : World, (Op.stringOp .add L ⟨#[42]⟩).run Tryd.prog W = .ok (.string L1) W) ∧
    (∀ W : World, (Op.stringOp .add L1 R).run Tryd.prog W = .ok (.string Q) W) ∧ Q.size ≤ 401 ∧ bts Q = (bts p).take i ++ 42 :: (bts p).drop i := by
  have e1 : (p.extract 0 i).size ≤ 400 := by rw [← bts_len, bts_take, List.length_take, bts_len]; omega
  have e2 : (p.extract i p.size).size ≤ 400 := by rw [← bts_len, bts_dropA, List.length_drop, bts_len]; omega
  have e3 : (⟨#[42]⟩ : ByteArray).size = 1 := rfl
  have e4 : (p.extract 0 i ++ ⟨#[42]⟩).size ≤ 401 := by rw [← bts_len, bts_append, List.length_append, bts_len, bts_len]; omega
  have e5 : bts (p.extract 0 i ++ ⟨#[42]⟩ ++ p.extract i p.size) = (bts p).take i ++ 42 :: (bts p).drop i := by
    rw [bts_append, bts_append, bts_take, bts_drop]
    show (bts p).take i ++ [42] ++ _ = _
    rw [List.append_assoc]; rfl
  refine ⟨_, _, _, _, fun W => run_slice_string_h W 9 p Tryd.underlying9 .i64 i (by omega) (by omega), fun W => run_slice_string_l W 9 p Tryd.underlying9 .i64 i (by omega) (by omega), fun W => run_string_add_sum W _ _ (by simp only [Int.toNat_natCast]; omega), fun W => run_string_add_sum W _ _ ?_, ?_, ?_⟩
  · simp only [Int.toNat_natCast]; omega
  · rw [← bts_len]; simp only [Int.toNat_natCast]; rw [e5]; simp [bts_len]; omega
  · simp only [Int.toNat_natCast]; exact e5
theorem star_size (p : ByteArray) (hp : p.size ≤ 400) : (p ++ ⟨#[42]⟩).size ≤ 401 := by
  have e3 : (⟨#[42]⟩ : ByteArray).size = 1 := rfl
  rw [← bts_len, bts_append, List.length_append, bts_len, bts_len]; omega

set_option maxRecDepth 100000 in
set_option maxHeartbeats 8000000 in
theorem law_NamesPatterns (p a b : ByteArray) (cut : Int) (hcut : -9223372036854775808 ≤ cut ∧ cut ≤ 9223372036854775807) (w : World) (ht : Tab w) : Calls Tryd.prog 11 #[.string p, .string a, .string b, .int .i64 cut] w fun e w' => e = .returned (.bool true) ∧ Below w.heap.size w w' := by
  have HT := Lib.hid ht
  clear ht
  obtain ⟨f, hf⟩ : ∃ f, fewM [p, a, b] = f := ⟨_, rfl⟩
  have HF := Lib.hid hf
  cases f with
  | false =>
    clear hf
    go_enter Tryd.func11, Tryd.ntmps11
    go_wp2_with (first
      | ((have hgd := HB1); clear hgd; go_at_call 15; refine (sanity_any _ (HT.out.below HB1.out)).mono ?_; rintro e w2 ⟨rfl, hB⟩; (have HB2 := Lib.hid (below_then HB1.out HB1.out.size hB)); clear hB)
      | (go_at_call 14; refine (few_three p a b _ _ rfl).mono ?_; rintro e w1 ⟨rfl, hB⟩; rw [HF.out]; (have HB1 := Lib.hid hB); clear hB))
    go_ret
    exact ⟨rfl, HB2.out⟩
  | true =>
  have hz := (few_is hf).1
  have hzp : p.size ≤ 400 := hz p (by simp)
  have hza : a.size ≤ 400 := hz a (by simp)
  have hzb : b.size ≤ 400 := hz b (by simp)
  clear hf hz
  by_cases hca : ¬ checkM a = 0
  · obtain ⟨CA, hCA⟩ : ∃ C, checkM a = C := ⟨_, rfl⟩
    rw [hCA] at hca
    have hcab : (CA == 0) = false := by simpa using hca
    have HCA := Lib.hid hCA
    clear hCA
    go_enter Tryd.func11, Tryd.ntmps11
    go_wp2_with (first
    | ((have hgd := HB2); clear hgd; go_at_call 15; refine (sanity_any _ (HT.out.below HB2.out)).mono ?_; rintro e w3 ⟨rfl, hB⟩; (have HB3 := Lib.hid (below_then HB2.out HB2.out.size hB)); clear hB)
    | ((have hgd := HB1); clear hgd; go_at_call 19; refine (valid_any a (by omega) _).mono ?_; rintro e w2 ⟨rfl, hB⟩; rw [HCA.out]; (have HB2 := Lib.hid (below_then HB1.out HB1.out.size hB)); clear hB)
    | (go_at_call 14; refine (few_three p a b _ _ rfl).mono ?_; rintro e w1 ⟨rfl, hB⟩; rw [HF.out]; (have HB1 := Lib.hid hB); clear hB))
    go_ret
    exact ⟨rfl, HB3.out⟩
  have hca : checkM a = 0 := Classical.not_not.1 hca
  by_cases hcb : ¬ checkM b = 0
  · obtain ⟨CB, hCB⟩ : ∃ C, checkM b = C := ⟨_, rfl⟩
    rw [hCB] at hcb
    have hcbb : (CB == 0) = false := by simpa using hcb
    have HCA := Lib.hid hca
    have HCB := Lib.hid hCB
    clear hCB hca
    go_enter Tryd.func11, Tryd.ntmps11
    go_wp2_with (first
    | ((have hgd := HB3); clear hgd; go_at_call 15; refine (sanity_any _ (HT.out.below HB3.out)).mono ?_; rintro e w4 ⟨rfl, hB⟩; (have HB4 := Lib.hid (below_then HB3.out HB3.out.size hB)); clear hB)
    | ((have hgd := HB2); clear hgd; go_at_call 19; refine (valid_any b (by omega) _).mono ?_; rintro e w3 ⟨rfl, hB⟩; rw [HCB.out]; (have HB3 := Lib.hid (below_then HB2.out HB2.out.size hB)); clear hB)
    | ((have hgd := HB1); clear hgd; go_at_call 19; refine (valid_any a (by omega) _).mono ?_; rintro e w2 ⟨rfl, hB⟩; rw [HCA.out]; (have HB2 := Lib.hid (below_then HB1.out HB1.out.size hB)); clear hB)
    | (go_at_call 14; refine (few_three p a b _ _ rfl).mono ?_; rintro e w1 ⟨rfl, hB⟩; rw [HF.out]; (have HB1 := Lib.hid hB); clear hB))
    go_ret
    exact ⟨rfl, HB4.out⟩
  have hcb : checkM b = 0 := Classical.not_not.1 hcb
  obtain ⟨u, hu, -, hul, -⟩ := check_units hca
  obtain ⟨v, hv, -, hvl, -⟩ := check_units hcb
  obtain ⟨S, hS⟩ : ∃ S, sameM a b = S := ⟨_, rfl⟩
  have hSd : decide (u.map upM = v.map upM) = S := by
    rw [← hS, Bool.eq_iff_iff, decide_eq_true_eq, sameM_iff]
    constructor
    · exact fun h => Or.inr ⟨u, v, hu, hv, h⟩
    · rintro (h | ⟨x, y, h1, h2, h3⟩)
      · rw [h, hv] at hu; cases hu; rfl
      · rw [hu] at h1; rw [hv] at h2; cases h1; cases h2; exact h3
  have HM1 : Hid (matchM a b = (S, 0)) := Lib.hid (by rw [match_ok hcb hv hu (by omega), gM_plain u v (name_plain hca hu), hSd])
  have HM2 : Hid (matchM ⟨#[42]⟩ a = (true, 0)) := Lib.hid (by rw [match_ok hca hu (show getU ⟨#[42]⟩ = some [42] by kernel_rfl) (by decide), gM_all])
  obtain ⟨MA, hMA⟩ : ∃ m, matchM p a = m := ⟨_, rfl⟩
  obtain ⟨MB, hMB⟩ : ∃ m, matchM p b = m := ⟨_, rfl⟩
  have hE : MA.2 = MB.2 := by rw [← hMA, ← hMB]; exact match_errs hca hcb
  have HSM : Hid (S = true → MA.1 = MB.1) := Lib.hid (fun h => by rw [← hMA, ← hMB, match_same hca hcb hu hv (by rw [← hSd, decide_eq_true_eq] at h; exact h)])
  obtain ⟨M1, E⟩ := MA
  obtain ⟨M2, E2⟩ := MB
  simp only at hE
  subst hE
  have HS := Lib.hid hS
  have HMA := Lib.hid hMA
  have HMB := Lib.hid hMB
  have HCA := Lib.hid hca
  have HCB := Lib.hid hcb
  have HUA := Lib.hid hu
  have HXU := Lib.hid (getU_props hu).1
  obtain ⟨K, hK31, hK⟩ := and31 cut
  clear hS hSd hMA hMB hca hcb hv hu
  go_enter Tryd.func11, Tryd.ntmps11
  go_upto_region 9 with (first
    | ((have hgd := HB7); clear hgd; go_at_call 29; refine (match_any p b (by omega) (by omega) _).mono ?_; rintro e w8 ⟨rfl, hB⟩; rw [HMB.out]; (have HB8 := Lib.hid (below_then HB7.out HB7.out.size hB)); clear hB)
    | ((have hgd := HB6); clear hgd; go_at_call 29; refine (match_any p a (by omega) (by omega) _).mono ?_; rintro e w7 ⟨rfl, hB⟩; rw [HMA.out]; (have HB7 := Lib.hid (below_then HB6.out HB6.out.size hB)); clear hB)
    | ((have hgd := HB5); clear hgd; go_at_call 23; refine (same_any a b (by omega) (by omega) _).mono ?_; rintro e w6 ⟨rfl, hB⟩; rw [HS.out]; (have HB6 := Lib.hid (below_then HB5.out HB5.out.size hB)); clear hB)
    | ((have hgd := HB4); clear hgd; go_at_call 29; refine (match_any ⟨#[42]⟩ a (by decide) (by omega) _).mono ?_; rintro e w5 ⟨rfl, hB⟩; rw [HM2.out]; (have HB5 := Lib.hid (below_then HB4.out HB4.out.size hB)); clear hB)
    | ((have hgd := HB3); clear hgd; go_at_call 29; refine (match_any a b (by omega) (by omega) _).mono ?_; rintro e w4 ⟨rfl, hB⟩; rw [HM1.out]; (have HB4 := Lib.hid (below_then HB3.out HB3.out.size hB)); clear hB)
    | ((have hgd := HB2); clear hgd; go_at_call 19; refine (valid_any b (by omega) _).mono ?_; rintro e w3 ⟨rfl, hB⟩; rw [HCB.out]; (have HB3 := Lib.hid (below_then HB2.out HB2.out.size hB)); clear hB)
    | ((have hgd := HB1); clear hgd; go_at_call 19; refine (valid_any a (by omega) _).mono ?_; rintro e w2 ⟨rfl, hB⟩; rw [HCA.out]; (have HB2 := Lib.hid (below_then HB1.out HB1.out.size hB)); clear hB)
    | (go_at_call 14; refine (few_three p a b _ _ rfl).mono ?_; rintro e w1 ⟨rfl, hB⟩; rw [HF.out]; (have HB1 := Lib.hid hB); clear hB))
  go_cut [96] (fun v96 wc => v96 = .bool false ∧ Hid (Below w.heap.size w wc))
  case first =>
    cases S with
    | false =>
      go_wp2_with (first
        | ((have hgd := HB8); clear hgd; go_at_call 23; refine (same_any a b (by omega) (by omega) _).mono ?_; rintro e w9 ⟨rfl, hB⟩; rw [HS.out]; (have HB9 := Lib.hid (below_then HB8.out HB8.out.size hB)); clear hB))
      go_meet
      case rel => exact ⟨rfl, HB9⟩
    | true =>
      have hm : M1 = M2 := HSM.out rfl
      subst hm
      go_wp2_with (first
        | ((have hgd := HB8); clear hgd; go_at_call 23; refine (same_any a b (by omega) (by omega) _).mono ?_; rintro e w9 ⟨rfl, hB⟩; rw [HS.out]; (have HB9 := Lib.hid (below_then HB8.out HB8.out.size hB)); clear hB))
      go_meet
      case rel => exact ⟨rfl, HB9⟩
  case rest =>
    obtain ⟨rfl, HB20⟩ := hcut
    go_upto_region 12 with (first
    | ((have hgd := HB20); clear hgd; go_at_call 33; refine (units_rd3 a (by omega) _ u HUA.out).mono ?_; rintro e w21 ⟨⟨A15, c15, rfl, hR15⟩, hB⟩; (have HR15 := Lib.hid hR15); clear hR15; (have HB21 := Lib.hid (below_then HB20.out HB20.out.size hB)); clear hB))
    by_cases hek : E = 0 ∧ K < u.length
    · obtain ⟨rfl, hKu⟩ := hek
      have hKi : (K : Int) < u.length := by omega
      obtain ⟨HD, hHD⟩ : ∃ H, mkB (textM (u.take K)) = H := ⟨_, rfl⟩
      have hul2 := (getU_props HUA.out).2.2
      have hHz : HD.size ≤ 200 := by rw [← hHD, mkB_size]; have := textM_len (u.take K); rw [List.length_take] at this; omega
      have HTK : Hid ((u.take K).length = K) := Lib.hid (by rw [List.length_take]; omega)
      have HUT : Hid (U16 (u.take K)) := Lib.hid (fun x h => HXU.out x (List.mem_of_mem_take h))
      have HGH : Hid (getU HD = some (u.take K)) := Lib.hid (by rw [← hHD]; exact getU_text HUT.out (by rw [HTK.out]; omega))
      have HST : Hid (strM (u.take K) = (HD, 0)) := Lib.hid (by unfold strM; rw [if_pos (by rw [HTK.out]; omega), hHD])
      have HKL : Hid (K ≤ u.length) := Lib.hid (by omega)
      obtain ⟨PS, hPS⟩ : ∃ S, p ++ (⟨#[42]⟩ : ByteArray) = S := ⟨_, rfl⟩
      have hPz : PS.size ≤ 401 := by rw [← hPS]; exact star_size p hzp
      have hadd : ∀ W : World, (Op.stringOp .add p ⟨#[42]⟩).run Tryd.prog W = .ok (.string PS) W := fun W => by rw [run_string_add_sum _ _ _ (by have e3 : (⟨#[42]⟩ : ByteArray).size = 1 := rfl; omega), hPS]
      have hsl := fun W => slice_to49 A15 u.length c15 K (by have := HR15.out.2; omega) (by have := HR15.out.2; omega) W
      obtain ⟨⟨BG, E3⟩, hBG⟩ : ∃ m, matchM p HD = m := ⟨_, rfl⟩
      obtain ⟨⟨LL, E4⟩, hLL⟩ : ∃ m, matchM PS a = m := ⟨_, rfl⟩
      have HBG := Lib.hid hBG
      have HLL := Lib.hid hLL
      have HHS : Hid (E3 = 0 → E4 = 0 → BG = true → LL = true) := Lib.hid (fun h1 h2 h3 => by
        have := head_star (p := p) HCA.out HUA.out HGH.out (by rw [hBG]; exact h1) (by rw [hPS, hLL]; exact h2) (by rw [hBG]; exact h3)
        rwa [hPS, hLL] at this)
      clear hHD hPS hBG hLL hKu
      go_upto_region 17 with (first
          | ((have hgd := HB23); clear hgd; go_at_call 29; refine (match_any PS a (by omega) (by omega) _).mono ?_; rintro e w24 ⟨rfl, hB⟩; rw [HLL.out]; (have HB24 := Lib.hid (below_then HB23.out HB23.out.size hB)); clear hB)
          | ((have hgd := HB22); clear hgd; go_at_call 29; refine (match_any p HD (by omega) (by omega) _).mono ?_; rintro e w23 ⟨rfl, hB⟩; rw [HBG.out]; (have HB23 := Lib.hid (below_then HB22.out HB22.out.size hB)); clear hB)
          | ((have hgd := HB21); clear hgd; go_at_call 37; refine (string_at A15 c15 K (u.take K) HTK.out HUT.out _ (HR15.out.1.take K HKL.out)).mono ?_; rintro e w22 ⟨rfl, hB⟩; rw [HST.out]; (have HB22 := Lib.hid (below_then HB21.out HB21.out.size hB)); clear hB))
      go_cut [148] (fun v wc => v = .bool false ∧ Hid (Below w.heap.size w wc))
      case first =>
        by_cases h3 : E3 = 0
        · by_cases h4 : E4 = 0
          · cases BG with
            | true =>
              have := HHS.out h3 h4 rfl
              subst this
              subst h3
              subst h4
              go_wp2
              go_meet
              case rel => exact ⟨rfl, HB24⟩
            | false =>
              subst h3
              subst h4
              go_wp2
              go_meet
              case rel => exact ⟨rfl, HB24⟩
          · subst h3
            have h4b : (E4 == 0) = false := by simpa using h4
            go_wp2
            go_meet
            case rel => exact ⟨rfl, HB24⟩
        · have h3b : (E3 == 0) = false := by simpa using h3
          go_wp2
          go_meet
          case rel => exact ⟨rfl, HB24⟩
      case rest =>
        obtain ⟨rfl, HB50⟩ := hcut
        go_wp2
        go_loopw [24] (fun v W => ∃ i : Nat, v = .int .i64 i ∧ i ≤ p.size ∧ Hid (Below w.heap.size w W)) (fun i _ => p.size - (intOf i).toNat)
        case atStart => exact ⟨0, rfl, by omega, HB50⟩
        case round =>
          obtain ⟨i, rfl, hil, HB60⟩ := hrel
          by_cases hlt : i < p.size
          · have hlti : (i : Int) < p.size := by omega
            obtain ⟨x, hx, hix⟩ := index_at p i hlt
            by_cases h42 : x = 42
            · subst h42
              obtain ⟨L, L1, R, Q, hs1, hs2, ha1, ha2, hQz, hQb⟩ := parts_at p i hlt hzp
              obtain ⟨⟨X, F⟩, hQ⟩ : ∃ m, matchM Q a = m := ⟨_, rfl⟩
              have HQ := Lib.hid hQ
              have HXM : Hid (F = 0 → X = M1) := Lib.hid (fun h => by
                have := star_beside hlt hx HCA.out HUA.out hQb (by rw [hQ]; exact h)
                rwa [hQ, HMA.out] at this)
              clear hQ hQb hx
              go_upto_region 23 with (fail)
              go_region_with (go_at_call 29; refine (match_any Q a (by omega) (by omega) _).mono ?_; rintro e w61 ⟨rfl, hB⟩; rw [HQ.out]; (have HB61 := Lib.hid (below_then (below_drew1 HB60.out) (below_drew1 HB60.out).size hB)); clear hB)
              all_goals
                by_cases hF : F = 0
                · have hXM := HXM.out hF
                  subst hF
                  subst hXM
                  cases X <;>
                  · go_wp2_with (go_at_call 15; refine (sanity_any _ (HT.out.below HB61.out)).mono ?_; rintro e w62 ⟨rfl, hB⟩; (have HB62 := Lib.hid (below_then HB61.out HB61.out.size hB)); clear hB)
                    go_ret
                    exact ⟨rfl, HB62.out⟩
                · have hFb : (F == 0) = false := by simpa using hF
                  go_wp2_with (go_at_call 15; refine (sanity_any _ (HT.out.below HB61.out)).mono ?_; rintro e w62 ⟨rfl, hB⟩; (have HB62 := Lib.hid (below_then HB61.out HB61.out.size hB)); clear hB)
                  go_ret
                  exact ⟨rfl, HB62.out⟩
            · have h42b : (x == 42) = false := by simpa using h42
              go_wp2
              exact ⟨⟨i + 1, by simp, by omega, HB60⟩, by simp only [intOf]; omega⟩
          · have hlti : ¬ ((i : Int) < p.size) := by omega
            go_wp2_with (go_at_call 15; refine (sanity_any _ (HT.out.below HB60.out)).mono ?_; rintro e w62 ⟨rfl, hB⟩; (have HB62 := Lib.hid (below_then HB60.out HB60.out.size hB)); clear hB)
            go_ret
            exact ⟨rfl, HB62.out⟩
    · by_cases hE0 : E = 0
      · have hKn : ¬ (K : Int) < u.length := by omega
        subst hE0
        go_wp2
        go_loopw [24] (fun v W => ∃ i : Nat, v = .int .i64 i ∧ i ≤ p.size ∧ Hid (Below w.heap.size w W)) (fun i _ => p.size - (intOf i).toNat)
        case atStart => exact ⟨0, rfl, by omega, HB21⟩
        case round =>
          obtain ⟨i, rfl, hil, HB60⟩ := hrel
          by_cases hlt : i < p.size
          · have hlti : (i : Int) < p.size := by omega
            obtain ⟨x, hx, hix⟩ := index_at p i hlt
            by_cases h42 : x = 42
            · subst h42
              obtain ⟨L, L1, R, Q, hs1, hs2, ha1, ha2, hQz, hQb⟩ := parts_at p i hlt hzp
              obtain ⟨⟨X, F⟩, hQ⟩ : ∃ m, matchM Q a = m := ⟨_, rfl⟩
              have HQ := Lib.hid hQ
              have HXM : Hid (F = 0 → X = M1) := Lib.hid (fun h => by
                have := star_beside hlt hx HCA.out HUA.out hQb (by rw [hQ]; exact h)
                rwa [hQ, HMA.out] at this)
              clear hQ hQb hx
              go_upto_region 23 with (fail)
              go_region_with (go_at_call 29; refine (match_any Q a (by omega) (by omega) _).mono ?_; rintro e w61 ⟨rfl, hB⟩; rw [HQ.out]; (have HB61 := Lib.hid (below_then (below_drew1 HB60.out) (below_drew1 HB60.out).size hB)); clear hB)
              all_goals
                by_cases hF : F = 0
                · have hXM := HXM.out hF
                  subst hF
                  subst hXM
                  cases X <;>
                  · go_wp2_with (go_at_call 15; refine (sanity_any _ (HT.out.below HB61.out)).mono ?_; rintro e w62 ⟨rfl, hB⟩; (have HB62 := Lib.hid (below_then HB61.out HB61.out.size hB)); clear hB)
                    go_ret
                    exact ⟨rfl, HB62.out⟩
                · have hFb : (F == 0) = false := by simpa using hF
                  go_wp2_with (go_at_call 15; refine (sanity_any _ (HT.out.below HB61.out)).mono ?_; rintro e w62 ⟨rfl, hB⟩; (have HB62 := Lib.hid (below_then HB61.out HB61.out.size hB)); clear hB)
                  go_ret
                  exact ⟨rfl, HB62.out⟩
            · have h42b : (x == 42) = false := by simpa using h42
              go_wp2
              exact ⟨⟨i + 1, by simp, by omega, HB60⟩, by simp only [intOf]; omega⟩
          · have hlti : ¬ ((i : Int) < p.size) := by omega
            go_wp2_with (go_at_call 15; refine (sanity_any _ (HT.out.below HB60.out)).mono ?_; rintro e w62 ⟨rfl, hB⟩; (have HB62 := Lib.hid (below_then HB60.out HB60.out.size hB)); clear hB)
            go_ret
            exact ⟨rfl, HB62.out⟩
      · have hEb : (E == 0) = false := by simpa using hE0
        go_wp2
        go_loopw [24] (fun v W => ∃ i : Nat, v = .int .i64 i ∧ i ≤ p.size ∧ Hid (Below w.heap.size w W)) (fun i _ => p.size - (intOf i).toNat)
        case atStart => exact ⟨0, rfl, by omega, HB21⟩
        case round =>
          obtain ⟨i, rfl, hil, HB60⟩ := hrel
          by_cases hlt : i < p.size
          · have hlti : (i : Int) < p.size := by omega
            obtain ⟨x, hx, hix⟩ := index_at p i hlt
            by_cases h42 : x = 42
            · subst h42
              obtain ⟨L, L1, R, Q, hs1, hs2, ha1, ha2, hQz, hQb⟩ := parts_at p i hlt hzp
              obtain ⟨⟨X, F⟩, hQ⟩ : ∃ m, matchM Q a = m := ⟨_, rfl⟩
              have HQ := Lib.hid hQ
              have HXM : Hid (F = 0 → X = M1) := Lib.hid (fun h => by
                have := star_beside hlt hx HCA.out HUA.out hQb (by rw [hQ]; exact h)
                rwa [hQ, HMA.out] at this)
              clear hQ hQb hx
              go_upto_region 23 with (fail)
              go_region_with (go_at_call 29; refine (match_any Q a (by omega) (by omega) _).mono ?_; rintro e w61 ⟨rfl, hB⟩; rw [HQ.out]; (have HB61 := Lib.hid (below_then (below_drew1 HB60.out) (below_drew1 HB60.out).size hB)); clear hB)
              all_goals
                by_cases hF : F = 0
                · have hXM := HXM.out hF
                  subst hF
                  subst hXM
                  cases X <;>
                  · go_wp2_with (go_at_call 15; refine (sanity_any _ (HT.out.below HB61.out)).mono ?_; rintro e w62 ⟨rfl, hB⟩; (have HB62 := Lib.hid (below_then HB61.out HB61.out.size hB)); clear hB)
                    go_ret
                    exact ⟨rfl, HB62.out⟩
                · have hFb : (F == 0) = false := by simpa using hF
                  go_wp2_with (go_at_call 15; refine (sanity_any _ (HT.out.below HB61.out)).mono ?_; rintro e w62 ⟨rfl, hB⟩; (have HB62 := Lib.hid (below_then HB61.out HB61.out.size hB)); clear hB)
                  go_ret
                  exact ⟨rfl, HB62.out⟩
            · have h42b : (x == 42) = false := by simpa using h42
              go_wp2
              exact ⟨⟨i + 1, by simp, by omega, HB60⟩, by simp only [intOf]; omega⟩
          · have hlti : ¬ ((i : Int) < p.size) := by omega
            go_wp2_with (go_at_call 15; refine (sanity_any _ (HT.out.below HB60.out)).mono ?_; rintro e w62 ⟨rfl, hB⟩; (have HB62 := Lib.hid (below_then HB60.out HB60.out.size hB)); clear hB)
            go_ret
            exact ⟨rfl, HB62.out⟩
end Go.Proofs.YtmbdiimenmnfjaaDoor
/- NamesPatterns: for every input the law returns true and leaves its arguments as they were; the three listed tables of the library are tied to the program's text. Conditions: none beyond the row. -/
namespace Go.Proofs.YtmbdiimenmnfjaaDoor
open Go.Shelf Go.ChangeShapes Go.WideShapes Go.ChangeAt Go.RowKit Go.Deep
open Go.ChangeMaps (open_string shut_string)
set_option linter.unusedVariables false
set_option maxRecDepth 100000

theorem namesPatterns_witness (os : Os) {H : Type} (enc : TypeId × Value → H) :
    (OpenSpec.ofChange Rows.namesPatternsSpec).preRow enc Tryd.prog Tryd.f11 Rows.namesPatternsRow.domain false Rows.namesPatternsRow.laid ((laidWorld os).forCall (fun _ _ => 0) ⟨#[], #[.string ⟨#[]⟩, .string ⟨#[]⟩, .string ⟨#[]⟩, .int .i64 0], []⟩).memory #[.string ⟨#[]⟩, .string ⟨#[]⟩, .string ⟨#[]⟩, .int .i64 0] := by
  have hw : (DataW.whole enc Tryd.prog ((laidWorld os).forCall (fun _ _ => 0) ⟨#[], #[.string ⟨#[]⟩, .string ⟨#[]⟩, .string ⟨#[]⟩, .int .i64 0], []⟩).memory Tryd.f11.params.toList (OpenSpec.ofChange Rows.namesPatternsSpec).vars false ((#[.string ⟨#[]⟩, .string ⟨#[]⟩, .string ⟨#[]⟩, .int .i64 0] : Array Value).toList) 8).map (fun x => (x.1, x.2.1)) =
      some ([.lit (.string []), .lit (.string []), .lit (.string []), .lit (.int .i64 0)], []) := by kernel_rfl
  obtain ⟨⟨x1, x2, x3⟩, hx, hx1⟩ := Option.map_eq_some_iff.1 hw
  simp only [Prod.mk.injEq] at hx1
  obtain ⟨rfl, rfl⟩ := hx1
  exact OpenSpec.preRow_of_cond 8 hx (by kernel_rfl) (fun k hk => by cases hk) (by kernel_rfl) (laid_met os _)

set_option maxHeartbeats 2000000 in
theorem namesPatterns_lifted (os : Os) (started : os.Started) (H : Type) (enc : TypeId × Value → H) (F : Stop.Interp) :
    ReturnsInHanded {} Tryd.checked os 11 .any ((OpenSpec.ofChange Rows.namesPatternsSpec).preRow enc Tryd.prog Tryd.f11 Rows.namesPatternsRow.domain false Rows.namesPatternsRow.laid) (((OpenSpec.ofChange Rows.namesPatternsSpec).at F).post enc Tryd.prog Tryd.f11 false true false false) := by
  refine returnsInHanded_of_row (C := Tryd.checked) (s := (OpenSpec.ofChange Rows.namesPatternsSpec)) Tryd.own started (by kernel_rfl) Tryd.func11
    (witness_row_atRef (enc := enc) (C := Tryd.checked) false (laidWorld os) #[.string ⟨#[]⟩, .string ⟨#[]⟩, .string ⟨#[]⟩, .int .i64 0] rfl (by kernel_rfl) (by kernel_rfl) (by kernel_rfl) (namesPatterns_witness os enc)) ?_
  intro W base args ds gs before hval0 hW hcnd0 _ _ hL _ _
  have hval : ∀ (j : Nat) t v, Tryd.f11.params[j]? = some t → args[j]? = some v → Value.okWide Tryd.prog W .any base t v := hval0
  have hW' := hW
  obtain ⟨p, q, hA0, hV0, rfl, _, _⟩ := hW
  have hA : DataW.TrodAll enc Tryd.prog W 0 (fun _ => true) true Tryd.f11.params.toList args.toList ds p := hA0
  rw [Tryd.params11] at hA hval
  obtain ⟨v0, v1, v2, v3, d0, d1, d2, d3, p0, p1, p2, p3, rfl, rfl, rfl, h0, h1, h2, h3⟩ := trodAll_four hA
  obtain ⟨rfl, rfl⟩ := trodVars_none hV0
  obtain ⟨s0, rfl, rfl, rfl, ws0⟩ := open_string Tryd.underlying9 (hval 0 9 v0 rfl rfl) h0
  obtain ⟨s1, rfl, rfl, rfl, ws1⟩ := open_string Tryd.underlying9 (hval 1 9 v1 rfl rfl) h1
  obtain ⟨s2, rfl, rfl, rfl, ws2⟩ := open_string Tryd.underlying9 (hval 2 9 v2 rfl rfl) h2
  obtain ⟨a3, rfl, rfl, rfl, wa3⟩ := open_int Tryd.underlying3 (hval 3 3 v3 rfl rfl) h3
  clear hA0 hV0 hval0
  refine (law_NamesPatterns s0 s1 s2 a3 (by simp only [Lit.wf, Bool.and_eq_true, decide_eq_true_eq] at wa3; exact wa3) W (tab_of_laid hL)).mono ?_
  rintro e W' ⟨rfl, bel⟩
  refine ⟨_, rfl, _, _, _, [], _, [], hW', trodAll_mk1 (shut_bool true), trodAll_mk4 (shut_string Tryd.underlying9 ws0) (shut_string Tryd.underlying9 ws1) (shut_string Tryd.underlying9 ws2) (shut_int Tryd.underlying3 wa3), rfl, bel.frame _, fun h => by cases h⟩

theorem namesPatterns_said : Rows.NamesPatternsSaid :=
  OpenClaim.holds_of_cond 11 Tryd.f11 rfl rfl rfl rfl rfl rfl rfl ⟨rfl, rfl, rfl, rfl, rfl⟩ rfl rfl rfl rfl rfl (by kernel_rfl) Tryd.func11 (by kernel_rfl)
    (of_decide_eq_true (by kernel_rfl)) (by unfold Func.isWrapper; rw [if_neg (of_decide_eq_false (by kernel_rfl))]; exact ⟨rfl, rfl⟩)
    (fun os started H enc _ F0 => by rw [OpenClaim.pre_eq_preRow]; exact namesPatterns_lifted os started H enc F0)

/-- The tied card. -/
theorem namesPatterns_holds : Rows.NamesPatternsCardSaid :=
  Claim7.holds_tied_plain_at .later [] [.data, .data, .data] true (true, "66086631d20495c7847d46aa70f2f13bc49942b8d180c92b9434ef6fd88d0904") true
    namesPatterns_said (fun _ h => by cases h) (by kernel_rfl) (fun _ h => by cases h) namesPatterns_row_tie rfl ⟨rfl, rfl⟩ (by kernel_rfl) rfl
    (fun f fn hf hfn => by
      obtain rfl : f = 11 := Option.some.inj ((show Tryd.prog.funcNamed "archivolt/archivoltlaw05.NamesPatterns" = some 11 by kernel_rfl).symm.trans hf) |>.symm
      obtain rfl : fn = Tryd.f11 := (Option.some.inj (Tryd.func11.symm.trans hfn)).symm
      refine ⟨by kernel_rfl, fun j t ht => ?_⟩
      rw [Tryd.params11] at ht
      have hm := List.mem_of_getElem? (l := [9, 9, 9, 3]) (by simpa using ht)
      have hall : ∀ t ∈ ([9, 9, 9, 3] : List TypeId), Tryd.prog.wantsStandIn t = false := by
        intro t ht
        simp only [List.mem_cons, List.not_mem_nil, or_false] at ht
        rcases ht with rfl | rfl | rfl | rfl <;> kernel_rfl
      exact hall t hm)
    (by kernel_rfl)
#print axioms namesPatterns_holds
end Go.Proofs.YtmbdiimenmnfjaaDoor
