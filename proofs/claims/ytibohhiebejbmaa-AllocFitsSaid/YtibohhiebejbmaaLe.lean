/- Plain: pages that were taken, and given back. -/
import Derived.Test.YtibohhiebejbmaaLd
import Derived.Test.YtibohhiebejbmaaLc
namespace Go.Proofs.Ytibohhiebejbmaa
open Go.RowKit Go.Deep Go.Shelf Go.Proofs.YtibohhiebejbmaaW.PrintWords
open Go.Proofs.Ytibohhiebejbmaa.PAllocActs (S56 k56 rd_T56 at_T56 z56)
set_option linter.unusedVariables false
set_option linter.unusedSimpArgs false

/-- Extents of free pages, taken one behind the other. -/
inductive Got (n : Nat) : List Bool → List Ext2 → List Bool → Prop
  | nil (us : List Bool) : Got n us [] us
  | cons (us : List Bool) (p m : Nat) (l : List Ext2) (us' : List Bool) : 3 ≤ p → 1 ≤ m → p + m ≤ n → (∀ i, p ≤ i → i < p + m → us.getD i false = false) → Got n (setR us p m true) l us' → Got n us ((p, m) :: l) us'
theorem Got.snoc {n p m : Nat} {us us' : List Bool} {l : List Ext2} (h : Got n us l us') (h1 : 3 ≤ p) (h2 : 1 ≤ m) (h3 : p + m ≤ n) (h4 : ∀ i, p ≤ i → i < p + m → us'.getD i false = false) : Got n us (l ++ [(p, m)]) (setR us' p m true) := by
  induction h with
  | nil us => exact .cons _ _ _ _ _ h1 h2 h3 h4 (.nil _)
  | cons us p' m' l us' g1 g2 g3 g4 g5 ih => exact .cons _ _ _ _ _ g1 g2 g3 g4 (ih h4)
theorem sumS_app (a b : List Ext2) : sumS (a ++ b) = sumS a + sumS b := by simp [sumS]
theorem chLoop_got {n : Nat} {inside : Bool} {us0 : List Bool} : ∀ (f : Nat) (us : List Bool) (k : Nat) (l : List Ext2), Lead us n → k ≤ f → k ≤ freeM us → Got n us0 l us → Got n us0 (chLoop n inside f us k l).2 (chLoop n inside f us k l).1 ∧ sumS (chLoop n inside f us k l).2 = sumS l + k
  | 0, us, k, l, h, hk, hf, hg => by
    have : k = 0 := by omega
    subst this
    exact ⟨hg, rfl⟩
  | f + 1, us, k, l, h, hk, hf, hg => by
    by_cases h0 : k = 0
    · subst h0
      rw [chLoop_done]
      exact ⟨hg, rfl⟩
    · rw [chLoop_step h0]
      obtain ⟨h1, h2, h3, h4⟩ := pick_in (k := k) (inside := inside) h (by omega)
      generalize pickM us n k inside = x at *
      obtain ⟨p, q⟩ := x
      simp only at *
      have hl := h.len
      have hfr := freeM_setR us p (min q k) (by omega) (fun i a b => h4 i a (by omega))
      obtain ⟨g1, g2⟩ := chLoop_got f (setR us p (min q k) true) (k - min q k) (l ++ [(p, min q k)]) h.set (by omega) (by omega) (hg.snoc h1 (by omega) (by omega) (fun i a b => h4 i a (by omega)))
      refine ⟨g1, ?_⟩
      rw [g2, sumS_app]
      simp [sumS]
      omega
theorem chooseM_got {n m : Nat} {near : Int} {inside : Bool} {us : List Bool} (h : Lead us n) (hm : m ≤ freeM us) (h1m : 1 ≤ m) (hn : near < n) : Got n us (chooseM us n m near inside).2 (chooseM us n m near inside).1 ∧ sumS (chooseM us n m near inside).2 = m := by
  unfold chooseM
  split
  · rename_i hc
    obtain ⟨h1, h2, h3, h4⟩ := near_in (us := us) (n := n) (near := near.toNat) (by omega) hc.2
    generalize nearM us n near.toNat = x at *
    obtain ⟨p, q⟩ := x
    simp only at *
    have hl := h.len
    have hfr := freeM_setR us p (min q m) (by omega) (fun i a b => h4 i a (by omega))
    obtain ⟨g1, g2⟩ := chLoop_got (inside := inside) m (setR us p (min q m) true) (m - min q m) [(p, min q m)] h.set (by omega) (by omega) (.cons us p (min q m) [] _ (by omega) (by omega) (by omega) (fun i a b => h4 i a (by omega)) (.nil _))
    refine ⟨g1, ?_⟩
    rw [g2]
    simp [sumS]
    omega
  · obtain ⟨g1, g2⟩ := chLoop_got (inside := inside) m us m [] h (Nat.le_refl _) hm (.nil _)
    exact ⟨g1, by rw [g2]; simp [sumS]⟩
def onL (l : List Ext2) (i : Nat) : Prop := ∃ x ∈ l, x.1 ≤ i ∧ i < x.1 + x.2
theorem onL_cons (x : Ext2) (t : List Ext2) (i : Nat) : onL (x :: t) i ↔ (x.1 ≤ i ∧ i < x.1 + x.2) ∨ onL t i := by
  unfold onL
  simp only [List.mem_cons, exists_eq_or_imp]
theorem pages_toS (l : List Ext2) (i : Nat) : pagesIn (l.map toS) i ↔ onL l i := by
  constructor
  · rintro ⟨y, hy, h⟩
    obtain ⟨x, hx, rfl⟩ := List.mem_map.1 hy
    exact ⟨x, hx, by simpa [toS] using h⟩
  · rintro ⟨x, hx, h⟩
    exact ⟨toS x, List.mem_map_of_mem hx, by simpa [toS] using h⟩
theorem Got.facts {n : Nat} {us us' : List Bool} {l : List Ext2} (h : Got n us l us') (hl : us.length = n) :
    us'.length = n ∧ (∀ x ∈ l, 3 ≤ x.1 ∧ 1 ≤ x.2 ∧ x.1 + x.2 ≤ n) ∧ (∀ i, onL l i → us.getD i false = false ∧ us'.getD i false = true) ∧ (∀ i, ¬ onL l i → us'.getD i false = us.getD i false) ∧
      l.Pairwise (fun x y => ∀ i, ¬ ((x.1 ≤ i ∧ i < x.1 + x.2) ∧ y.1 ≤ i ∧ i < y.1 + y.2)) ∧ sumS l + freeM us' = freeM us ∧ l.length ≤ sumS l := by
  induction h with
  | nil us => exact ⟨hl, fun x hx => absurd hx List.not_mem_nil, fun i hi => hi.elim (fun x hx => absurd hx.1 List.not_mem_nil), fun i hi => rfl, .nil, by simp [sumS], by simp [sumS]⟩
  | cons us p m l us' g1 g2 g3 g4 g5 ih =>
    obtain ⟨a1, a2, a3, a4, a5, a6, a7⟩ := ih (by rw [setR_len]; exact hl)
    have hfr := freeM_setR us p m (by omega) g4
    have hgt : ∀ i, i < n → (setR us p m true).getD i false = if p ≤ i ∧ i < p + m then true else us.getD i false := fun i hi => setR_get (by omega)
    have hin : ∀ i, onL l i → i < n := fun i ⟨x, hx, h1⟩ => by have := a2 x hx; omega
    refine ⟨a1, ?_, ?_, ?_, ?_, ?_, ?_⟩
    · intro x hx
      rcases List.mem_cons.1 hx with rfl | hx
      · exact ⟨g1, g2, g3⟩
      · exact a2 x hx
    · intro i hi
      rcases (onL_cons _ _ _).1 hi with h | h
      · simp only at h
        refine ⟨g4 i h.1 h.2, ?_⟩
        have hno : ¬ onL l i := fun h5 => by
          have := (a3 i h5).1
          rw [hgt i (by omega), if_pos h] at this
          cases this
        rw [a4 i hno, hgt i (by omega), if_pos h]
      · have := a3 i h
        refine ⟨?_, this.2⟩
        have h5 := this.1
        rw [hgt i (hin i h)] at h5
        split at h5
        · cases h5
        · exact h5
    · intro i hi
      rw [a4 i (fun h => hi ((onL_cons _ _ _).2 (.inr h)))]
      by_cases hin2 : i < n
      · rw [hgt i hin2, if_neg (fun h => hi ((onL_cons _ _ _).2 (.inl h)))]
      · rw [List.getD_eq_getElem?_getD, List.getD_eq_getElem?_getD, List.getElem?_eq_none (by rw [setR_len]; omega), List.getElem?_eq_none (by omega)]
    · refine List.Pairwise.cons (fun y hy i h => ?_) a5
      have := (a3 i ⟨y, hy, h.2⟩).1
      have h6 := a2 y hy
      rw [hgt i (by omega), if_pos h.1] at this
      cases this
    · simp only [sumS, List.map_cons, List.sum_cons] at a6 ⊢
      omega
    · simp only [sumS, List.map_cons, List.sum_cons, List.length_cons] at a7 ⊢
      omega
theorem freeM_le' (us : List Bool) : freeM us ≤ us.length := by unfold freeM; exact List.countP_le_length
/-- What was taken may be given back; then all is as it was. -/
theorem Got.back {n : Nat} {us us' : List Bool} {l : List Ext2} (h : Got n us l us') (hl : us.length = n) : changeE n us' false (l.map toS) 9 = 0 ∧ putM us' false (l.map toS) = us := by
  obtain ⟨a1, a2, a3, a4, a5, a6, a7⟩ := h.facts hl
  have hfl := freeM_le' us
  have hp : properM n (l.map toS) = true := by
    rw [properM_iff]
    refine ⟨by rw [List.length_map]; omega, ?_, ?_⟩
    · intro x hx
      obtain ⟨y, hy, rfl⟩ := List.mem_map.1 hx
      have := a2 y hy
      unfold inRange toS
      simp only
      simp
      omega
    · rw [List.pairwise_map]
      refine a5.imp ?_
      intro x y h i
      have := h i
      simpa [toS] using this
  have ha : allF us' false (l.map toS) = true := by
    rw [allF_iff]
    intro i hi
    rw [pages_toS] at hi
    rw [(a3 i hi).2]
    decide
  constructor
  · unfold changeE
    rw [hp, ha]
    rfl
  · have hlen : ∀ (l : List S56) (us : List Bool), (putM us false l).length = us.length := by
      intro l
      induction l with
      | nil => intro us; rfl
      | cons x t ih => intro us; unfold putM; rw [ih, setR_len]
    refine List.ext_getElem (by rw [hlen, a1, hl]) fun i h1 h2 => ?_
    have h3 := putM_get false (l.map toS) us' i (by omega)
    have h4 : (putM us' false (l.map toS)).getD i false = us.getD i false := by
      by_cases hi : onL l i
      · rw [h3.1 ((pages_toS l i).2 hi), (a3 i hi).1]
      · rw [h3.2 (fun h => hi ((pages_toS l i).1 h)), a4 i hi]
    rw [List.getD_eq_getElem?_getD, List.getD_eq_getElem?_getD, List.getElem?_eq_getElem h1, List.getElem?_eq_getElem h2] at h4
    exact h4
end Go.Proofs.Ytibohhiebejbmaa
/- Walks: the law AllocTaken. -/
namespace Go.Proofs.Ytibohhiebejbmaa
open Go.RowKit Go.Deep Go.Shelf Go.Proofs.YtibohhiebejbmaaW.PrintWords
open Go.Proofs.Ytibohhiebejbmaa.PAllocActs (S56 k56 rd_T56 at_T56 z56 S34 k34 rd_T34 at_T34 k56_open k56_mkM)
set_option linter.unusedVariables false
set_option linter.unusedSimpArgs false
set_option maxRecDepth 100000

theorem SU.other {W W' : World} {G A n U : Nat} {us : List Bool} {cs : List Value} {t : TypeId} (h : SU W G A n us) (hg : W.grownBy W' (some U)) (hU : Blk W U cs t) (ht : t ≠ 94 ∧ t ≠ 22 ∧ t ≠ 5) : SU W' G A n us := ⟨h.sp.grown hg hU ht, h.lead, h.hi⟩
theorem SU.row {W W' : World} {G A n base m : Nat} {us : List Bool} {v : Value} {xs : List Value} (h : SU W G A n us) (hg : W.grownBy W' v.ownBlock) (ho : W.ownsRow base 4 1 v m xs) : SU W' G A n us := by
  obtain ⟨⟨⟨bad, h1⟩, ⟨cs', h2, h3, h4⟩, h5, h6⟩, h7, h8⟩ := h
  refine ⟨⟨⟨bad, h1.grown hg (own_ne_type ho h1 (by decide))⟩, ⟨cs', h2.grown hg (own_ne_type ho h2 (by decide)), h3, fun v hv => ?_⟩, h5, h6⟩, h7, h8⟩
  rcases h4 v hv with h | ⟨g, h, k⟩
  · exact Or.inl h
  · exact Or.inr ⟨g, h, k.grown hg (own_ne_type ho k (by decide))⟩
theorem own_row4 {w w' : World} {base A n : Nat} {cs : List Value} {v : Value} {xs : List Value} (h : w.ownsRow base 56 2 v n xs) (hA : Blk w A cs 4) (hg : w.grownBy w' (some A)) : w'.ownsRow base 56 2 v n xs :=
  h.kept hg (by by_cases hv : v.ownBlock = some A; exact absurd rfl (own_ne_type h hA (by decide) A hv); exact .inr fun e => hv e)
theorem own_cap {w : World} {base e size n c : Nat} {A : Option Addr} {xs : List Value} (h : w.ownsRow base e size (.slice A n c) n xs) : n ≤ c := by
  rcases h.2 with ⟨h1, h2⟩ | ⟨g, cap, cur, h1, h2, h3, h4, h5⟩
  · omega
  · cases h1; exact h4
theorem own_bits {W : World} {base N : Nat} {v : Value} {us : List Bool} (h : W.ownsRow base 4 1 v N (boolsV us)) (hN : 0 < N) : ∃ g cap ex, v = .slice (some ⟨g, 0, none⟩) N cap ∧ base ≤ g ∧ N ≤ cap ∧ Blk W g (boolsV us ++ ex) 4 := by
  rcases h.2 with ⟨h1, h2⟩ | ⟨g, cap, cur, h1, h2, h3, h4, h5, h6, h7⟩
  · omega
  · refine ⟨g, cap, cur.toList.drop (N * 1), h1, h2, h4, ?_⟩
    unfold Blk
    rw [h3, ← h7, List.take_append_drop]
theorem boolsV_take {us : List Bool} {i : Nat} {x : Bool} (hi : i < us.length) (hx : us.getD i false = x) : boolsV (us.take (i + 1)) = boolsV (us.take i) ++ [.bool x] := by
  unfold boolsV
  rw [List.take_add_one, List.map_append, List.getElem?_eq_getElem hi]
  rw [List.getD_eq_getElem?_getD, List.getElem?_eq_getElem hi] at hx
  simp at hx
  simp [hx]
theorem boolsV_app_get {us : List Bool} {ex : List Value} {i : Nat} {x : Bool} (hi : i < us.length) (hx : us.getD i false = x) : (boolsV us ++ ex)[i]? = some (.bool x) := by
  rw [List.getElem?_append_left (by simpa [boolsV] using hi), boolsV_get hi, hx]
theorem boolsV_app_set {us : List Bool} {ex : List Value} {i : Nat} {x : Bool} (hi : i < us.length) : (boolsV us ++ ex).set i (.bool x) = boolsV (us.set i x) ++ ex := by
  rw [List.set_append_left _ _ (by simpa [boolsV] using hi), boolsV_set]
set_option maxHeartbeats 16000000 in
theorem law_AllocTaken (n : Int) (A1 : Option Addr) (c1 : Nat) (acts : List S34) (m near : Int) (zone : Bool) (w : World) (hr : Kd.C k34 w A1 acts.length acts) (hc : acts.length ≤ c1) (hm : acts.length ≤ 9223372036854775807) :
    Calls Try.prog 5 #[.int .i64 n, .slice A1 acts.length c1, .int .i64 m, .int .i64 near, .bool zone] w fun e w' => e = .returned (.bool true) ∧ Below w.heap.size w w' := by
  obtain ⟨i4, h4i, h4z, h41, h4b⟩ := info_parts info4
  obtain ⟨rf, hrf, hfew⟩ := few_any n A1 c1 acts w hr hc hm
  have HFW := Lib.hid hfew
  have HR := Lib.hid hr
  obtain ⟨la, hla⟩ : ∃ la, acts.length = la := ⟨_, rfl⟩
  clear hfew
  cases rf with
  | false =>
    clear hr hrf hla
    go_enter Try.func5, Try.ntmps5
    go_wp2_with (first
      | (go_at_call 9; refine HFW.out.mono ?_; rintro e w1 ⟨rfl, hB⟩; (have HB1 := Lib.hid hB); clear hB)
      | (go_at_call 10; refine (sanity_any _).mono ?_; rintro e w9 ⟨rfl, hB⟩; (have HB9 := Lib.hid (Ytibohhiebejbmaa.below_then HB1.out HB1.out.size hB)); clear hB))
    go_ret
    exact ⟨rfl, HB9.out⟩
  | true =>
    obtain ⟨hn4, hn16, hac⟩ := hrf rfl
    by_cases hbig : n ≤ 1536
    case neg =>
      have hbig2 : 1536 < n := by omega
      clear hr hrf hla
      go_enter Try.func5, Try.ntmps5
      go_wp2_with (first
        | (go_at_call 9; refine HFW.out.mono ?_; rintro e w1 ⟨rfl, hB⟩; (have HB1 := Lib.hid hB); clear hB)
        | (go_at_call 10; refine (sanity_any _).mono ?_; rintro e w9 ⟨rfl, hB⟩; (have HB9 := Lib.hid (Ytibohhiebejbmaa.below_then HB1.out HB1.out.size hB)); clear hB))
      go_ret
      exact ⟨rfl, HB9.out⟩
    obtain ⟨N, rfl⟩ : ∃ N : Nat, n = N := ⟨n.toNat, by omega⟩
    have hN4 : 4 ≤ N := by omega
    have hN15 : N ≤ 1536 := by omega
    have hptr := ptr_ne
    have hq1 : decide ((1536 : Int) < (N : Int)) = false := by simp; omega
    have HLD : Hid (Lead (goneM N acts) N) := Lib.hid (goneM_lead hN4 acts)
    have HGO : Hid (∀ W, Below w.heap.size w W → Calls Try.prog 23 #[.int .i64 N, .slice A1 acts.length c1] W fun e w' => ∃ G A, e = .returned (.pointer (some ⟨G, 0, none⟩)) ∧ SU w' G A N (goneM N acts) ∧ Below W.heap.size W w' ∧ W.heap.size ≤ G ∧ W.heap.size ≤ A) :=
      Lib.hid fun W hb => gone_any N hN4 hN15 A1 c1 acts W (Kd.C_below HR.out hb) hc (by omega)
    obtain ⟨us, hus⟩ : ∃ us, goneM N acts = us := ⟨_, rfl⟩
    rw [hus] at HGO HLD
    rw [hla] at HGO HFW ⊢
    obtain ⟨fr, hfr⟩ : ∃ fr, freeM us = fr := ⟨_, rfl⟩
    have HFR := Lib.hid hfr
    have hfrn : fr ≤ N := by have := freeM_le us; have := HLD.out.len; omega
    obtain ⟨sb, hsb⟩ : ∃ sb, strOfNums (bodyM us) = sb := ⟨_, rfl⟩
    have HSB := Lib.hid hsb
    clear hla hr hrf hus hfr hsb
    go_enter Try.func5, Try.ntmps5
    go_wp2_with (first
      | (go_at_call 9; refine HFW.out.mono ?_; rintro e w1 ⟨rfl, hB⟩; (have HB1 := Lib.hid hB); clear hB)
      | (fail))
    refine (HGO.out _ HB1.out).mono ?_
    rintro e w2 ⟨G, A, rfl, hS, hB, hG, hA⟩
    have HB2 := Lib.hid (Ytibohhiebejbmaa.below_then HB1.out HB1.out.size hB)
    have HS2 := Lib.hid hS
    have HAA : Hid (w.heap.size ≤ A) := Lib.hid (Nat.le_trans HB1.out.size hA)
    clear hS hB hG hA
    go_wp2_with (fail)
    refine (lbody_any HS2.out.sp (by omega)).mono ?_
    rintro e w3 ⟨rfl, hB⟩
    rw [HSB.out]
    have HB3 := Lib.hid (Ytibohhiebejbmaa.below_then HB2.out HB2.out.size hB)
    have HS3 := Lib.hid (HS2.out.on hB)
    clear hB
    go_wp2_with (fail)
    refine (free_us (tx := 1) HS3.out).mono ?_
    rintro e w4 ⟨rfl, hB⟩
    rw [HFR.out]
    have HB4 := Lib.hid (Ytibohhiebejbmaa.below_then HB3.out HB3.out.size hB)
    have HS4 := Lib.hid (HS3.out.on hB)
    clear hB HB1 HB2 HB3 HS2 HS3 HGO HFW
    go_wp2_with (fail)
    go_loopg [15, 16] (N + 1) (fun kq v1 v2 W => ∃ (rv : Value) (i : Nat), rv = v1 ∧ v2 = .int .i64 i ∧ i ≤ N ∧ N - i < kq ∧ Hid (W.ownsRow w4.heap.size 4 1 rv i (boolsV (us.take i))) ∧ Hid (SU W G A N us) ∧ Hid (Below w.heap.size w W) ∧ Hid (w4.heap.size ≤ W.heap.size))
    case atStart => exact ⟨_, 0, rfl, by simp, by omega, by omega, Lib.hid ⟨by simp [boolsV], .inl ⟨rfl, rfl⟩⟩, HS4, HB4, Lib.hid (Nat.le_refl _)⟩
    case round =>
      clear HS4
      obtain ⟨rv, i, rfl, rfl, hi, hkq, HO, HS, HBW, HZ⟩ := hrel
      by_cases hlt : i < N
      · have hlti : (i : Int) < (N : Int) := by omega
        have hwi : IntKind.i64.wrap ((i : Int) + 1) = ((i + 1 : Nat) : Int) := i64_is (by omega) (by omega)
        go_wp2_with (fail)
        refine (used_us (tx := 1) (i : Int) HS.out (by omega) hlti).mono ?_
        rintro e w5 ⟨rfl, hB⟩
        obtain ⟨x, hx⟩ : ∃ x, us.getD ((i : Nat) : Int).toNat false = x := ⟨_, rfl⟩
        rw [hx]
        have HX : Hid (us.getD i false = x) := Lib.hid hx
        have HO5 := Lib.hid (own_keep HO.out hB)
        have HS5 := Lib.hid (HS.out.on hB)
        have HB5 := Lib.hid (Ytibohhiebejbmaa.below_then HBW.out HBW.out.size hB)
        have HZ5 := Lib.hid (Nat.le_trans HZ.out hB.size)
        clear hx hB HO HS HBW HZ
        go_wp2_with (go_loud (at_builtin; refine wpList_append_own _ rfl _ _ 28 rfl w4.heap.size 4 i4 (.bool false) 1 1 Try.underlying28 h4i h4z h41 h4b rfl (by decide) _ i (boolsV (us.take i)) rfl (World.ownsRow.alloc HO5.out _) ⟨w5.heap.size, 0, none⟩ 1 1 [.bool x] rfl rfl (cells_new _ _ rfl [.bool x] _) (by simp [Value.oneCell']) (by simp only [maxLen]; omega) (by omega) (by have := HZ5.out; simp; omega) ?_; intro v' w6 hown6 hgrow6 _; (have HO6 := Lib.hid hown6); (have HG6 := Lib.hid hgrow6); clear hown6 hgrow6))
        go_roundg (N - i)
        case measure => omega
        case rel =>
          have ho : (w5.alloc (.cells #[.bool x] 4)).ownsRow w4.heap.size 4 1 rv i (boolsV (us.take i)) := World.ownsRow.alloc HO5.out _
          refine ⟨_, i + 1, rfl, by simp, by omega, by omega, Lib.hid ?_, Lib.hid ((HS5.out.on (one_alloc w5 _)).row HG6.out ho), Lib.hid ((below_al HB5.out _).grown HG6.out (below_al HB5.out _).size (fun k hk => Nat.le_trans HB4.out.size (ho.lt k hk).1)), Lib.hid (Nat.le_trans HZ5.out (Nat.le_trans (one_alloc w5 (.cells #[.bool x] 4)).size HG6.out.size))⟩
          rw [boolsV_take (by rw [HLD.out.len]; exact hlt) HX.out]
          exact HO6.out
      · have hie : i = N := by omega
        subst hie
        have hlti : ¬ (i : Int) < (i : Int) := by omega
        have HU := HO.out
        rw [List.take_of_length_le (by rw [HLD.out.len]; exact Nat.le_refl _)] at HU
        obtain ⟨g, cap, ex, rfl, hgb, hgc, hblk⟩ := own_bits HU (by omega)
        have HT4 := Lib.hid hblk
        have HGB := Lib.hid (Nat.le_trans HB4.out.size hgb)
        clear HO HU hblk hgb HZ HB4 hlt hlti hi
        by_cases hnr : -1 ≤ near ∧ near < (i : Int)
        case neg =>
          have hE : chooseE us i m near = 1 := by unfold chooseE; rw [if_pos (by omega)]
          have HT := Lib.hid (take_err (tx := 1) (inside := zone) (m := m) (near := near) HS.out (by rw [hE]; decide))
          rw [hE] at HT
          by_cases hn1 : near < -1
          · have hd1 : decide (near < -1) = true := by simp; omega
            clear hE
            go_wp2_with (first
              | (go_at_call 14; refine HT.out.mono ?_; rintro e w7 ⟨rfl, hB⟩; (have HB7 := Lib.hid (Ytibohhiebejbmaa.below_then HBW.out HBW.out.size hB)); (have HS7 := Lib.hid (HS.out.on hB)); clear hB)
              | (go_at_call 10; refine (sanity_any _).mono ?_; rintro e w9 ⟨rfl, hB⟩; (have HB9 := Lib.hid (Ytibohhiebejbmaa.below_then HB7.out HB7.out.size hB)); clear hB))
            go_ret
            exact ⟨by simp, HB9.out⟩
          · have hd1 : decide (near < -1) = false := by simp; omega
            have hd2 : decide ((i : Int) ≤ near) = true := by simp; omega
            clear hE
            go_wp2_with (first
              | (go_at_call 14; refine HT.out.mono ?_; rintro e w7 ⟨rfl, hB⟩; (have HB7 := Lib.hid (Ytibohhiebejbmaa.below_then HBW.out HBW.out.size hB)); (have HS7 := Lib.hid (HS.out.on hB)); clear hB)
              | (go_at_call 10; refine (sanity_any _).mono ?_; rintro e w9 ⟨rfl, hB⟩; (have HB9 := Lib.hid (Ytibohhiebejbmaa.below_then HB7.out HB7.out.size hB)); clear hB))
            go_ret
            exact ⟨by simp, HB9.out⟩
        have hd1 : decide (near < -1) = false := by simp; omega
        have hd2 : decide ((i : Int) ≤ near) = false := by simp; omega
        by_cases hm1 : 1 ≤ m
        case neg =>
          have hd3 : decide (1 ≤ m) = false := by simp; omega
          have hE : chooseE us i m near = 1 := by unfold chooseE; rw [if_pos (by omega)]
          have HT := Lib.hid (take_err (tx := 1) (inside := zone) (m := m) (near := near) HS.out (by rw [hE]; decide))
          rw [hE] at HT
          clear hE
          go_wp2_with (first
            | (go_at_call 14; refine HT.out.mono ?_; rintro e w7 ⟨rfl, hB⟩; (have HB7 := Lib.hid (Ytibohhiebejbmaa.below_then HBW.out HBW.out.size hB)); (have HS7 := Lib.hid (HS.out.on hB)); clear hB)
            | (fail))
          refine (sanity_any _).mono ?_
          rintro e w8 ⟨rfl, hB⟩
          have HB8 := Lib.hid (Ytibohhiebejbmaa.below_then HB7.out HB7.out.size hB)
          have HS8 := Lib.hid (HS7.out.on hB)
          clear hB
          go_wp2_with (fail)
          refine (lbody_any HS8.out.sp (by omega)).mono ?_
          rintro e w9 ⟨rfl, hB⟩
          rw [HSB.out]
          have HB9 := Lib.hid (Ytibohhiebejbmaa.below_then HB8.out HB8.out.size hB)
          clear hB
          go_wp2_with (fail)
          go_ret
          exact ⟨by simp, HB9.out⟩
        have hd3 : decide (1 ≤ m) = true := by simp; omega
        by_cases hm2 : m ≤ (fr : Int)
        case neg =>
          have hd4 : decide (m ≤ (fr : Int)) = false := by simp; omega
          have hE : chooseE us i m near = 5 := by unfold chooseE; rw [if_neg (by omega), if_pos (by rw [HFR.out]; exact hm2)]
          have HT := Lib.hid (take_err (tx := 1) (inside := zone) (m := m) (near := near) HS.out (by rw [hE]; decide))
          rw [hE] at HT
          clear hE
          go_wp2_with (first
            | (go_at_call 14; refine HT.out.mono ?_; rintro e w7 ⟨rfl, hB⟩; (have HB7 := Lib.hid (Ytibohhiebejbmaa.below_then HBW.out HBW.out.size hB)); (have HS7 := Lib.hid (HS.out.on hB)); clear hB)
            | (fail))
          refine (sanity_any _).mono ?_
          rintro e w8 ⟨rfl, hB⟩
          have HB8 := Lib.hid (Ytibohhiebejbmaa.below_then HB7.out HB7.out.size hB)
          have HS8 := Lib.hid (HS7.out.on hB)
          clear hB
          go_wp2_with (fail)
          refine (lbody_any HS8.out.sp (by omega)).mono ?_
          rintro e w9 ⟨rfl, hB⟩
          rw [HSB.out]
          have HB9 := Lib.hid (Ytibohhiebejbmaa.below_then HB8.out HB8.out.size hB)
          clear hB
          go_wp2_with (fail)
          go_ret
          exact ⟨by simp, HB9.out⟩
        obtain ⟨mn, rfl⟩ : ∃ mn : Nat, m = mn := ⟨m.toNat, by omega⟩
        have hd4 : decide ((mn : Int) ≤ (fr : Int)) = true := by simp; omega
        have hE : chooseE us i mn near = 0 := by unfold chooseE; rw [if_neg (by omega), if_neg (by rw [HFR.out]; omega)]
        have HCG := Lib.hid (chooseM_got (inside := zone) (near := near) (m := mn) HLD.out (by rw [HFR.out]; omega) (by omega) hnr.2)
        have HCL := Lib.hid (chooseM_lead (inside := zone) (near := near) (m := mn) HLD.out)
        have HT := Lib.hid (take_us (tx := 1) (inside := zone) (m := mn) (near := near) HS.out hE)
        have HLT := Lib.hid HS.out.sp.arrA.choose_spec
        clear hE
        go_wp2_with (fail)
        refine HT.out.mono ?_
        rintro e w7 ⟨us', l, Al, cl, hch, rfl, ho, hSp, hg⟩
        rw [show ((mn : Nat) : Int).toNat = mn from rfl] at hch
        have hcg := HCG.out
        have hcl := HCL.out
        rw [hch] at hcg hcl
        obtain ⟨kl, hkl⟩ : ∃ kl, l.length = kl := ⟨_, rfl⟩
        rw [hkl] at ho ⊢
        have HKL := Lib.hid hkl
        have HG7 := Lib.hid hcg.1
        have HSum := Lib.hid hcg.2
        have HS7 : Hid (SU w7 G A i us') := Lib.hid ⟨hSp, hcl, hN15⟩
        have HT7 := Lib.hid (HT4.out.grown hg (fun k e => by cases e; exact (HT4.out.ne HLT.out (by decide)).symm))
        have HO7 := Lib.hid ho
        have HB7 := Lib.hid (HBW.out.grown hg HBW.out.size (fun k e => by cases e; exact HAA.out))
        obtain ⟨Bo, hBo⟩ : ∃ Bo, wr.heap.size = Bo := ⟨_, rfl⟩
        rw [hBo] at HO7
        have hkls : kl ≤ mn := by have := (HG7.out.facts HLD.out.len).2.2.2.2.2.2; rw [HKL.out, HSum.out] at this; exact this
        have hlcap : kl ≤ cl := own_cap ho
        have HBK := Lib.hid (HG7.out.back HLD.out.len)
        clear hch hcg hcl ho hSp hg HT HCG HCL HLT HT4 HS HBW hkl hBo
        go_wp2_with (fail)
        have HG70 : Hid (Got i us (l.drop 0) us') := HG7
        have HS70 : Hid (0 + sumS (l.drop 0) = mn) := Lib.hid (by rw [Nat.zero_add]; exact HSum.out)
        go_loopg [21, 22] (kl + 1) (fun kq v1 v2 W => ∃ (s j : Nat) (U : List Bool), v1 = .int .i64 s ∧ v2 = .int .i64 j ∧ j ≤ kl ∧ kl - j < kq ∧ Hid (Blk W g (boolsV U ++ ex) 4) ∧ Hid (W.ownsRow Bo 56 2 (.slice Al kl cl) kl (rngV l)) ∧ Hid (SU W G A i us') ∧ Hid (Below w.heap.size w W) ∧ Hid (U.length = i) ∧ Hid (Got i U (l.drop j) us') ∧ Hid (s + sumS (l.drop j) = mn))
        case atStart => exact ⟨0, 0, us, by simp, by simp, by omega, by omega, HT7, HO7, HS7, HB7, Lib.hid HLD.out.len, HG70, HS70⟩
        case round =>
          clear HT7 HO7 HS7 HB7 HG70 HS70
          obtain ⟨s, j, U, rfl, rfl, hj, hkq, HT, HO, HS, HBW, HUL, HGT, HSM⟩ := hrel
          by_cases hlt : j < kl
          · have hlti : (j : Int) < (kl : Int) := by omega
            obtain ⟨X, hX⟩ : ∃ X, l.drop j = X := ⟨_, rfl⟩
            have hgt := HGT.out
            have hsm := HSM.out
            rw [hX] at hgt hsm
            cases hgt with
            | nil =>
              have := congrArg List.length hX
              rw [List.length_drop, HKL.out] at this
              simp at this
              omega
            | cons _ p M t _ g1 g2 g3 g4 g5 =>
              obtain ⟨d1, d2⟩ := drop_head hX
              have HPM : Hid (rd_T56 (l.map toS) (j : Int) = toS (p, M)) := Lib.hid (rd_map d1)
              have HGN : Hid (Got i (setR U p M true) (l.drop (j + 1)) us') := Lib.hid (by rw [d2]; exact g5)
              have HSN : Hid (s + M + sumS (l.drop (j + 1)) = mn) := Lib.hid (by rw [d2]; simp [sumS] at hsm ⊢; omega)
              have HFR4 := Lib.hid g4
              have hsM : s + M ≤ mn := by have := HSN.out; omega
              clear hX hsm d1 d2 g4 g5 HGT HSM
              go_wp2_with (fail)
              have HT0 : Hid (Blk wr g (boolsV (setR U p 0 true) ++ ex) 4) := Lib.hid (by rw [setR_none]; exact HT.out)
              clear HT
              go_loopg [21, 23] (M + 1) (fun kq v1 v2 W => ∃ (z k : Nat), v1 = .int .i64 z ∧ v2 = .int .i64 k ∧ k ≤ M ∧ M - k < kq ∧ Hid (z = s + k) ∧ Hid (Blk W g (boolsV (setR U p k true) ++ ex) 4) ∧ Hid (W.ownsRow Bo 56 2 (.slice Al kl cl) kl (rngV l)) ∧ Hid (SU W G A i us') ∧ Hid (Below w.heap.size w W))
              case atStart => exact ⟨s, 0, by simp, by simp, by omega, by omega, Lib.hid rfl, HT0, HO, HS, HBW⟩
              case round =>
                clear HT0 HO HS HBW
                obtain ⟨z, k, rfl, rfl, hk, hkq2, HZ, HT, HO, HS, HBW⟩ := hrel
                obtain ⟨ad, ea, hx0, hx1⟩ := at_T56 (ext_reads HO.out HKL.out (by omega)) (j : Int) (by omega) hlti
                subst ea
                rw [show ((j : Nat) : Int).toNat = j from rfl] at hx0 hx1
                rw [HPM.out] at hx0 hx1
                simp only [toS] at hx0 hx1
                by_cases hlt2 : k < M
                · have hlti2 : (k : Int) < (M : Int) := by omega
                  obtain ⟨q, hq⟩ : ∃ q, p + k = q := ⟨_, rfl⟩
                  have hwq : IntKind.i64.wrap ((p : Int) + (k : Int)) = (q : Int) := i64_is (by omega) (by omega)
                  have hwz : IntKind.i64.wrap ((z : Int) + 1) = ((z + 1 : Nat) : Int) := i64_is (by omega) (by have := HZ.out; omega)
                  have hwk : IntKind.i64.wrap ((k : Int) + 1) = ((k + 1 : Nat) : Int) := i64_is (by omega) (by omega)
                  have hqa : ¬ (q : Int) < 3 := by omega
                  have hqb : ¬ (i : Int) ≤ (q : Int) := by omega
                  have hqc : (q : Int) < (i : Int) := by omega
                  have hqd : decide ((q : Int) < 3) = false := by simp; omega
                  have hqe : decide ((i : Int) ≤ (q : Int)) = false := by simp; omega
                  have hqU : q < (setR U p k true).length := by rw [setR_len, HUL.out]; omega
                  have hcq : (setR U p k true).getD q false = false := by
                    rw [setR_get (by rw [HUL.out]; omega), if_neg (by omega)]
                    exact HFR4.out q (by omega) (by omega)
                  have c2 := HT.out.cell (j := q) (boolsV_app_get hqU hcq)
                  have f2 := HT.out.fz
                  have HQ := Lib.hid hq
                  have HQU := Lib.hid hqU
                  clear hq hcq hqU
                  go_wp2_with (fail)
                  obtain ⟨W9, hW9⟩ : ∃ W9, wr.setCell ⟨g, q, none⟩ (.bool true) = W9 := ⟨_, rfl⟩
                  have a1 : Blk W9 g (boolsV (setR U p (k + 1) true) ++ ex) 4 := by
                    have := HT.out.set q (.bool true)
                    rw [boolsV_app_set HQU.out, ← HQ.out, setR_step U p k true (by rw [HUL.out]; have := HQ.out; omega), HQ.out, hW9] at this
                    exact this
                  have hgs : wr.grownBy W9 (some g) := by rw [← hW9]; exact grown_set wr g q _
                  have a2 := own_row4 HO.out HT.out hgs
                  have a3 := HS.out.other hgs HT.out (by decide)
                  have a4 : Below w.heap.size w W9 := by rw [← hW9]; exact below_st HBW.out (by exact HGB.out)
                  rw [hW9]
                  go_roundg (M - k)
                  case measure => omega
                  case rel => exact ⟨z + 1, k + 1, by simp, by simp, by omega, by omega, Lib.hid (by rw [HZ.out]; rfl), Lib.hid a1, Lib.hid a2, Lib.hid a3, Lib.hid a4⟩
                · have hke : k = M := by omega
                  have hlti2 : ¬ (k : Int) < (M : Int) := by omega
                  subst hke
                  have hwj : IntKind.i64.wrap ((j : Int) + 1) = ((j + 1 : Nat) : Int) := i64_is (by omega) (by omega)
                  go_wp2_with (fail)
                  go_roundg (kl - j)
                  case measure => omega
                  case rel => exact ⟨z, j + 1, setR U p k true, by simp, by simp, by omega, by omega, HT, HO, HS, HBW, Lib.hid (by rw [setR_len]; exact HUL.out), HGN, Lib.hid (by rw [HZ.out]; exact HSN.out)⟩
          · have hje : j = kl := by omega
            subst hje
            have hlti : ¬ (j : Int) < (j : Int) := by omega
            have hgt := HGT.out
            have hsm := HSM.out
            rw [show l.drop j = [] by rw [← HKL.out]; exact List.drop_length ..] at hgt hsm
            have hUe : U = us' := by cases hgt; rfl
            subst hUe
            have hse : s = mn := by simpa [sumS] using hsm
            subst hse
            clear hgt hsm HGT HSM hlt
            go_wp2_with (fail)
            clear hlti
            go_loopg [25] (i + 1) (fun kq v W => ∃ (y : Nat), v = .int .i64 y ∧ y ≤ i ∧ i - y < kq ∧ Hid (Blk W g (boolsV U ++ ex) 4) ∧ Hid (W.ownsRow Bo 56 2 (.slice Al j cl) j (rngV l)) ∧ Hid (SU W G A i U) ∧ Hid (Below w.heap.size w W))
            case atStart => exact ⟨0, by simp, by omega, by omega, HT, HO, HS, HBW⟩
            case round =>
              clear HT HO HS HBW
              obtain ⟨y, rfl, hy, hkq2, HT, HO, HS, HBW⟩ := hrel
              by_cases hlt : y < i
              · have hlti : (y : Int) < (i : Int) := by omega
                have hwy : IntKind.i64.wrap ((y : Int) + 1) = ((y + 1 : Nat) : Int) := i64_is (by omega) (by omega)
                go_wp2_with (fail)
                refine (used_us (tx := 1) (y : Int) HS.out (by omega) hlti).mono ?_
                rintro e w10 ⟨rfl, hB⟩
                obtain ⟨x, hx⟩ : ∃ x, U.getD ((y : Nat) : Int).toNat false = x := ⟨_, rfl⟩
                rw [hx]
                have HT10 := Lib.hid (show Blk w10 g (boolsV U ++ ex) 4 from (hB.block g HT.out.lt).trans HT.out)
                have HO10 := Lib.hid (own_keep HO.out hB)
                have HS10 := Lib.hid (HS.out.on hB)
                have HB10 := Lib.hid (Ytibohhiebejbmaa.below_then HBW.out HBW.out.size hB)
                have c2 := HT10.out.cell (j := y) (boolsV_app_get (by rw [HUL.out]; exact hlt) hx)
                clear hx hB HT HO HS HBW
                cases x <;> (
                  go_wp2_with (fail)
                  go_roundg (i - y)
                  case measure => omega
                  case rel => exact ⟨y + 1, by simp, by omega, by omega, HT10, HO10, HS10, HB10⟩)
              · have hye : y = i := by omega
                subst hye
                have hlti : ¬ (y : Int) < (y : Int) := by omega
                go_wp2_with (fail)
                refine (sanity_any _).mono ?_
                rintro e w11 ⟨rfl, hB⟩
                have HO11 := Lib.hid (own_keep HO.out hB)
                have HS11 := Lib.hid (HS.out.on hB)
                have HB11 := Lib.hid (Ytibohhiebejbmaa.below_then HBW.out HBW.out.size hB)
                clear hB HO HS HBW HT
                go_wp2_with (fail)
                have hgv := give_act (tx := 1) HS11.out (Al := Al) (c := cl) (l := l.map toS) (by rw [List.length_map, HKL.out]; exact ext_reads HO11.out HKL.out (by omega)) (by rw [List.length_map, HKL.out]; exact hlcap)
                rw [List.length_map, HKL.out, HBK.out.1, if_pos rfl, HBK.out.2] at hgv
                refine hgv.mono ?_
                rintro e w12 ⟨rfl, hS, hg⟩
                have HS12 := Lib.hid hS
                have HB12 := Lib.hid (HB11.out.grown hg HB11.out.size (fun k e => by cases e; exact HAA.out))
                clear hgv hS hg HS11 HO11 HB11
                go_wp2_with (fail)
                refine (lbody_any HS12.out.sp (by omega)).mono ?_
                rintro e w13 ⟨rfl, hB⟩
                rw [HSB.out]
                have HB13 := Lib.hid (Ytibohhiebejbmaa.below_then HB12.out HB12.out.size hB)
                clear hB
                go_wp2_with (fail)
                go_ret
                exact ⟨by simp, HB13.out⟩
end Go.Proofs.Ytibohhiebejbmaa
/- AllocTaken: for all arguments the law returns true and leaves its arguments as they were. Conditions: none beyond the row. -/
namespace Go.Proofs.Ytibohhiebejbmaa
open Go.ChangeShapes Go.WideShapes Go.ChangeAt Go.RowKit Go.Deep
set_option linter.unusedVariables false

set_option maxRecDepth 100000 in
theorem allocTaken_lifted (os : Os) (started : os.Started) (H : Type) (enc : TypeId × Value → H) :
    ReturnsInHanded {} Try.checked os 5 .any (Rows.allocTakenSpec.pre6 enc Try.prog Try.f5 Rows.allocTakenRow.domain false) (Rows.allocTakenSpec.post enc Try.prog Try.f5 false true false false) := by
  refine returnsInHanded_of_change (C := Try.checked) Try.own started (by kernel_rfl) Try.func5
    (ChangeSpec.witness6 (enc := enc) (C := Try.checked) false ⟨#[], #[.int .i64 0, .slice none 0 0, .int .i64 0, .int .i64 0, .bool false], []⟩ 8 (by kernel_rfl) (by kernel_rfl) (by kernel_rfl) (by kernel_rfl)) ?_
  intro W base args ds gs before hval0 hW hcnd _
  have hval : ∀ (j : Nat) t v, Try.f5.params[j]? = some t → args[j]? = some v → Value.okWide Try.prog W .any base t v := hval0
  have hW' := hW
  obtain ⟨p, q, hA0, hV, rfl, hfz, hnd⟩ := hW
  have hA : DataW.TrodAll enc Try.prog W 0 (fun _ => true) true Try.f5.params.toList args.toList ds p := hA0
  rw [Try.params5] at hA hval
  obtain ⟨v0, v1, v2, v3, v4, d0, d1, d2, d3, d4, p0, p1, p2, p3, p4, rfl, rfl, rfl, h0, h1, h2, h3, h4⟩ := trodAll_five hA
  obtain ⟨rfl, rfl⟩ := trodVars_none hV
  obtain ⟨a0, rfl, rfl, rfl, wa0⟩ := open_int Try.underlying3 (hval 0 3 v0 rfl rfl) h0
  obtain ⟨A1, c1, b1, rfl, hc1, hm1, hR1⟩ := open_acts (hval 1 23 v1 rfl rfl) h1
  obtain ⟨a2, rfl, rfl, rfl, wa2⟩ := open_int Try.underlying3 (hval 2 3 v2 rfl rfl) h2
  obtain ⟨a3, rfl, rfl, rfl, wa3⟩ := open_int Try.underlying3 (hval 3 3 v3 rfl rfl) h3
  obtain ⟨a4, rfl, rfl, rfl⟩ := open_bool (hval 4 4 v4 rfl rfl) h4
  clear hA0 hval0
  simp only [List.append_nil] at hW'
  have hlt1 : ∀ x ∈ p1, x.block < W.heap.size := fun x hx => by simpa using hW'.lt x (by simp [hx])
  refine (law_AllocTaken a0 A1 c1 b1 a2 a3 a4 W hR1 hc1 (Nat.le_trans hm1 (by decide))).mono fun e W' ⟨he, hw⟩ => ?_
  subst he
  exact ⟨_, rfl, ⟨_, _, _, [], _, [], hW', trodAll_mk1 (shut_bool true), trodAll_mk5 (shut_int Try.underlying3 wa0) (Below.trod Try.laidOut (by kernel_rfl) (of_decide_eq_true (by kernel_rfl)) h1 hw hlt1) (shut_int Try.underlying3 wa2) (shut_int Try.underlying3 wa3) (shut_bool a4), rfl, hw.frame _, fun h => by cases h⟩⟩

theorem allocTaken_holds : Rows.AllocTakenSaid :=
  OpenClaim.holds_of_wide 5 Try.f5 rfl rfl rfl rfl rfl rfl rfl ⟨rfl, rfl, rfl, rfl, rfl⟩ rfl rfl rfl rfl rfl (by kernel_rfl) Try.func5 (by kernel_rfl)
    (of_decide_eq_true (by kernel_rfl)) (by unfold Func.isWrapper; rw [if_neg (by decide +kernel)]; exact ⟨rfl, rfl⟩)
    (fun os started H enc _ => allocTaken_lifted os started H enc)
#print axioms allocTaken_holds
end Go.Proofs.Ytibohhiebejbmaa
