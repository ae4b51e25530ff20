/- Plain: changes of pages of lists without a common page; the document's Proper. -/
import Derived.Test.YtibohhiebejbmaaGh
import Derived.Test.YtibohhiebejbmaaPAllocActsx31
import Derived.Test.YtibohhiebejbmaaLc
import Derived.Laws.BytesArg
namespace Go.Proofs.Ytibohhiebejbmaa
open Go.RowKit Go.Deep Go.Shelf Go.Proofs.YtibohhiebejbmaaW.PrintWords
open Go.Proofs.Ytibohhiebejbmaa.PAllocActs (S56 k56 rd_T56 at_T56 z56)
set_option linter.unusedVariables false
set_option linter.unusedSimpArgs false

def pagesIn (l : List S56) (i : Nat) : Prop := ∃ x ∈ l, x.f0.toNat ≤ i ∧ i < x.f0.toNat + x.f1.toNat
theorem pagesIn_cons (x : S56) (t : List S56) (i : Nat) : pagesIn (x :: t) i ↔ (x.f0.toNat ≤ i ∧ i < x.f0.toNat + x.f1.toNat) ∨ pagesIn t i := by
  unfold pagesIn
  simp only [List.mem_cons, exists_eq_or_imp]
theorem putM_get (u : Bool) : ∀ (l : List S56) (us : List Bool) (i : Nat), i < us.length → ((pagesIn l i → (putM us u l).getD i false = u) ∧ (¬ pagesIn l i → (putM us u l).getD i false = us.getD i false))
  | [], us, i, h => ⟨fun hp => (hp.elim (fun x hx => absurd hx.1 (List.not_mem_nil))), fun _ => rfl⟩
  | x :: t, us, i, h => by
    have ih := putM_get u t (setR us x.f0.toNat x.f1.toNat u) i (by rw [setR_len]; exact h)
    have hs := setR_get (us := us) (p := x.f0.toNat) (k := x.f1.toNat) (v := u) h
    show (_ → (putM (setR us x.f0.toNat x.f1.toNat u) u t).getD i false = u) ∧ _
    rw [pagesIn_cons]
    constructor
    · intro hp
      by_cases ht : pagesIn t i
      · exact ih.1 ht
      · rw [ih.2 ht, hs, if_pos (hp.resolve_right ht)]
    · intro hp
      show (putM (setR us x.f0.toNat x.f1.toNat u) u t).getD i false = _
      rw [ih.2 (fun h => hp (.inr h)), hs, if_neg (fun h => hp (.inl h))]
theorem freeR_iff (us : List Bool) (u : Bool) : ∀ (m p : Nat), freeR us u p m = true ↔ ∀ i, p ≤ i → i < p + m → us.getD i false ≠ u
  | 0, p => by simp [freeR]; intro i h1 h2; omega
  | m + 1, p => by
    unfold freeR
    rw [Bool.and_eq_true, freeR_iff us u m (p + 1)]
    constructor
    · rintro ⟨h1, h2⟩ i h3 h4
      by_cases h5 : i = p
      · rw [h5]; simpa using h1
      · exact h2 i (by omega) (by omega)
    · intro h
      exact ⟨by simpa using h p (Nat.le_refl _) (by omega), fun i h1 h2 => h i (by omega) (by omega)⟩
theorem allF_iff (us : List Bool) (u : Bool) : ∀ (l : List S56), allF us u l = true ↔ ∀ i, pagesIn l i → us.getD i false ≠ u
  | [] => ⟨fun _ i h => (h.elim (fun x hx => absurd hx.1 (List.not_mem_nil))), fun _ => rfl⟩
  | x :: t => by
    unfold allF
    rw [Bool.and_eq_true, freeR_iff, allF_iff us u t]
    constructor
    · rintro ⟨h1, h2⟩ i hi
      rcases (pagesIn_cons x t i).1 hi with h | h
      · exact h1 i h.1 h.2
      · exact h2 i h
    · intro h
      exact ⟨fun i h1 h2 => h i ((pagesIn_cons x t i).2 (.inl ⟨h1, h2⟩)), fun i hi => h i ((pagesIn_cons x t i).2 (.inr hi))⟩
theorem innerP_some : ∀ (m p : Nat) (met met' : List Bool), p + m ≤ met.length → innerP met p m = some met' → met' = setR met p m true ∧ ∀ i, p ≤ i → i < p + m → met.getD i false = false
  | 0, p, met, met', hl, h => by
    cases h
    exact ⟨(setR_none _ _ _).symm, fun i h1 h2 => by omega⟩
  | m + 1, p, met, met', hl, h => by
    cases hp : met.getD p false with
    | true => rw [inner_met hp (by omega)] at h; cases h
    | false =>
      rw [inner_free hp (by omega), Nat.add_sub_cancel] at h
      have ih := innerP_some m (p + 1) (met.set p true) met' (by rw [List.length_set]; omega) h
      have hs : ∀ i, (met.set p true).getD i false = if p = i then (decide (i < met.length)) else met.getD i false := by
        intro i
        rw [List.getD_eq_getElem?_getD, List.getElem?_set]
        by_cases h1 : p = i
        · subst h1
          rw [if_pos rfl, if_pos rfl, if_pos (by omega)]
          simp; omega
        · rw [if_neg h1, if_neg h1, List.getD_eq_getElem?_getD]
      refine ⟨?_, fun i h1 h2 => ?_⟩
      · rw [ih.1]
        refine bool_ext (by rw [setR_len, setR_len, List.length_set]) fun i hi => ?_
        rw [setR_len, List.length_set] at hi
        rw [setR_get (by rw [List.length_set]; exact hi), setR_get hi, hs]
        by_cases h1 : p = i
        · rw [if_neg (by omega), if_pos h1, if_pos (by omega)]; simp [hi]
        · rw [if_neg h1]
          by_cases h2 : p + 1 ≤ i ∧ i < p + 1 + m
          · rw [if_pos h2, if_pos (by omega)]
          · rw [if_neg h2, if_neg (by omega)]
      · by_cases h3 : i = p
        · rw [h3]; exact hp
        · have := ih.2 i (by omega) (by omega)
          rw [hs, if_neg (by omega)] at this
          exact this
theorem innerP_all : ∀ (m p : Nat) (met : List Bool), (∀ i, p ≤ i → i < p + m → met.getD i false = false) → ∃ met', innerP met p m = some met'
  | 0, p, met, h => ⟨met, rfl⟩
  | m + 1, p, met, h => by
    rw [inner_free (h p (Nat.le_refl _) (by omega)) (by omega), Nat.add_sub_cancel]
    refine innerP_all m (p + 1) _ fun i h1 h2 => ?_
    rw [List.getD_eq_getElem?_getD, List.getElem?_set, if_neg (by omega), ← List.getD_eq_getElem?_getD]
    exact h i (by omega) (by omega)
theorem range_nat {n : Nat} {x : S56} (h : inRange n x = true) : 3 ≤ x.f0.toNat ∧ 1 ≤ x.f1.toNat ∧ x.f0.toNat + x.f1.toNat ≤ n := by
  have := of_decide_eq_true h
  omega
/-- What properness means. -/
theorem properF_iff (n : Nat) : ∀ (l : List S56) (met : List Bool), met.length = n → (properF n met l = true ↔ (∀ x ∈ l, inRange n x = true) ∧ (∀ i, pagesIn l i → met.getD i false = false) ∧ l.Pairwise (fun x y => ∀ i, ¬ ((x.f0.toNat ≤ i ∧ i < x.f0.toNat + x.f1.toNat) ∧ y.f0.toNat ≤ i ∧ i < y.f0.toNat + y.f1.toNat)))
  | [], met, hl => by simp [properF, pagesIn]
  | x :: t, met, hl => by
    unfold properF
    cases hx : inRange n x with
    | false => simp [hx]
    | true =>
      have hr := range_nat hx
      simp only [if_true]
      cases hi : innerP met x.f0.toNat x.f1.toNat with
      | none =>
        simp only [Bool.false_eq_true, false_iff]
        rintro ⟨-, h2, -⟩
        obtain ⟨met', h3⟩ := innerP_all x.f1.toNat x.f0.toNat met (fun i h4 h5 => h2 i ((pagesIn_cons x t i).2 (.inl ⟨h4, h5⟩)))
        rw [hi] at h3; cases h3
      | some met' =>
        obtain ⟨h1, h2⟩ := innerP_some _ _ _ _ (by omega) hi
        subst h1
        simp only
        rw [properF_iff n t _ (by rw [setR_len]; exact hl)]
        rw [List.pairwise_cons]
        have hlt : ∀ i, pagesIn t i → (∀ y ∈ t, inRange n y = true) → i < met.length := by
          rintro i ⟨y, hy, h3, h4⟩ h5
          have := range_nat (h5 y hy)
          omega
        constructor
        · rintro ⟨h3, h4, h5⟩
          refine ⟨?_, ?_, ?_, h5⟩
          · intro y hy
            rcases List.mem_cons.1 hy with rfl | hy
            · exact hx
            · exact h3 y hy
          · intro i hi'
            rcases (pagesIn_cons x t i).1 hi' with h | h
            · exact h2 i h.1 h.2
            · have := h4 i h
              rw [setR_get (hlt i h h3)] at this
              split at this
              · cases this
              · exact this
          · intro y hy i hb
            have hp : pagesIn t i := ⟨y, hy, hb.2.1, hb.2.2⟩
            have := h4 i hp
            rw [setR_get (hlt i hp h3), if_pos hb.1] at this
            cases this
        · rintro ⟨h3, h4, h5, h6⟩
          have h3' : ∀ y ∈ t, inRange n y = true := fun y hy => h3 y (List.mem_cons_of_mem _ hy)
          refine ⟨h3', ?_, h6⟩
          intro i hi'
          rw [setR_get (hlt i hi' h3')]
          split
          · rename_i hb
            obtain ⟨y, hy, h7, h8⟩ := hi'
            exact absurd ⟨hb, h7, h8⟩ (h5 y hy i)
          · exact h4 i ((pagesIn_cons x t i).2 (.inr hi'))
theorem rep_get (n i : Nat) : (List.replicate n false).getD i false = false := by
  rw [List.getD_eq_getElem?_getD, List.getElem?_replicate]
  split <;> rfl
theorem properM_iff (n : Nat) (l : List S56) : properM n l = true ↔ l.length ≤ n ∧ (∀ x ∈ l, inRange n x = true) ∧ l.Pairwise (fun x y => ∀ i, ¬ ((x.f0.toNat ≤ i ∧ i < x.f0.toNat + x.f1.toNat) ∧ y.f0.toNat ≤ i ∧ i < y.f0.toNat + y.f1.toNat)) := by
  unfold properM
  split
  · rename_i h
    rw [properF_iff n l _ (by simp)]
    exact ⟨fun ⟨h1, h2, h3⟩ => ⟨h, h1, h3⟩, fun ⟨h1, h2, h3⟩ => ⟨h2, fun i _ => rep_get n i, h3⟩⟩
  · rename_i h
    constructor
    · intro h1; cases h1
    · rintro ⟨h1, -⟩; exact absurd h1 h
theorem proper_app {n : Nat} {a b : List S56} (h : properM n (a ++ b) = true) : properM n a = true ∧ properM n b = true ∧ ∀ i, pagesIn a i → ¬ pagesIn b i := by
  rw [properM_iff] at h
  obtain ⟨h1, h2, h3⟩ := h
  rw [List.length_append] at h1
  rw [List.pairwise_append] at h3
  refine ⟨(properM_iff n a).2 ⟨by omega, fun x hx => h2 x (List.mem_append_left _ hx), h3.1⟩, (properM_iff n b).2 ⟨by omega, fun x hx => h2 x (List.mem_append_right _ hx), h3.2.1⟩, ?_⟩
  rintro i ⟨x, hx, h4⟩ ⟨y, hy, h5⟩
  exact h3.2.2 x hx y hy i ⟨h4, h5⟩
/-- One change of pages. -/
def chgM (n : Nat) (us : List Bool) (u : Bool) (l : List S56) (er : Int) : List Bool := if changeE n us u l er = 0 then putM us u l else us
theorem chgE_eq {n : Nat} {us us' : List Bool} {u : Bool} {l : List S56} {er : Int} (h : ∀ i, pagesIn l i → us.getD i false = us'.getD i false) : changeE n us u l er = changeE n us' u l er := by
  unfold changeE
  have : allF us u l = allF us' u l := by
    rw [Bool.eq_iff_iff, allF_iff, allF_iff]
    exact ⟨fun h1 i hi => by rw [← h i hi]; exact h1 i hi, fun h1 i hi => by rw [h i hi]; exact h1 i hi⟩
  rw [this]
theorem chg_len (n : Nat) (us : List Bool) (u : Bool) (l : List S56) (er : Int) : (chgM n us u l er).length = us.length := by
  unfold chgM
  split
  · exact putM_len _ _ _
  · rfl
theorem chg_far {n : Nat} {us : List Bool} {u : Bool} {l : List S56} {er : Int} {i : Nat} (hi : i < us.length) (h : ¬ pagesIn l i) : (chgM n us u l er).getD i false = us.getD i false := by
  unfold chgM
  split
  · exact (putM_get u l us i hi).2 h
  · rfl
theorem chg_near {n : Nat} {us us' : List Bool} {u : Bool} {l : List S56} {er : Int} {i : Nat} (hi : i < us.length) (hi' : i < us'.length) (h : pagesIn l i) (he : changeE n us u l er = changeE n us' u l er) (hs : us.getD i false = us'.getD i false) :
    (chgM n us u l er).getD i false = (chgM n us' u l er).getD i false := by
  unfold chgM
  rw [he]
  split
  · rw [(putM_get u l us i hi).1 h, (putM_get u l us' i hi').1 h]
  · exact hs
/-- Changes without a common page: in either order. -/
theorem chg_swap {n : Nat} {us : List Bool} {u v : Bool} {a b : List S56} {ea eb : Int} (hl : us.length = n) (hp : properM n (a ++ b) = true) :
    changeE n (chgM n us u a ea) v b eb = changeE n us v b eb ∧ changeE n (chgM n us v b eb) u a ea = changeE n us u a ea ∧ chgM n (chgM n us u a ea) v b eb = chgM n (chgM n us v b eb) u a ea := by
  obtain ⟨h1, h2, h3⟩ := proper_app hp
  have la : ∀ i, pagesIn a i → i < us.length := by
    rintro i ⟨x, hx, h4, h5⟩
    have := range_nat (((properM_iff n a).1 h1).2.1 x hx)
    omega
  have lb : ∀ i, pagesIn b i → i < us.length := by
    rintro i ⟨x, hx, h4, h5⟩
    have := range_nat (((properM_iff n b).1 h2).2.1 x hx)
    omega
  have e1 : changeE n (chgM n us u a ea) v b eb = changeE n us v b eb := chgE_eq fun i hi => chg_far (lb i hi) (fun h => h3 i h hi)
  have e2 : changeE n (chgM n us v b eb) u a ea = changeE n us u a ea := chgE_eq fun i hi => chg_far (la i hi) (fun h => h3 i hi h)
  refine ⟨e1, e2, bool_ext (by rw [chg_len, chg_len, chg_len, chg_len]) fun i hi => ?_⟩
  rw [chg_len, chg_len] at hi
  by_cases ha : pagesIn a i
  · have hb : ¬ pagesIn b i := h3 i ha
    rw [chg_far (by rw [chg_len]; exact hi) hb]
    exact (chg_near (by rw [chg_len]; exact hi) hi ha e2 (chg_far hi hb)).symm
  · rw [chg_far (us := chgM n us v b eb) (by rw [chg_len]; exact hi) ha]
    by_cases hb : pagesIn b i
    · exact chg_near (by rw [chg_len]; exact hi) hi hb e1 (chg_far hi ha)
    · rw [chg_far (by rw [chg_len]; exact hi) hb, chg_far hi ha, chg_far hi hb]

theorem rdOf_get (l : List Bool) (i : Nat) : rdOf false l (i : Int) = l.getD i false := rfl
/-- The document's Proper. -/
theorem ref_l1 (n : Nat) (l : List S56) (i : Nat) (hi : i < l.length) (hl : l.length ≤ 1000000) (hn : n ≤ 1000000) (p m : Nat) (hx : rd_T56 l i = ⟨p, m⟩) (hpm : p + m ≤ n)
    (IH : ∀ met : List Bool, met.length = n → ∃ k, PAllocActs.archivoltref17_Proper.l0 k n l met ((i : Int) + 1) = some (properF n met (l.drop (i + 1)))) :
    ∀ (d x7 : Nat) (met : List Bool), met.length = n → x7 + d = m → ∃ k, PAllocActs.archivoltref17_Proper.l1 k n l met i x7 = some (match innerP met (p + x7) d with | none => false | some met' => properF n met' (l.drop (i + 1)))
  | 0, x7, met, hm, hd => by
    obtain ⟨k, hk⟩ := IH met hm
    refine ⟨k + 1, ?_⟩
    unfold PAllocActs.archivoltref17_Proper.l1
    rw [if_pos (by omega), if_pos (by omega), hx]
    simp only
    rw [if_neg (by omega), w64 (by omega), hk]
    rfl
  | d + 1, x7, met, hm, hd => by
    have hq : p + x7 < n := by omega
    cases hp : met.getD (p + x7) false with
    | true =>
      refine ⟨1, ?_⟩
      unfold PAllocActs.archivoltref17_Proper.l1
      rw [if_pos (by omega), if_pos (by omega), hx]
      simp only
      rw [if_pos (by omega), w64 (by omega), if_pos (by omega), if_pos (by rw [hm]; omega), show ((p : Int) + (x7 : Int)) = ((p + x7 : Nat) : Int) by omega, rdOf_get, hp, if_pos rfl, inner_met hp (by omega)]
    | false =>
      obtain ⟨k, hk⟩ := ref_l1 n l i hi hl hn p m hx hpm IH d (x7 + 1) (met.set (p + x7) true) (by rw [List.length_set]; exact hm) (by omega)
      refine ⟨k + 1, ?_⟩
      unfold PAllocActs.archivoltref17_Proper.l1
      rw [if_pos (by omega), if_pos (by omega), hx]
      simp only
      rw [if_pos (by omega), w64 (z := (p : Int) + (x7 : Int)) (by omega), if_pos (by omega), if_pos (by rw [hm]; omega), show ((p : Int) + (x7 : Int)) = ((p + x7 : Nat) : Int) by omega, rdOf_get, hp, if_neg (by simp), w64 (z := (x7 : Int) + 1) (by omega), inner_free hp (by omega), Nat.add_sub_cancel]
      rw [show ((p + x7 : Nat) : Int).toNat = p + x7 from rfl]
      exact hk
theorem ref_l0 (n : Nat) (l : List S56) (hl : l.length ≤ 1000000) (hn : n ≤ 1000000) : ∀ (d i : Nat) (met : List Bool), met.length = n → i + d = l.length → ∃ k, PAllocActs.archivoltref17_Proper.l0 k n l met i = some (properF n met (l.drop i))
  | 0, i, met, hm, hd => by
    refine ⟨1, ?_⟩
    unfold PAllocActs.archivoltref17_Proper.l0
    rw [if_neg (by omega), show i = l.length by omega, List.drop_length]
    rfl
  | d + 1, i, met, hm, hd => by
    have hi : i < l.length := by omega
    have hdr := drop_rd hi
    obtain ⟨⟨f0, f1⟩, hx⟩ : ∃ x, rd_T56 l i = x := ⟨_, rfl⟩
    rw [hdr, hx]
    have no : (¬ (1 ≤ f1 ∧ 3 ≤ f0 ∧ f0 < n ∧ f1 ≤ n - f0)) → properF n met (⟨f0, f1⟩ :: l.drop (i + 1)) = false := fun h => by
      unfold properF
      rw [show inRange n ⟨f0, f1⟩ = false from decide_eq_false h]; rfl
    by_cases g1 : f1 < 1
    · refine ⟨2, ?_⟩
      unfold PAllocActs.archivoltref17_Proper.l0
      rw [if_pos (by omega), if_pos (by omega), hx, no (by omega)]
      simp only
      rw [if_pos g1]
      rfl
    · by_cases g2 : f0 < 3
      · refine ⟨2, ?_⟩
        unfold PAllocActs.archivoltref17_Proper.l0
        rw [if_pos (by omega), if_pos (by omega), hx, no (by omega)]
        simp only
        rw [if_neg g1, if_pos g2]
        rfl
      · by_cases g3 : f0 > n
        · refine ⟨2, ?_⟩
          unfold PAllocActs.archivoltref17_Proper.l0
          rw [if_pos (by omega), if_pos (by omega), hx, no (by omega)]
          simp only
          rw [if_neg g1, if_neg g2, if_pos g3]
          rfl
        · by_cases g4 : f1 > n - f0
          · refine ⟨2, ?_⟩
            unfold PAllocActs.archivoltref17_Proper.l0
            rw [if_pos (by omega), if_pos (by omega), hx, no (by omega)]
            simp only
            rw [if_neg g1, if_neg g2, if_neg g3, w64 (by omega), decide_eq_true g4]
            rfl
          · obtain ⟨p, rfl⟩ : ∃ p : Nat, f0 = p := ⟨f0.toNat, by omega⟩
            obtain ⟨m, rfl⟩ : ∃ m : Nat, f1 = m := ⟨f1.toNat, by omega⟩
            have IH : ∀ met : List Bool, met.length = n → ∃ k, PAllocActs.archivoltref17_Proper.l0 k n l met ((i : Int) + 1) = some (properF n met (l.drop (i + 1))) := fun met hm => ref_l0 n l hl hn d (i + 1) met hm (by omega)
            obtain ⟨k, hk⟩ := ref_l1 n l i hi hl hn p m hx (by omega) IH m 0 met hm (by omega)
            refine ⟨k + 2, ?_⟩
            unfold PAllocActs.archivoltref17_Proper.l0
            rw [if_pos (by omega), if_pos (by omega), hx]
            simp only
            rw [if_neg g1, if_neg g2, if_neg g3, w64 (by omega), decide_eq_false g4]
            unfold PAllocActs.archivoltref17_Proper.j1
            rw [if_neg (by simp)]
            show PAllocActs.archivoltref17_Proper.l1 k n l met i 0 = _
            rw [show ((0 : Nat) : Int) = 0 from rfl] at hk
            rw [hk]
            conv => rhs; unfold properF
            rw [show inRange n ⟨(p : Int), (m : Int)⟩ = true from (by unfold inRange; simp only; simp; omega), if_pos rfl]
            rfl
theorem ref_proper (n : Nat) (l : List S56) (hl : l.length ≤ 1000000) (hn : n ≤ 1000000) : ∃ k, PAllocActs.archivoltref17_Proper.f k n l = some (properM n l) := by
  by_cases h : l.length ≤ n
  · obtain ⟨k, hk⟩ := ref_l0 n l hl hn l.length 0 (List.replicate n false) (by simp) (by omega)
    refine ⟨k, ?_⟩
    unfold PAllocActs.archivoltref17_Proper.f properM
    rw [if_neg (by omega), if_pos (by omega), if_pos (by show n ≤ _; omega), if_pos h]
    exact hk
  · refine ⟨0, ?_⟩
    unfold PAllocActs.archivoltref17_Proper.f properM
    rw [if_pos (by omega), if_neg h]
end Go.Proofs.Ytibohhiebejbmaa
/- Walks: put, body, the law AllocApart. -/
namespace Go.Proofs.Ytibohhiebejbmaa
open Go.RowKit Go.Deep Go.Shelf Go.Proofs.YtibohhiebejbmaaW.PrintWords
open Go.Proofs.Ytibohhiebejbmaa.PAllocActs (S56 k56 rd_T56 at_T56 z56 S34 k34 rd_T34 at_T34 k56_open k56_mkM)
set_option linter.unusedVariables false
set_option linter.unusedSimpArgs false
set_option maxRecDepth 100000

variable {w : World} {G A n : Nat} {us : List Bool}
theorem SU.apart {W W' : World} {U : Nat} {cs : List Value} (h : SU W G A n us) (hg : W.grownBy W' (some U)) (hU : Blk W U cs 22) (hne : U ≠ A) : SU W' G A n us := by
  obtain ⟨⟨⟨bad, h1⟩, ⟨cs', h2, h3, h4⟩, h5, h6⟩, h7, h8⟩ := h
  refine ⟨⟨⟨bad, h1.grown hg (fun k e => by cases e; exact hU.ne h1 (by decide))⟩, ⟨cs', h2.grown hg (fun k e => by cases e; exact hne), h3, fun v hv => ?_⟩, h5, h6⟩, h7, h8⟩
  rcases h4 v hv with h | ⟨g, h, k⟩
  · exact Or.inl h
  · exact Or.inr ⟨g, h, k.grown hg (fun j e => by cases e; exact hU.ne k (by decide))⟩
theorem SU.ltA (h : SU w G A n us) : A < w.heap.size := h.sp.ltA
set_option maxHeartbeats 2000000 in
theorem put_any {Al : Option Addr} {c m : Nat} {l : List S56} (give : Bool) (h : SU w G A n us) (hl : Kd.C k56 w Al m l) (hm : l.length = m) (hc : m ≤ c) : Calls Try.prog 24 #[.pointer (some ⟨G, 0, none⟩), .slice Al m c, .bool give] w fun x w' =>
    x = .returned (.int .i64 (changeE n us (!give) l (if give then 9 else 13))) ∧ SU w' G A n (chgM n us (!give) l (if give then 9 else 13)) ∧ w.grownBy w' (some A) := by
  subst hm
  cases give
  · have HA : Hid (Calls Try.prog 21 #[.iface 26 (.pointer (some ⟨G, 0, none⟩)), .int .i64 1, .slice Al l.length c] w fun x w' => x = .returned (.int .i64 (changeE n us true l 13)) ∧ SU w' G A n (chgM n us true l 13) ∧ w.grownBy w' (some A)) := Lib.hid (mark_act (tx := 1) h hl hc)
    clear h hl
    go_enter Try.func24, Try.ntmps24
    go_wp2_with (go_at_call 21; refine HA.out.mono ?_; rintro e w1 ⟨rfl, hS, hB⟩; (have HS := Lib.hid hS); (have HB := Lib.hid hB); clear hS hB)
    go_ret
    exact ⟨rfl, HS.out, HB.out⟩
  · have HA : Hid (Calls Try.prog 18 #[.iface 26 (.pointer (some ⟨G, 0, none⟩)), .int .i64 1, .slice Al l.length c] w fun x w' => x = .returned (.int .i64 (changeE n us false l 9)) ∧ SU w' G A n (chgM n us false l 9) ∧ w.grownBy w' (some A)) := Lib.hid (give_act (tx := 1) h hl hc)
    clear h hl
    go_enter Try.func24, Try.ntmps24
    go_wp2_with (go_at_call 18; refine HA.out.mono ?_; rintro e w1 ⟨rfl, hS, hB⟩; (have HS := Lib.hid hS); (have HB := Lib.hid hB); clear hS hB)
    go_ret
    exact ⟨rfl, HS.out, HB.out⟩
theorem conv_blk {W : World} {g : Nat} {b : List Int} (hg : Blk W g (numK .u8 b) 5) (hl : b.length = 468) : (convert 22 9 (.slice (some ⟨g, 0, none⟩) 468 468)).run Try.prog W = .ok (.string (strOfNums b)) W :=
  run_convert_bytes_arg W 22 5 Try.underlying22 Try.underlying5 g 0 468 468 b hl (fun i hi => by
    refine hg.cell (j := 0 + i) ?_
    simp only [numK, List.getElem?_map, Nat.zero_add]
    rw [List.getElem?_eq_getElem (by omega)]
    simp [List.getD_eq_getElem?_getD, List.getElem?_eq_getElem (show i < b.length by omega)]) 9 Try.underlying9
set_option maxHeartbeats 2000000 in
theorem lbody_any {b : List Int} (h : Sp w G A n b) (hn : 1 < n) : Calls Try.prog 13 #[.pointer (some ⟨G, 0, none⟩)] w fun x w' => x = .returned (.string (strOfNums b)) ∧ Below w.heap.size w w' := by
  have HR := Lib.hid (read_ok G A n b (.int .i64 1) w h hn)
  have hbl := Lib.hid h.len
  clear h
  go_enter Try.func13, Try.ntmps13
  go_wp2_with (go_at_call 40; refine HR.out.mono ?_; rintro e w1 ⟨g, rfl, hg, hB, hgs⟩; (have HB := Lib.hid hB); (have kc := conv_blk hg hbl.out); clear hg hB hgs)
  go_ret
  exact ⟨rfl, HB.out⟩
set_option maxHeartbeats 8000000 in
theorem law_AllocApart (n : Int) (A1 : Option Addr) (c1 : Nat) (acts : List S34) (A2 : Option Addr) (c2 : Nat) (a : List S56) (A3 : Option Addr) (c3 : Nat) (b : List S56) (give : Bool) (w : World)
    (hr1 : Kd.C k34 w A1 acts.length acts) (hc1 : acts.length ≤ c1) (hm1 : acts.length ≤ 9223372036854775807)
    (hr2 : Kd.C k56 w A2 a.length a) (hc2 : a.length ≤ c2) (hm2 : a.length ≤ 9223372036854775807)
    (hr3 : Kd.C k56 w A3 b.length b) (hc3 : b.length ≤ c3) (hm3 : b.length ≤ 9223372036854775807) :
    Calls Try.prog 4 #[.int .i64 n, .slice A1 acts.length c1, .slice A2 a.length c2, .slice A3 b.length c3, .bool give] w fun e w' => e = .returned (.bool true) ∧ Below w.heap.size w w' := by
  obtain ⟨rf, hrf, hfew⟩ := few_any n A1 c1 acts w hr1 hc1 hm1
  have HFW := Lib.hid hfew
  have HR1 := Lib.hid hr1
  obtain ⟨ka, hka⟩ : ∃ ka, a.length = ka := ⟨_, rfl⟩
  obtain ⟨kb, hkb⟩ : ∃ kb, b.length = kb := ⟨_, rfl⟩
  rw [hka] at hr2 hc2 hm2 ⊢
  rw [hkb] at hr3 hc3 hm3 ⊢
  have HR2 := Lib.hid hr2
  have HR3 := Lib.hid hr3
  have HKA := Lib.hid hka
  have HKB := Lib.hid hkb
  clear hfew hka hkb
  cases rf with
  | false =>
    clear hr1 hr2 hr3 hrf
    go_enter Try.func4, Try.ntmps4
    go_wp2_with (first
      | (go_at_call 9; refine HFW.out.mono ?_; rintro e w1 ⟨rfl, hB⟩; (have HB := Lib.hid hB); clear hB)
      | (go_at_call 10; refine (sanity_any _).mono ?_; rintro e w9 ⟨rfl, hB⟩; (have HB9 := Lib.hid (Ytibohhiebejbmaa.below_then HB.out HB.out.size hB)); clear hB))
    go_ret
    exact ⟨rfl, HB9.out⟩
  | true =>
    obtain ⟨hn4, hn16, hac⟩ := hrf rfl
    by_cases hbig : n ≤ 1536
    case neg =>
      have hbig2 : 1536 < n := by omega
      clear hr1 hr2 hr3 hrf
      go_enter Try.func4, Try.ntmps4
      go_wp2_with (first
        | (go_at_call 9; refine HFW.out.mono ?_; rintro e w1 ⟨rfl, hB⟩; (have HB := Lib.hid hB); clear hB)
        | (go_at_call 10; refine (sanity_any _).mono ?_; rintro e w9 ⟨rfl, hB⟩; (have HB9 := Lib.hid (Ytibohhiebejbmaa.below_then HB.out HB.out.size hB)); clear hB))
      go_ret
      exact ⟨rfl, HB9.out⟩
    by_cases hka : ka ≤ 60
    case neg =>
      have hka2 : (60 : Int) < (ka : Int) := by omega
      have hq1 : decide ((1536 : Int) < n) = false := by simp; omega
      clear hr1 hr2 hr3 hrf
      go_enter Try.func4, Try.ntmps4
      go_wp2_with (first
        | (go_at_call 9; refine HFW.out.mono ?_; rintro e w1 ⟨rfl, hB⟩; (have HB := Lib.hid hB); clear hB)
        | (go_at_call 10; refine (sanity_any _).mono ?_; rintro e w9 ⟨rfl, hB⟩; (have HB9 := Lib.hid (Ytibohhiebejbmaa.below_then HB.out HB.out.size hB)); clear hB))
      go_ret
      exact ⟨rfl, HB9.out⟩
    by_cases hkb : kb ≤ 60
    case neg =>
      have hkb2 : (60 : Int) < (kb : Int) := by omega
      have hq1 : decide ((1536 : Int) < n) = false := by simp; omega
      have hq2 : decide ((60 : Int) < (ka : Int)) = false := by simp; omega
      clear hr1 hr2 hr3 hrf
      go_enter Try.func4, Try.ntmps4
      go_wp2_with (first
        | (go_at_call 9; refine HFW.out.mono ?_; rintro e w1 ⟨rfl, hB⟩; (have HB := Lib.hid hB); clear hB)
        | (go_at_call 10; refine (sanity_any _).mono ?_; rintro e w9 ⟨rfl, hB⟩; (have HB9 := Lib.hid (Ytibohhiebejbmaa.below_then HB.out HB.out.size hB)); clear hB))
      go_ret
      exact ⟨rfl, HB9.out⟩
    obtain ⟨N, rfl⟩ : ∃ N : Nat, n = N := ⟨n.toNat, by omega⟩
    have hN4 : 4 ≤ N := by omega
    have hN15 : N ≤ 1536 := by omega
    have hq1 : decide ((1536 : Int) < (N : Int)) = false := by simp; omega
    have hq2 : decide ((60 : Int) < (ka : Int)) = false := by simp; omega
    have hq3 : decide ((60 : Int) < (kb : Int)) = false := by simp; omega
    have HGO : Hid (∀ W, Below w.heap.size w W → Calls Try.prog 23 #[.int .i64 N, .slice A1 acts.length c1] W fun e w' => ∃ G A, e = .returned (.pointer (some ⟨G, 0, none⟩)) ∧ SU w' G A N (goneM N acts) ∧ Below W.heap.size W w' ∧ W.heap.size ≤ G ∧ W.heap.size ≤ A) :=
      Lib.hid fun W hb => gone_any N hN4 hN15 A1 c1 acts W (Kd.C_below HR1.out hb) hc1 (by omega)
    obtain ⟨la, hla⟩ : ∃ la, acts.length = la := ⟨_, rfl⟩
    rw [hla] at HGO HFW ⊢
    clear hla hr1 hr2 hr3 hrf
    go_enter Try.func4, Try.ntmps4
    go_wp2_with (first
      | (go_at_call 9; refine HFW.out.mono ?_; rintro e w1 ⟨rfl, hB⟩; (have HB := Lib.hid hB); clear hB)
      | ((with_reducible refine gate_dst (N := 37) rfl ?_); (try (refine gate_guard (by rfl) ?_; dsimp only)); refine Kd.R_lit k56 _ 56 ?hg (N := 37) ?hd (xs := ([] : List S56)) (inner := []) (ok := fun _ => True) (okp := fun _ => True) ?hr ?hp (fun _ hk => hk) trivial (Below.refl _ _) (Nat.le_refl _) (by simp) ?_; (case hd => rfl); (case hg => rfl); (case hr => first | (go_simp; done) | (go_simp; rfl)); (case hp => exact (Reps.none _ _)); intro v2 w2 ho hb hg_ hn_; clear hg_ hn_; (have HO2 := Lib.hid ho); (have HB2 := Lib.hid (Ytibohhiebejbmaa.below_then HB.out HB.out.size hb)); (have HC2 := Lib.hid hb); clear ho hb)
      | ((with_reducible refine gate_builtin (b := .append) (xs := #[.tmp 37, .tmp 38]) rfl ?_); (try (refine gate_guard (by rfl) ?_; dsimp only)); at_builtin; refine Kd.R_append_rows k56 (w0 := w1) w1.heap.size rfl (.tmp 37) (.tmp 38) 32 56 (.agg #[.int .i64 0, .int .i64 0]) 16 rfl Try.underlying32 info56 rfl (by decide) (by omega) v2 [] a A2 ka c2 (fun _ => True) (fun _ => False) rfl rfl HO2.out (Kd.C_below HR2.out HB2.out) (fun x cs h => by rw [k56_open h]; exact k56_mkM _ _ _ x) (fun _ h => h.elim) (fun _ _ => trivial) ?aB ?aS (by simp; omega) ?_; (case aB => exact HC2.out); (case aS => exact HC2.out.size); intro v3 w3 ho hb hg_ hn_; clear hg_ hn_; (have HO3 := Lib.hid ho); (have HB3 := Lib.hid (Ytibohhiebejbmaa.below_then HB.out HB.out.size hb)); (have HC3 := Lib.hid hb); clear ho hb)
      | ((with_reducible refine gate_builtin (b := .append) (xs := #[.tmp 39, .tmp 40]) rfl ?_); (try (refine gate_guard (by rfl) ?_; dsimp only)); at_builtin; refine Kd.R_append_rows k56 (w0 := w1) w1.heap.size rfl (.tmp 39) (.tmp 40) 32 56 (.agg #[.int .i64 0, .int .i64 0]) 16 rfl Try.underlying32 info56 rfl (by decide) (by omega) v3 ([] ++ a) b A3 kb c3 (fun _ => True) (fun _ => False) rfl rfl HO3.out (Kd.C_below HR3.out HB3.out) (fun x cs h => by rw [k56_open h]; exact k56_mkM _ _ _ x) (fun _ h => h.elim) (fun _ _ => trivial) ?aB ?aS (by have := HKA.out; simp; omega) ?_; (case aB => exact HC3.out); (case aS => exact HC3.out.size); intro v4 w4 ho hb hg_ hn_; clear hg_ hn_; (have HO4 := Lib.hid ho); (have HB4 := Lib.hid (Ytibohhiebejbmaa.below_then HB.out HB.out.size hb)); (have HC4 := Lib.hid hb); clear ho hb)
      | (fail))
    obtain ⟨A4, k4, e4⟩ := Kd.R_slice HO4.out
    subst e4
    have hk4 := (Kd.R_reads' HO4.out)
    rw [List.nil_append] at hk4
    obtain ⟨kp, hkp⟩ := ref_proper N (a ++ b) (by have := HKA.out; have := HKB.out; simp; omega) (by omega)
    have HPR := Lib.hid (PAllocActs.archivoltref17_Proper.calls kp N A4 k4 (a ++ b) _ w4 hk4.2.2 hk4.2.1 hkp)
    rw [← List.nil_append (a ++ b), ← List.append_assoc] at HPR
    obtain ⟨pr, hpr⟩ : ∃ pr, properM N ([] ++ a ++ b) = pr := ⟨_, rfl⟩
    rw [hpr] at HPR
    clear hk4 hkp
    cases pr with
    | false =>
      clear hpr
      go_wp2_with (first
        | (go_at_call 19; refine HPR.out.mono ?_; rintro e w5 ⟨rfl, hB⟩; (have HB5 := Lib.hid (Ytibohhiebejbmaa.below_then HB4.out HB4.out.size hB)); clear hB)
        | (go_at_call 10; refine (sanity_any _).mono ?_; rintro e w9 ⟨rfl, hB⟩; (have HB9 := Lib.hid (Ytibohhiebejbmaa.below_then HB5.out HB5.out.size hB)); clear hB))
      go_ret
      exact ⟨rfl, HB9.out⟩
    | true =>
      have HPP : Hid (properM N (a ++ b) = true) := Lib.hid (by simpa using hpr)
      clear hpr
      have hptr := ptr_ne
      go_wp2_with (first
        | (go_at_call 19; refine HPR.out.mono ?_; rintro e w5 ⟨rfl, hB⟩; (have HB5 := Lib.hid (Ytibohhiebejbmaa.below_then HB4.out HB4.out.size hB)); clear hB)
        | (fail))
      obtain ⟨us, hus⟩ : ∃ us, goneM N acts = us := ⟨_, rfl⟩
      rw [hus] at HGO
      clear hus
      refine (HGO.out _ HB5.out).mono ?_
      rintro e w6 ⟨Ga, Aa, rfl, hS, hB, hG, hA⟩
      have HB6 := Lib.hid (Ytibohhiebejbmaa.below_then HB5.out HB5.out.size hB)
      have HS6 := Lib.hid hS
      have HG6 := Lib.hid (show w.heap.size ≤ Aa from Nat.le_trans HB5.out.size hA)
      clear hS hB hG hA
      go_wp2_with (fail)
      refine (HGO.out _ HB6.out).mono ?_
      rintro e w7 ⟨Gb, Ab, rfl, hS, hB, hG, hA⟩
      have HB7 := Lib.hid (Ytibohhiebejbmaa.below_then HB6.out HB6.out.size hB)
      have HS7 := Lib.hid hS
      have HT7 := Lib.hid (HS6.out.on hB)
      have HG7 := Lib.hid (show w.heap.size ≤ Ab from Nat.le_trans HB6.out.size hA)
      have HNE : Hid (Aa ≠ Ab) := Lib.hid (by have := HS6.out.ltA; omega)
      clear hS hB hG hA
      have ⟨hcs1, hcs2, hcs3⟩ := chg_swap (u := !give) (v := true) (ea := if give then 9 else 13) (eb := 13) HS7.out.lead.len HPP.out
      obtain ⟨e1, he1⟩ : ∃ e1, changeE N us (!give) a (if give then 9 else 13) = e1 := ⟨_, rfl⟩
      obtain ⟨e2, he2⟩ : ∃ e2, changeE N us true b 13 = e2 := ⟨_, rfl⟩
      obtain ⟨ua, hua⟩ : ∃ ua, chgM N us (!give) a (if give then 9 else 13) = ua := ⟨_, rfl⟩
      obtain ⟨ub, hub⟩ : ∃ ub, chgM N us true b 13 = ub := ⟨_, rfl⟩
      obtain ⟨uc, huc⟩ : ∃ uc, chgM N ua true b 13 = uc := ⟨_, rfl⟩
      rw [hua, hub] at hcs3
      rw [huc] at hcs3
      rw [hua, he2] at hcs1
      rw [hub, he1] at hcs2
      have HP1 : Hid (Calls Try.prog 24 #[.pointer (some ⟨Ga, 0, none⟩), .slice A2 ka c2, .bool give] w7 fun x w' => x = .returned (.int .i64 e1) ∧ SU w' Ga Aa N ua ∧ w7.grownBy w' (some Aa)) :=
        Lib.hid (by have := put_any give HT7.out (Kd.C_below HR2.out HB7.out) HKA.out hc2; rw [he1, hua] at this; exact this)
      have HP2 : Hid (∀ W, SU W Ga Aa N ua → Below w.heap.size w W → Calls Try.prog 24 #[.pointer (some ⟨Ga, 0, none⟩), .slice A3 kb c3, .bool false] W fun x w' => x = .returned (.int .i64 e2) ∧ SU w' Ga Aa N uc ∧ W.grownBy w' (some Aa)) :=
        Lib.hid (fun W hS hB => by have := put_any false hS (Kd.C_below HR3.out hB) HKB.out hc3; rw [show (!false) = true from rfl, if_neg (by decide), hcs1, huc] at this; exact this)
      have HP3 : Hid (∀ W, SU W Gb Ab N us → Below w.heap.size w W → Calls Try.prog 24 #[.pointer (some ⟨Gb, 0, none⟩), .slice A3 kb c3, .bool false] W fun x w' => x = .returned (.int .i64 e2) ∧ SU w' Gb Ab N ub ∧ W.grownBy w' (some Ab)) :=
        Lib.hid (fun W hS hB => by have := put_any false hS (Kd.C_below HR3.out hB) HKB.out hc3; rw [show (!false) = true from rfl, if_neg (by decide), he2, hub] at this; exact this)
      have HP4 : Hid (∀ W, SU W Gb Ab N ub → Below w.heap.size w W → Calls Try.prog 24 #[.pointer (some ⟨Gb, 0, none⟩), .slice A2 ka c2, .bool give] W fun x w' => x = .returned (.int .i64 e1) ∧ SU w' Gb Ab N uc ∧ W.grownBy w' (some Ab)) :=
        Lib.hid (fun W hS hB => by have := put_any give hS (Kd.C_below HR2.out hB) HKA.out hc2; rw [hcs2, ← hcs3] at this; exact this)
      clear hcs1 hcs2 hcs3 he1 he2 hua hub huc
      go_wp2_with (fail)
      refine HP1.out.mono ?_
      rintro e w8 ⟨rfl, hS, hg⟩
      have HS8 := Lib.hid hS
      have HT8 := Lib.hid (SU.apart HS7.out hg HT7.out.sp.arrA.choose_spec HNE.out)
      have HB8 := Lib.hid (HB7.out.grown hg HB7.out.size (fun k e => by cases e; exact HG6.out))
      clear hS hg
      go_wp2_with (fail)
      refine (HP2.out _ HS8.out HB8.out).mono ?_
      rintro e w9 ⟨rfl, hS, hg⟩
      have HS9 := Lib.hid hS
      have HT9 := Lib.hid (SU.apart HT8.out hg HS8.out.sp.arrA.choose_spec HNE.out)
      have HB9 := Lib.hid (HB8.out.grown hg HB8.out.size (fun k e => by cases e; exact HG6.out))
      clear hS hg
      go_wp2_with (fail)
      refine (HP3.out _ HT9.out HB9.out).mono ?_
      rintro e w10 ⟨rfl, hS, hg⟩
      have HT10 := Lib.hid hS
      have HS10 := Lib.hid (SU.apart HS9.out hg HT9.out.sp.arrA.choose_spec (Ne.symm HNE.out))
      have HB10 := Lib.hid (HB9.out.grown hg HB9.out.size (fun k e => by cases e; exact HG7.out))
      clear hS hg
      go_wp2_with (fail)
      refine (HP4.out _ HT10.out HB10.out).mono ?_
      rintro e w11 ⟨rfl, hS, hg⟩
      have HT11 := Lib.hid hS
      have HS11 := Lib.hid (SU.apart HS10.out hg HT10.out.sp.arrA.choose_spec (Ne.symm HNE.out))
      have HB11 := Lib.hid (HB10.out.grown hg HB10.out.size (fun k e => by cases e; exact HG7.out))
      clear hS hg
      clear HP1 HP2 HP3 HP4 HS6 HS7 HT7 HS8 HT8 HS9 HT9 HT10 HS10 HB5 HB6 HB7 HB8 HB9 HB10 HO2 HO3 HO4 HC2 HC3 HC4 HB2 HB3 HB4
      go_wp2_with (fail)
      refine (sanity_any _).mono ?_
      rintro e w12 ⟨rfl, hB⟩
      have HB12 := Lib.hid (Ytibohhiebejbmaa.below_then HB11.out HB11.out.size hB)
      have HS12 := Lib.hid (HS11.out.on hB)
      have HT12 := Lib.hid (HT11.out.on hB)
      clear hB
      go_wp2_with (fail)
      refine (lbody_any HS12.out.sp (by omega)).mono ?_
      rintro e w13 ⟨rfl, hB⟩
      have HB13 := Lib.hid (Ytibohhiebejbmaa.below_then HB12.out HB12.out.size hB)
      have HT13 := Lib.hid (HT12.out.on hB)
      clear hB
      go_wp2_with (fail)
      refine (lbody_any HT13.out.sp (by omega)).mono ?_
      rintro e w14 ⟨rfl, hB⟩
      have HB14 := Lib.hid (Ytibohhiebejbmaa.below_then HB13.out HB13.out.size hB)
      clear hB
      obtain ⟨sb, hsb⟩ : ∃ sb, strOfNums (bodyM uc) = sb := ⟨_, rfl⟩
      rw [hsb]
      clear hsb
      go_wp2_with (fail)
      go_ret
      exact ⟨by simp, HB14.out⟩
end Go.Proofs.Ytibohhiebejbmaa
/- AllocApart: for all arguments the law returns true and leaves its arguments as they were. Conditions: none beyond the row. -/
namespace Go.Proofs.Ytibohhiebejbmaa
open Go.ChangeShapes Go.WideShapes Go.ChangeAt Go.RowKit Go.Deep
set_option linter.unusedVariables false

set_option maxRecDepth 100000 in
theorem allocApart_lifted (os : Os) (started : os.Started) (H : Type) (enc : TypeId × Value → H) :
    ReturnsInHanded {} Try.checked os 4 .any (Rows.allocApartSpec.pre6 enc Try.prog Try.f4 Rows.allocApartRow.domain false) (Rows.allocApartSpec.post enc Try.prog Try.f4 false true false false) := by
  refine returnsInHanded_of_change (C := Try.checked) Try.own started (by kernel_rfl) Try.func4
    (ChangeSpec.witness6 (enc := enc) (C := Try.checked) false ⟨#[], #[.int .i64 0, .slice none 0 0, .slice none 0 0, .slice none 0 0, .bool false], []⟩ 8 (by kernel_rfl) (by kernel_rfl) (by kernel_rfl) (by kernel_rfl)) ?_
  intro W base args ds gs before hval0 hW hcnd _
  have hval : ∀ (j : Nat) t v, Try.f4.params[j]? = some t → args[j]? = some v → Value.okWide Try.prog W .any base t v := hval0
  have hW' := hW
  obtain ⟨p, q, hA0, hV, rfl, hfz, hnd⟩ := hW
  have hA : DataW.TrodAll enc Try.prog W 0 (fun _ => true) true Try.f4.params.toList args.toList ds p := hA0
  rw [Try.params4] at hA hval
  obtain ⟨v0, v1, v2, v3, v4, d0, d1, d2, d3, d4, p0, p1, p2, p3, p4, rfl, rfl, rfl, h0, h1, h2, h3, h4⟩ := trodAll_five hA
  obtain ⟨rfl, rfl⟩ := trodVars_none hV
  obtain ⟨a0, rfl, rfl, rfl, wa0⟩ := open_int Try.underlying3 (hval 0 3 v0 rfl rfl) h0
  obtain ⟨A1, c1, b1, rfl, hc1, hm1, hR1⟩ := open_acts (hval 1 23 v1 rfl rfl) h1
  obtain ⟨A2, c2, b2, rfl, hc2, hm2, hR2⟩ := open_exts (hval 2 32 v2 rfl rfl) h2
  obtain ⟨A3, c3, b3, rfl, hc3, hm3, hR3⟩ := open_exts (hval 3 32 v3 rfl rfl) h3
  obtain ⟨a4, rfl, rfl, rfl⟩ := open_bool (hval 4 4 v4 rfl rfl) h4
  clear hA0 hval0
  simp only [List.append_nil] at hW'
  have hlt1 : ∀ x ∈ p1, x.block < W.heap.size := fun x hx => by simpa using hW'.lt x (by simp [hx])
  have hlt2 : ∀ x ∈ p2, x.block < W.heap.size := fun x hx => by simpa using hW'.lt x (by simp [hx])
  have hlt3 : ∀ x ∈ p3, x.block < W.heap.size := fun x hx => by simpa using hW'.lt x (by simp [hx])
  refine (law_AllocApart a0 A1 c1 b1 A2 c2 b2 A3 c3 b3 a4 W hR1 hc1 (Nat.le_trans hm1 (by decide)) hR2 hc2 (Nat.le_trans hm2 (by decide)) hR3 hc3 (Nat.le_trans hm3 (by decide))).mono fun e W' ⟨he, hw⟩ => ?_
  subst he
  exact ⟨_, rfl, ⟨_, _, _, [], _, [], hW', trodAll_mk1 (shut_bool true), trodAll_mk5 (shut_int Try.underlying3 wa0) (Below.trod Try.laidOut (by kernel_rfl) (of_decide_eq_true (by kernel_rfl)) h1 hw hlt1) (Below.trod Try.laidOut (by kernel_rfl) (of_decide_eq_true (by kernel_rfl)) h2 hw hlt2) (Below.trod Try.laidOut (by kernel_rfl) (of_decide_eq_true (by kernel_rfl)) h3 hw hlt3) (shut_bool a4), rfl, hw.frame _, fun h => by cases h⟩⟩

theorem allocApart_holds : Rows.AllocApartSaid :=
  OpenClaim.holds_of_wide 4 Try.f4 rfl rfl rfl rfl rfl rfl rfl ⟨rfl, rfl, rfl, rfl, rfl⟩ rfl rfl rfl rfl rfl (by kernel_rfl) Try.func4 (by kernel_rfl)
    (of_decide_eq_true (by kernel_rfl)) (by unfold Func.isWrapper; rw [if_neg (by decide +kernel)]; exact ⟨rfl, rfl⟩)
    (fun os started H enc _ => allocApart_lifted os started H enc)
#print axioms allocApart_holds
end Go.Proofs.Ytibohhiebejbmaa
