/- Plain: the side of the zone; what a choice leaves there. -/
import Derived.Test.YtibohhiebejbmaaLe
import Derived.Test.YtibohhiebejbmaaLc
namespace Go.Proofs.Ytibohhiebejbmaa
open Go.RowKit Go.Deep Go.Shelf
set_option linter.unusedVariables false
set_option linter.unusedSimpArgs false

/-- Pages of an extent on a side. -/
def szS (sd : Nat → Bool) (x : Ext2) : Nat := (List.range' x.1 x.2).countP sd
def cov (sd : Nat → Bool) (l : List Ext2) : Nat := (l.map (szS sd)).sum
theorem szS_none (sd : Nat → Bool) (p : Nat) : szS sd (p, 0) = 0 := rfl
theorem szS_cons (sd : Nat → Bool) (p m : Nat) : szS sd (p, m + 1) = (if sd p then 1 else 0) + szS sd (p + 1, m) := by
  unfold szS
  simp only [List.range'_succ, List.countP_cons]
  omega
theorem szS_snoc (sd : Nat → Bool) : ∀ (m p : Nat), szS sd (p, m + 1) = szS sd (p, m) + (if sd (p + m) then 1 else 0)
  | 0, p => by rw [szS_cons, szS_none, szS_none]; simp
  | m + 1, p => by
    rw [szS_cons, szS_snoc sd m (p + 1), szS_cons, show p + 1 + m = p + (m + 1) by omega]
    omega
theorem cov_consR (sd : Nat → Bool) (p : Nat) (l : List Ext2) : cov sd (consR p l) = (if sd p then 1 else 0) + cov sd l := by
  unfold consR
  split
  · simp only [cov, List.map_cons, List.map_nil, List.sum_cons, List.sum_nil]
    rw [show (p, 1) = (p, 0 + 1) from rfl, szS_cons, szS_none]
    omega
  · rename_i q m r
    split
    · rename_i h
      subst h
      simp only [cov, List.map_cons, List.sum_cons]
      rw [szS_cons]
      omega
    · simp only [cov, List.map_cons, List.sum_cons]
      rw [show (p, 1) = (p, 0 + 1) from rfl, szS_cons, szS_none]
      omega
/-- Free pages on a side. -/
def cntF (sd : Nat → Bool) : List Bool → Nat → Nat
  | [], _ => 0
  | x :: t, p => (if !x && sd p then 1 else 0) + cntF sd t (p + 1)
theorem cov_runsL (sd : Nat → Bool) : ∀ (l : List Bool) (p : Nat), cov sd (runsL (l.map fun x => !x) p) = cntF sd l p
  | [], p => rfl
  | true :: t, p => by
    rw [List.map_cons, Bool.not_true, runsL_false, cov_runsL sd t (p + 1)]
    simp [cntF]
  | false :: t, p => by
    rw [List.map_cons, Bool.not_false, runsL_true, cov_consR, cov_runsL sd t (p + 1)]
    simp [cntF]
theorem bits_not {us : List Bool} {n : Nat} (hn : us.length = n) : bitsR (eqB us false) 0 n = us.map (fun x => !x) := by
  refine List.ext_getElem (by rw [bitsR_len, List.length_map]; omega) fun i h1 h2 => ?_
  rw [bitsR_len] at h1
  have h3 := @bitsR_get (eqB us false) 0 n i h1
  rw [List.getD_eq_getElem?_getD, List.getElem?_eq_getElem (by rw [bitsR_len]; exact h1)] at h3
  have h4 : i < us.length := by omega
  simp only [Option.getD_some, Nat.zero_add] at h3
  rw [h3, List.getElem_map]
  unfold eqB
  rw [List.getD_eq_getElem?_getD, List.getElem?_eq_getElem h4]
  simp
theorem cov_frees (sd : Nat → Bool) {us : List Bool} {n : Nat} (hn : us.length = n) : cov sd (RR (eqB us false) 0 n) = cntF sd us 0 := by
  unfold RR
  rw [bits_not hn, cov_runsL]
theorem cntF_set (sd : Nat → Bool) : ∀ (us : List Bool) (i p : Nat), i < us.length → us.getD i false = false → cntF sd (us.set i true) p + (if sd (p + i) then 1 else 0) = cntF sd us p
  | [], i, p, h, _ => by simp at h
  | x :: t, 0, p, h, h2 => by
    have : x = false := by simpa using h2
    subst this
    simp [cntF]
    omega
  | x :: t, i + 1, p, h, h2 => by
    have ih := cntF_set sd t i (p + 1) (by simpa using h) (by simpa using h2)
    rw [show p + 1 + i = p + (i + 1) by omega] at ih
    simp only [List.set_cons_succ, cntF]
    omega
theorem cntF_setR (sd : Nat → Bool) (us : List Bool) (p : Nat) : ∀ (m : Nat), p + m ≤ us.length → (∀ i, p ≤ i → i < p + m → us.getD i false = false) → cntF sd (setR us p m true) 0 + szS sd (p, m) = cntF sd us 0
  | 0, h, hf => by rw [setR_none]; rfl
  | m + 1, h, hf => by
    have ih := cntF_setR sd us p m (by omega) (fun i h1 h2 => hf i h1 (by omega))
    rw [← setR_step us p m true (by omega), szS_snoc]
    have h1 : (setR us p m true).getD (p + m) false = false := by
      rw [setR_get (by omega), if_neg (by omega)]
      exact hf _ (by omega) (by omega)
    have := cntF_set sd (setR us p m true) (p + m) 0 (by rw [setR_len]; omega) h1
    rw [Nat.zero_add] at this
    omega
theorem Got.cov {n : Nat} {us us' : List Bool} {l : List Ext2} (sd : Nat → Bool) (h : Got n us l us') (hl : us.length = n) : Ytibohhiebejbmaa.cov sd l + cntF sd us' 0 = cntF sd us 0 := by
  induction h with
  | nil us => simp [Ytibohhiebejbmaa.cov]
  | cons us p m l us' g1 g2 g3 g4 g5 ih =>
    have := ih (by rw [setR_len]; exact hl)
    have h2 := cntF_setR sd us p m (by omega) g4
    simp only [Ytibohhiebejbmaa.cov, List.map_cons, List.sum_cons] at this ⊢
    omega
/-- No page of a side is free. -/
def NoF (sd : Nat → Bool) (n : Nat) (us : List Bool) : Prop := ∀ i, i < n → sd i = true → us.getD i false = true
theorem cntF_zero (sd : Nat → Bool) : ∀ (us : List Bool) (p : Nat), (∀ i, i < us.length → sd (p + i) = true → us.getD i false = true) → cntF sd us p = 0
  | [], p, h => rfl
  | x :: t, p, h => by
    have ih := cntF_zero sd t (p + 1) (fun i h1 h2 => by
      have := h (i + 1) (by simpa using h1) (by rw [show p + (i + 1) = p + 1 + i by omega]; exact h2)
      simpa using this)
    have h0 := h 0 (by simp)
    simp only [cntF, ih, Nat.add_zero] at h0 ⊢
    split
    · rename_i h1
      cases x with
      | true => simp at h1
      | false =>
        simp at h1
        have := h0 h1
        simp at this
    · rfl
theorem NoF.cnt {sd : Nat → Bool} {n : Nat} {us : List Bool} (h : NoF sd n us) (hl : us.length = n) : cntF sd us 0 = 0 :=
  cntF_zero sd us 0 (fun i h1 h2 => h i (by omega) (by simpa using h2))
theorem NoF.set {sd : Nat → Bool} {n p m : Nat} {us : List Bool} (h : NoF sd n us) (hl : us.length = n) : NoF sd n (setR us p m true) := by
  intro i h1 h2
  rw [setR_get (by omega)]
  split
  · rfl
  · exact h i h1 h2
theorem chLoop_noF {sd : Nat → Bool} {n : Nat} {inside : Bool} : ∀ (f : Nat) (us : List Bool) (k : Nat) (l : List Ext2), us.length = n → NoF sd n us → NoF sd n (chLoop n inside f us k l).1
  | 0, us, k, l, hl, h => h
  | f + 1, us, k, l, hl, h => by
    unfold chLoop
    split
    · exact h
    · exact chLoop_noF f _ _ _ (by rw [setR_len]; exact hl) (h.set hl)
def sdB (n : Nat) (inside : Bool) (i : Nat) : Bool := decide (i < 3 + n / 8) == inside
def onS (sd : Nat → Bool) (x : Ext2) : Prop := ∀ i, x.1 ≤ i → i < x.1 + x.2 → sd i = true
theorem pick_side {us : List Bool} {n k : Nat} {inside : Bool} (h : Lead us n) : onS (sdB n inside) (pickM us n k inside) ∨ NoF (sdB n inside) n us := by
  cases inside with
  | true =>
    by_cases hX : frees us 3 (3 + n / 8) = []
    · refine .inr fun i h1 h2 => ?_
      have h3 : i < 3 + n / 8 := by simpa [sdB] using h2
      by_cases h4 : i < 3
      · exact h.low i h4
      · cases h5 : us.getD i false with
        | true => rfl
        | false => exact absurd hX (frees_some (by omega) h3 h5)
    · have hb := bestS_mem (btM k) hX
      have hp : pickM us n k true = (bestS (btM k) (frees us 3 (3 + n / 8))).1 := by unfold pickM; rw [if_pos rfl, if_pos hb.1]
      rw [hp]
      have := frees_in hb.2
      refine .inl fun i h1 h2 => ?_
      unfold sdB
      have : i < 3 + n / 8 := by omega
      simp [this]
  | false =>
    by_cases hX : frees us (3 + n / 8) n = []
    · refine .inr fun i h1 h2 => ?_
      have h3 : 3 + n / 8 ≤ i := by simpa [sdB] using h2
      cases h5 : us.getD i false with
      | true => rfl
      | false => exact absurd hX (frees_some h3 h1 h5)
    · have hb := bestS_mem (btM k) hX
      have hp : pickM us n k false = (bestS (btM k) (frees us (3 + n / 8) n)).1 := by
        unfold pickM
        simp only [Bool.false_eq_true, if_false]
        rw [if_pos hb.1]
      rw [hp]
      have := frees_in hb.2
      refine .inl fun i h1 h2 => ?_
      unfold sdB
      have : ¬ i < 3 + n / 8 := by omega
      simp [this]
theorem chLoop_side {n : Nat} {inside : Bool} : ∀ (f : Nat) (us : List Bool) (k : Nat) (l : List Ext2), Lead us n → ∃ l2, (chLoop n inside f us k l).2 = l ++ l2 ∧ ((∀ x ∈ l2, onS (sdB n inside) x) ∨ NoF (sdB n inside) n (chLoop n inside f us k l).1)
  | 0, us, k, l, h => ⟨[], by simp [chLoop], .inl (fun x hx => absurd hx List.not_mem_nil)⟩
  | f + 1, us, k, l, h => by
    by_cases h0 : k = 0
    · subst h0
      rw [chLoop_done]
      exact ⟨[], by simp, .inl (fun x hx => absurd hx List.not_mem_nil)⟩
    · rw [chLoop_step h0]
      have hp := pick_side (k := k) (inside := inside) h
      generalize pickM us n k inside = x at *
      obtain ⟨p, q⟩ := x
      obtain ⟨l2, g1, g2⟩ := chLoop_side f (setR us p (min q k) true) (k - min q k) (l ++ [(p, min q k)]) h.set
      refine ⟨(p, min q k) :: l2, by simp only; rw [g1]; simp, ?_⟩
      rcases g2 with g2 | g2
      · rcases hp with hp | hp
        · refine .inl fun x hx => ?_
          rcases List.mem_cons.1 hx with rfl | hx
          · exact fun i h1 h2 => hp i h1 (by simp only at h2 ⊢; omega)
          · exact g2 x hx
        · exact .inr (chLoop_noF f _ _ _ (by rw [setR_len]; exact h.len) (hp.set h.len))
      · exact .inr g2
theorem bestS_first : ∀ (t : List Ext2) (y : Ext2), t.foldl (bestStep (fun _ _ => false)) (y, true) = (y, true)
  | [], y => rfl
  | a :: t, y => by rw [List.foldl_cons, show bestStep (fun _ _ => false) (y, true) a = (y, true) from rfl]; exact bestS_first t y
theorem nearM_eq {us : List Bool} {n near : Nat} (h1 : near < n) (h2 : us.getD near false = false) : ∃ e, near < e ∧ e ≤ n ∧ (∀ j, near ≤ j → j < e → us.getD j false = false) ∧ (e = n ∨ us.getD e false = true) ∧ nearM us n near = (near, e - near) := by
  obtain ⟨e, g1, g2, g3, g4⟩ := run_end (eqB us false) n (n - near) near (by omega) (by omega) (by unfold eqB; rw [h2]; rfl)
  refine ⟨e, g1, g2, fun j a b => by have := g3 j a b; unfold eqB at this; simpa using this, ?_, ?_⟩
  · rcases g4 with g4 | g4
    · exact .inl g4
    · refine .inr ?_
      unfold eqB at g4
      simpa using g4
  · unfold nearM frees
    rw [RR_run (eqB us false) g1 g2 g3 g4]
    show ((RR (eqB us false) e n).foldl (bestStep (fun _ _ => false)) (bestStep (fun _ _ => false) ((0, 0), false) (near, e - near))).1 = _
    rw [show bestStep (fun _ _ => false) ((0, 0), false) (near, e - near) = ((near, e - near), true) from rfl, bestS_first]
/-- An extent off the side that is not the run at near: then the side is full. -/
theorem choose_other {n m : Nat} {near : Int} {inside : Bool} {us : List Bool} (h : Lead us n) (hn : near < n) : ∃ l1 l2, (chooseM us n m near inside).2 = l1 ++ l2 ∧ (l1 = [] ∨ ∃ q, l1 = [(near.toNat, q)] ∧ 3 ≤ near) ∧
    ((∀ x ∈ l2, onS (sdB n inside) x) ∨ NoF (sdB n inside) n (chooseM us n m near inside).1) := by
  unfold chooseM
  split
  · rename_i hc
    obtain ⟨e, g1, g2, g3, g4, g5⟩ := nearM_eq (us := us) (n := n) (near := near.toNat) (by omega) hc.2
    rw [g5]
    obtain ⟨l2, k1, k2⟩ := chLoop_side (inside := inside) m (setR us near.toNat (min (e - near.toNat) m) true) (m - min (e - near.toNat) m) [(near.toNat, min (e - near.toNat) m)] h.set
    exact ⟨_, l2, k1, .inr ⟨_, rfl, hc.1⟩, k2⟩
  · obtain ⟨l2, k1, k2⟩ := chLoop_side (inside := inside) m us m [] h
    exact ⟨[], l2, k1, .inl rfl, k2⟩
/-- One extent is enough: the run at near. -/
theorem choose_near {n m p M : Nat} {near : Int} {inside : Bool} {us : List Bool} (h : Lead us n) (hx : (p, M) ∈ RR (eqB us false) 0 n) (h3 : 3 ≤ near) (h1 : (p : Int) ≤ near) (h2 : near < (p + M : Nat)) (hm : (m : Int) ≤ (p + M : Nat) - near) : (chooseM us n m near inside).2.length = 1 := by
  obtain ⟨nr, rfl⟩ : ∃ nr : Nat, near = nr := ⟨near.toNat, by omega⟩
  have hf := frees_in (us := us) (a := 0) (z := n) hx
  simp only at hf
  have hfn : us.getD nr false = false := hf.2.2.2 nr (by omega) (by omega)
  unfold chooseM
  rw [show ((nr : Nat) : Int).toNat = nr from rfl, if_pos ⟨h3, hfn⟩]
  obtain ⟨e, g1, g2, g3, g4, g5⟩ := nearM_eq (us := us) (n := n) (near := nr) (by omega) hfn
  have he : p + M ≤ e := by
    rcases g4 with g4 | g4
    · omega
    · by_cases h5 : e < p + M
      · rw [hf.2.2.2 e (by omega) h5] at g4; cases g4
      · omega
  rw [g5]
  simp only
  rw [show min (e - nr) m = m by omega, Nat.sub_self, chLoop_done]
  rfl
theorem consR_fst (p : Nat) (l : List Ext2) : ∃ m t, consR p l = (p, m) :: t := by
  unfold consR
  split
  · exact ⟨_, _, rfl⟩
  · split
    · exact ⟨_, _, rfl⟩
    · exact ⟨_, _, rfl⟩
theorem runsL_max : ∀ (l : List Bool) (p : Nat), ∀ x ∈ runsL l p, x.1 + x.2 = p + l.length ∨ l.getD (x.1 + x.2 - p) false = false
  | [], p, x, h => by cases h
  | false :: t, p, x, h => by
    rw [runsL_false] at h
    have h1 := runsL_in t (p + 1) x h
    rcases runsL_max t (p + 1) x h with h2 | h2
    · exact .inl (by rw [h2, List.length_cons]; omega)
    · refine .inr ?_
      rw [show x.1 + x.2 - p = (x.1 + x.2 - (p + 1)) + 1 by omega]
      simpa using h2
  | true :: t, p, x, h => by
    rw [runsL_true] at h
    have key : ∀ y ∈ runsL t (p + 1), y.1 + y.2 = p + (true :: t).length ∨ (true :: t).getD (y.1 + y.2 - p) false = false := by
      intro y hy
      have h1 := runsL_in t (p + 1) y hy
      rcases runsL_max t (p + 1) y hy with h2 | h2
      · exact .inl (by rw [h2, List.length_cons]; omega)
      · refine .inr ?_
        rw [show y.1 + y.2 - p = (y.1 + y.2 - (p + 1)) + 1 by omega]
        simpa using h2
    cases hr : runsL t (p + 1) with
    | nil =>
      rw [hr] at h
      have hx : x = (p, 1) := by simpa [consR] using h
      subst hx
      cases t with
      | nil => exact .inl rfl
      | cons b t =>
        cases b with
        | false => exact .inr (by simp)
        | true =>
          rw [runsL_true] at hr
          obtain ⟨m, t', e⟩ := consR_fst (p + 1) (runsL t (p + 1 + 1))
          rw [e] at hr
          cases hr
    | cons y r =>
      rw [hr] at h key
      obtain ⟨q, m⟩ := y
      unfold consR at h
      simp only at h
      split at h
      · rename_i hq
        subst hq
        rcases List.mem_cons.1 h with rfl | h
        · have := key (p + 1, m) List.mem_cons_self
          simp only at this ⊢
          rw [show p + (m + 1) = p + 1 + m by omega]
          exact this
        · exact key x (List.mem_cons_of_mem _ h)
      · rename_i hq
        rcases List.mem_cons.1 h with rfl | h
        · cases t with
          | nil => cases hr
          | cons b t =>
            cases b with
            | false => exact .inr (by simp)
            | true =>
              rw [runsL_true] at hr
              obtain ⟨m', t', e⟩ := consR_fst (p + 1) (runsL t (p + 1 + 1))
              rw [e] at hr
              injection hr with hr1 hr2
              injection hr1 with hr3 hr4
              exact absurd hr3.symm hq
        · exact key x h
theorem RR_max (f : Nat → Bool) {a z : Nat} {x : Ext2} (h : x ∈ RR f a z) (haz : a ≤ z) : x.1 + x.2 = z ∨ f (x.1 + x.2) = false := by
  have h1 := RR_in f a z x h
  unfold RR at h
  rcases runsL_max _ a x h with h2 | h2
  · rw [bitsR_len] at h2; exact .inl (by omega)
  · by_cases h3 : x.1 + x.2 - a < z - a
    · rw [bitsR_get f h3] at h2
      rw [show a + (x.1 + x.2 - a) = x.1 + x.2 by omega] at h2
      exact .inr h2
    · have h4 : a < z := by
        rcases Nat.lt_or_ge a z with h5 | h5
        · exact h5
        · have e := bitsR_none f h5
          rw [e] at h
          cases h
      have := h1.2.2 h4
      exact .inl (by omega)
theorem frees_cover {us : List Bool} {a z lo hi : Nat} (h1 : a ≤ lo) (h2 : lo < hi) (h3 : hi ≤ z) (hf : ∀ i, lo ≤ i → i < hi → us.getD i false = false) : ∃ x ∈ frees us a z, x.1 ≤ lo ∧ hi ≤ x.1 + x.2 := by
  obtain ⟨x, hx, g1, g2⟩ := (RR_mem (eqB us false) a z lo).2 ⟨h1, by omega, by unfold eqB; rw [hf lo (Nat.le_refl _) h2]; rfl⟩
  refine ⟨x, hx, g1, ?_⟩
  rcases RR_max (eqB us false) hx (by omega) with h4 | h4
  · omega
  · by_cases h5 : x.1 + x.2 < hi
    · unfold eqB at h4
      rw [hf _ (by omega) h5] at h4
      cases h4
    · omega
theorem best_keeps (k : Nat) : ∀ (l : List Ext2) (y : Ext2), (k ≤ y.2 ∨ ∃ x ∈ l, k ≤ x.2) → k ≤ (l.foldl (bestStep (btM k)) (y, true)).1.2
  | [], y, h => by
    rcases h with h | ⟨x, hx, _⟩
    · exact h
    · cases hx
  | a :: t, y, h => by
    rw [List.foldl_cons]
    unfold bestStep
    simp only [Bool.not_true, Bool.false_or]
    cases hb : btM k a y with
    | true =>
      rw [if_pos rfl]
      refine best_keeps k t a ?_
      rcases h with h | ⟨x, hx, h⟩
      · left
        unfold btM at hb
        split at hb
        · rename_i h5; exact h5.1
        · have : y.2 < a.2 := by simpa using hb
          omega
      · rcases List.mem_cons.1 hx with rfl | hx
        · exact .inl h
        · exact .inr ⟨x, hx, h⟩
    | false =>
      rw [if_neg (by decide)]
      refine best_keeps k t y ?_
      rcases h with h | ⟨x, hx, h⟩
      · exact .inl h
      · rcases List.mem_cons.1 hx with rfl | hx
        · left
          unfold btM at hb
          split at hb
          · rename_i h5; exact h5.2
          · have : ¬ y.2 < x.2 := by simpa using hb
            omega
        · exact .inr ⟨x, hx, h⟩
theorem best_fit {k : Nat} {l : List Ext2} (h : ∃ x ∈ l, k ≤ x.2) : k ≤ (bestS (btM k) l).1.2 := by
  obtain ⟨x, hx, hk⟩ := h
  cases l with
  | nil => cases hx
  | cons a t =>
    have : bestS (btM k) (a :: t) = t.foldl (bestStep (btM k)) (a, true) := rfl
    rw [this]
    refine best_keeps k t a ?_
    rcases List.mem_cons.1 hx with rfl | hx
    · exact .inl hk
    · exact .inr ⟨x, hx, hk⟩
/-- One extent is enough: a run of the side that is long enough. -/
theorem choose_fit {n m lo hi : Nat} {near : Int} {inside : Bool} {us : List Bool} (h : Lead us n) (hby : ¬ (3 ≤ near ∧ us.getD near.toNat false = false)) (h1m : 1 ≤ m) (h1 : 3 ≤ lo) (h2 : lo < hi) (h3 : hi ≤ n) (hf : ∀ i, lo ≤ i → i < hi → us.getD i false = false)
    (hs : if inside then hi ≤ 3 + n / 8 else 3 + n / 8 ≤ lo) (hm : m ≤ hi - lo) : (chooseM us n m near inside).2.length = 1 := by
  unfold chooseM
  rw [if_neg hby]
  obtain ⟨f, rfl⟩ : ∃ f, m = f + 1 := ⟨m - 1, by omega⟩
  rw [chLoop_step (by omega)]
  have hp : f + 1 ≤ (pickM us n (f + 1) inside).2 := by
    cases inside with
    | true =>
      simp only [if_true] at hs
      obtain ⟨x, hx, g1, g2⟩ := frees_cover (us := us) (a := 3) (z := 3 + n / 8) h1 h2 hs hf
      have hb := bestS_mem (btM (f + 1)) (fun e : frees us 3 (3 + n / 8) = [] => by rw [e] at hx; cases hx)
      unfold pickM
      rw [if_pos rfl, if_pos hb.1]
      exact best_fit ⟨x, hx, by omega⟩
    | false =>
      simp only [Bool.false_eq_true, if_false] at hs
      obtain ⟨x, hx, g1, g2⟩ := frees_cover (us := us) (a := 3 + n / 8) (z := n) hs h2 h3 hf
      have hb := bestS_mem (btM (f + 1)) (fun e : frees us (3 + n / 8) n = [] => by rw [e] at hx; cases hx)
      unfold pickM
      simp only [Bool.false_eq_true, if_false]
      rw [if_pos hb.1]
      exact best_fit ⟨x, hx, by omega⟩
  rw [show min (pickM us n (f + 1) inside).2 (f + 1) = f + 1 by omega, Nat.sub_self, chLoop_done]
  rfl
end Go.Proofs.Ytibohhiebejbmaa
/- Walks: the law AllocFits. -/
namespace Go.Proofs.Ytibohhiebejbmaa
open Go.RowKit Go.Deep Go.Shelf Go.Proofs.YtibohhiebejbmaaW.PrintWords
open Go.Proofs.Ytibohhiebejbmaa.PAllocActs (S56 k56 rd_T56 at_T56 z56 S34 k34 rd_T34 at_T34 k56_open k56_mkM)
set_option linter.unusedVariables false
set_option linter.unusedSimpArgs false
set_option maxRecDepth 100000

theorem take_mem {l : List Ext2} {i : Nat} {x y : Ext2} (h : l[i]? = some y) (hx : x ∈ l.take (i + 1)) : x ∈ l.take i ∨ x = y := by
  rw [List.take_add_one, h] at hx
  simpa using hx
theorem head_drop {l : List Ext2} {i : Nat} (h : i < l.length) : ∃ p M, l[i]? = some (p, M) ∧ (p, M) ∈ l ∧ l.drop i = (p, M) :: l.drop (i + 1) := by
  refine ⟨l[i].1, l[i].2, List.getElem?_eq_getElem h, List.getElem_mem h, ?_⟩
  rw [List.drop_eq_getElem_cons h]
theorem cov_cons (sd : Nat → Bool) (x : Ext2) (t : List Ext2) : cov sd (x :: t) = szS sd x + cov sd t := by simp [cov]
theorem cntF_le (sd : Nat → Bool) : ∀ (us : List Bool) (p : Nat), cntF sd us p ≤ us.length
  | [], p => Nat.le_refl _
  | x :: t, p => by
    have := cntF_le sd t (p + 1)
    simp only [cntF, List.length_cons]
    split <;> omega
theorem sz_in (n : Nat) : ∀ (M p : Nat), szS (sdB n true) (p, M) = min (p + M) (3 + n / 8) - p
  | 0, p => by rw [szS_none]; omega
  | M + 1, p => by
    rw [szS_snoc, sz_in n M p]
    unfold sdB
    by_cases h : p + M < 3 + n / 8
    · simp [h]; omega
    · simp [h]; omega
theorem sz_out (n : Nat) : ∀ (M p : Nat), szS (sdB n false) (p, M) = (p + M) - max p (3 + n / 8)
  | 0, p => by rw [szS_none]; omega
  | M + 1, p => by
    rw [szS_snoc, sz_out n M p]
    unfold sdB
    by_cases h : p + M < 3 + n / 8
    · simp [h]; omega
    · simp [h]; omega
theorem szS_le (sd : Nat → Bool) (p k : Nat) : szS sd (p, k) ≤ k := by
  unfold szS
  refine Nat.le_trans List.countP_le_length ?_
  simp
theorem chooseE_is (us : List Bool) (n : Nat) (m near : Int) : chooseE us n m near = 1 ∨ chooseE us n m near = 5 ∨ (chooseE us n m near = 0 ∧ 1 ≤ m ∧ -1 ≤ near ∧ near < n ∧ m ≤ freeM us) := by
  unfold chooseE
  by_cases h1 : ¬ (1 ≤ m ∧ -1 ≤ near ∧ near < n)
  · rw [if_pos h1]; exact .inl rfl
  · rw [if_neg h1]
    by_cases h2 : ¬ m ≤ freeM us
    · rw [if_pos h2]; exact .inr (.inl rfl)
    · rw [if_neg h2]
      have h1 := Decidable.not_not.1 h1
      exact .inr (.inr ⟨rfl, h1.1, h1.2.1, h1.2.2, Decidable.not_not.1 h2⟩)
/-- What the walk asks of the plain law. -/
structure FitsW (n : Nat) (us us' : List Bool) (m : Nat) (near : Int) (zone : Bool) (l : List Ext2) : Prop where
  near_ : ∀ p M, (p, M) ∈ RR (eqB us false) 0 n → 3 ≤ near → (p : Int) ≤ near → near < (p + M : Nat) → (m : Int) ≤ (p + M : Nat) - near → l.length = 1
  fit_ : (∀ x ∈ RR (eqB us false) 0 n, ¬ (3 ≤ near ∧ (x.1 : Int) ≤ near ∧ near < (x.1 + x.2 : Nat))) → ∀ p M lo hi, (p, M) ∈ RR (eqB us false) 0 n → p ≤ lo → lo < hi → hi ≤ p + M → (if zone then hi ≤ 3 + n / 8 else 3 + n / 8 ≤ lo) → m ≤ hi - lo → l.length = 1
  other_ : ∀ i p M, l[i]? = some (p, M) → (∃ k, k < M ∧ sdB n zone (p + k) = false) → (0 < i ∨ (p : Int) ≠ near) → cntF (sdB n zone) us' 0 = 0
  sum_ : cov (sdB n zone) l + cntF (sdB n zone) us' 0 = cntF (sdB n zone) us 0
  ext_ : ∀ x ∈ l, 3 ≤ x.1 ∧ 1 ≤ x.2 ∧ x.1 + x.2 ≤ n
  len_ : l.length ≤ n
theorem fitsW {n m : Nat} {near : Int} {zone : Bool} {us us' : List Bool} {l : List Ext2} (h : Lead us n) (h1 : 1 ≤ m) (hm : m ≤ freeM us) (hn0 : -1 ≤ near) (hn : near < n) (hch : chooseM us n m near zone = (us', l)) : FitsW n us us' m near zone l := by
  have hg := chooseM_got (inside := zone) (near := near) h hm h1 hn
  have hl' := (chooseM_lead (inside := zone) (near := near) (m := m) h).len
  have ho := choose_other (m := m) (inside := zone) (near := near) h hn
  rw [hch] at hg hl' ho
  have hf := hg.1.facts h.len
  refine ⟨?_, ?_, ?_, hg.1.cov _ h.len, hf.2.1, ?_⟩
  · intro p M hx g1 g2 g3 g4
    have := choose_near (inside := zone) h hx g1 g2 g3 g4
    rw [hch] at this
    exact this
  · intro hby p M lo hi hx g1 g2 g3 g4 g5
    have hfr := frees_in (us := us) (a := 0) (z := n) hx
    simp only at hfr
    have h3 : 3 ≤ p := by
      by_cases h3 : 3 ≤ p
      · exact h3
      · have h4 := h.low p (by omega)
        rw [hfr.2.2.2 p (Nat.le_refl _) (by omega)] at h4
        cases h4
    have := choose_fit (m := m) (near := near) (inside := zone) (lo := lo) (hi := hi) h (by
      rintro ⟨k1, k2⟩
      obtain ⟨x, hx2, k3, k4⟩ := (RR_mem (eqB us false) 0 n near.toNat).2 ⟨Nat.zero_le _, by omega, by unfold eqB; rw [k2]; rfl⟩
      exact hby x hx2 ⟨k1, by omega, by omega⟩) h1 (by omega) g2 (by omega) (fun i a b => hfr.2.2.2 i (by omega) (by omega)) g4 g5
    rw [hch] at this
    exact this
  · intro i p M hi hk hor
    obtain ⟨l1, l2, e, hl1, hs⟩ := ho
    simp only at e hs
    rcases hs with hs | hs
    · exfalso
      obtain ⟨k, hk1, hk2⟩ := hk
      have hx : (p, M) ∈ l2 := by
        rcases hl1 with rfl | ⟨q, rfl, h3⟩
        · rw [List.nil_append] at e
          rw [← e]
          exact List.mem_of_getElem? hi
        · rw [e] at hi
          cases i with
          | zero =>
            simp at hi
            obtain ⟨hi1, hi2⟩ := hi
            rcases hor with h | h
            · omega
            · omega
          | succ i =>
            simp at hi
            exact List.mem_of_getElem? hi
      have := hs (p, M) hx (p + k) (by simp) (by simp; omega)
      rw [hk2] at this
      cases this
    · exact hs.cnt hl'
  · have h7 := hf.2.2.2.2.2.2
    have := freeM_le' us
    rw [hg.2] at h7
    simp only at h7
    have := h.len
    omega
set_option maxHeartbeats 16000000 in
theorem law_AllocFits (n : Int) (A1 : Option Addr) (c1 : Nat) (acts : List S34) (m near : Int) (zone : Bool) (w : World) (hr : Kd.C k34 w A1 acts.length acts) (hc : acts.length ≤ c1) (hm : acts.length ≤ 9223372036854775807) :
    Calls Try.prog 7 #[.int .i64 n, .slice A1 acts.length c1, .int .i64 m, .int .i64 near, .bool zone] w fun e w' => e = .returned (.bool true) ∧ Below w.heap.size w w' := by
  obtain ⟨rf, hrf, hfew⟩ := few_any n A1 c1 acts w hr hc hm
  have HFW := Lib.hid hfew
  have HR := Lib.hid hr
  obtain ⟨la, hla⟩ : ∃ la, acts.length = la := ⟨_, rfl⟩
  clear hfew
  cases rf with
  | false =>
    clear hr hrf hla
    go_enter Try.func7, Try.ntmps7
    go_wp2_with (first
      | (go_at_call 9; refine HFW.out.mono ?_; rintro e w1 ⟨rfl, hB⟩; (have HB1 := Lib.hid hB); clear hB)
      | (go_at_call 10; refine (sanity_any _).mono ?_; rintro e w9 ⟨rfl, hB⟩; (have HB9 := Lib.hid (Ytibohhiebejbmaa.below_then HB1.out HB1.out.size hB)); clear hB))
    go_ret
    exact ⟨rfl, HB9.out⟩
  | true =>
    obtain ⟨hn4, hn16, hac⟩ := hrf rfl
    by_cases hbig : n ≤ 1536
    case neg =>
      have hbig2 : 1536 < n := by omega
      clear hr hrf hla
      go_enter Try.func7, Try.ntmps7
      go_wp2_with (first
        | (go_at_call 9; refine HFW.out.mono ?_; rintro e w1 ⟨rfl, hB⟩; (have HB1 := Lib.hid hB); clear hB)
        | (go_at_call 10; refine (sanity_any _).mono ?_; rintro e w9 ⟨rfl, hB⟩; (have HB9 := Lib.hid (Ytibohhiebejbmaa.below_then HB1.out HB1.out.size hB)); clear hB))
      go_ret
      exact ⟨rfl, HB9.out⟩
    obtain ⟨N, rfl⟩ : ∃ N : Nat, n = N := ⟨n.toNat, by omega⟩
    have hN4 : 4 ≤ N := by omega
    have hN15 : N ≤ 1536 := by omega
    have hptr := ptr_ne
    have hq1 : decide ((1536 : Int) < (N : Int)) = false := by simp; omega
    have HLD : Hid (Lead (goneM N acts) N) := Lib.hid (goneM_lead hN4 acts)
    have HGO : Hid (∀ W, Below w.heap.size w W → Calls Try.prog 23 #[.int .i64 N, .slice A1 acts.length c1] W fun e w' => ∃ G A, e = .returned (.pointer (some ⟨G, 0, none⟩)) ∧ SU w' G A N (goneM N acts) ∧ Below W.heap.size W w' ∧ W.heap.size ≤ G ∧ W.heap.size ≤ A) :=
      Lib.hid fun W hb => gone_any N hN4 hN15 A1 c1 acts W (Kd.C_below HR.out hb) hc (by omega)
    obtain ⟨us, hus⟩ : ∃ us, goneM N acts = us := ⟨_, rfl⟩
    rw [hus] at HGO HLD
    rw [hla] at HGO HFW ⊢
    obtain ⟨zn, hzn⟩ : ∃ zn, 3 + N / 8 = zn := ⟨_, rfl⟩
    have hzN : zn ≤ N := by omega
    have hz3 : 3 ≤ zn := by omega
    have HZN := Lib.hid hzn
    have hq2 : decide ((zn : Int) < 3) = false := by simp; omega
    have hq3 : decide ((N : Int) < (zn : Int)) = false := by simp; omega
    have hq4 : decide (N < zn) = false := by simp; omega
    have hq5 : decide (zn < 3) = false := by simp; omega
    clear hla hr hrf hus hzn
    go_enter Try.func7, Try.ntmps7
    go_wp2_with (first
      | (go_at_call 9; refine HFW.out.mono ?_; rintro e w1 ⟨rfl, hB⟩; (have HB1 := Lib.hid hB); clear hB)
      | (fail))
    refine (HGO.out _ HB1.out).mono ?_
    rintro e w2 ⟨G, A, rfl, hS, hB, hG, hA⟩
    have HB2 := Lib.hid (Ytibohhiebejbmaa.below_then HB1.out HB1.out.size hB)
    have HS2 := Lib.hid hS
    clear hS hB hG hA
    go_wp2_with (fail)
    refine (zone_ex N (by omega) _ ⟨hN4, hN15⟩).mono ?_
    rintro e w3 ⟨rfl, hw9⟩
    have hw8 := hw9.symm
    subst hw8
    clear hw9
    rw [HZN.out]
    go_wp2_with (fail)
    obtain ⟨rn, hrn⟩ : ∃ rn, RR (eqB us false) 0 N = rn := ⟨_, rfl⟩
    have HRN := Lib.hid hrn
    refine (runs_us (tx := 1) false HS2.out).mono ?_
    rintro e w5 ⟨Ar, cr, rfl, ho, hB⟩
    rw [hrn] at ho ⊢
    obtain ⟨kr, hkr⟩ : ∃ kr, rn.length = kr := ⟨_, rfl⟩
    rw [hkr] at ho ⊢
    have hkrN : kr ≤ N := by have := RR_len (eqB us false) 0 N; rw [hrn, hkr] at this; omega
    have HKR := Lib.hid hkr
    have HOr := Lib.hid ho
    have HB5 := Lib.hid (Ytibohhiebejbmaa.below_then HB2.out HB2.out.size hB)
    have HS5 := Lib.hid (HS2.out.on hB)
    clear hrn ho hkr hB HB1 HB2 HS2 HGO HFW
    rcases chooseE_is us N m near with hE | hE | ⟨hE, hm1, hn0, hnN, hmf⟩
    · have HT := Lib.hid (choose_err (tx := 1) (inside := zone) (m := m) (near := near) HS5.out (by rw [hE]; decide))
      rw [hE] at HT
      clear hE
      go_wp2_with (first
        | (go_at_call 29; refine HT.out.mono ?_; rintro e w7 ⟨rfl, hB⟩; (have HB7 := Lib.hid (Ytibohhiebejbmaa.below_then HB5.out HB5.out.size hB)); clear hB)
        | (go_at_call 10; refine (sanity_any _).mono ?_; rintro e w9 ⟨rfl, hB⟩; (have HB9 := Lib.hid (Ytibohhiebejbmaa.below_then HB7.out HB7.out.size hB)); clear hB))
      go_ret
      exact ⟨rfl, HB9.out⟩
    · have HT := Lib.hid (choose_err (tx := 1) (inside := zone) (m := m) (near := near) HS5.out (by rw [hE]; decide))
      rw [hE] at HT
      clear hE
      go_wp2_with (first
        | (go_at_call 29; refine HT.out.mono ?_; rintro e w7 ⟨rfl, hB⟩; (have HB7 := Lib.hid (Ytibohhiebejbmaa.below_then HB5.out HB5.out.size hB)); clear hB)
        | (go_at_call 10; refine (sanity_any _).mono ?_; rintro e w9 ⟨rfl, hB⟩; (have HB9 := Lib.hid (Ytibohhiebejbmaa.below_then HB7.out HB7.out.size hB)); clear hB))
      go_ret
      exact ⟨rfl, HB9.out⟩
    obtain ⟨mn, rfl⟩ : ∃ mn : Nat, m = mn := ⟨m.toNat, by omega⟩
    have HT := Lib.hid (choose_us (tx := 1) (inside := zone) (m := mn) (near := near) HS5.out hE)
    have HFW0 := Lib.hid (fitsW (n := N) (m := mn) (near := near) (zone := zone) HLD.out (by omega) (by omega) hn0 hnN rfl)
    clear hE hmf
    go_wp2_with (fail)
    refine HT.out.mono ?_
    rintro e w6 ⟨l, Al, cl, hch, rfl, ho, hB⟩
    rw [show ((mn : Nat) : Int).toNat = mn from rfl] at hch
    have HF : Hid (FitsW N us (chooseM us N mn near zone).1 mn near zone l) := Lib.hid (by rw [← hch]; exact HFW0.out)
    obtain ⟨us', hus'⟩ : ∃ us', (chooseM us N mn near zone).1 = us' := ⟨_, rfl⟩
    rw [hus'] at HF
    obtain ⟨kl, hkl⟩ : ∃ kl, l.length = kl := ⟨_, rfl⟩
    rw [hkl] at ho ⊢
    have HKL := Lib.hid hkl
    have hklN : kl ≤ N := by rw [← hkl]; exact HF.out.len_
    have HKr : Hid (Kd.C k56 w6 Ar kr (rn.map toS)) := Lib.hid (Kd.C_below (ext_reads HOr.out HKR.out (by omega)) hB)
    have HKl : Hid (Kd.C k56 w6 Al kl (l.map toS)) := Lib.hid (ext_reads ho HKL.out (by omega))
    have HB6 := Lib.hid (Ytibohhiebejbmaa.below_then HB5.out HB5.out.size hB)
    have HWZ : Hid (w.heap.size ≤ w6.heap.size) := Lib.hid HB6.out.size
    clear hch hus' hkl ho hB HT HFW0 HOr HB5 HS5
    go_wp2_with (fail)
    go_loopg [19, 20] (kr + 1) (fun kq v1 v2 W => ∃ (b : Bool) (i : Nat), v1 = .bool b ∧ v2 = .int .i64 i ∧ i ≤ kr ∧ kr - i < kq ∧ Hid (Below w6.heap.size w6 W) ∧ Hid (b = false → ∀ x ∈ rn.take i, ¬ (3 ≤ near ∧ (x.1 : Int) ≤ near ∧ near < (x.1 + x.2 : Nat))))
    case atStart => exact ⟨false, 0, by simp, by simp, by omega, by omega, Lib.hid (Below.refl _ _), Lib.hid (fun _ x hx => by simp at hx)⟩
    case round =>
      obtain ⟨b, i, rfl, rfl, hi, hkq, HBW, HBY⟩ := hrel
      by_cases hlt : i < kr
      · have hlti : (i : Int) < (kr : Int) := by omega
        have hwi : IntKind.i64.wrap ((i : Int) + 1) = ((i + 1 : Nat) : Int) := i64_is (by omega) (by omega)
        obtain ⟨p, M, d1, d2, d3⟩ := head_drop (l := rn) (i := i) (by rw [HKR.out]; exact hlt)
        have hin := RR_in (eqB us false) 0 N (p, M) (by rw [HRN.out]; exact d2)
        simp only at hin
        have hpM : p + M ≤ N := hin.2.2 (by omega)
        have HI := Lib.hid d1
        obtain ⟨ad, ea, hx0, hx1⟩ := at_T56 (Kd.C_below HKr.out HBW.out) (i : Int) (by omega) hlti
        subst ea
        rw [show ((i : Nat) : Int).toNat = i from rfl] at hx0 hx1
        rw [rd_map d1] at hx0 hx1
        simp only [toS] at hx0 hx1
        have hwp : IntKind.i64.wrap ((p : Int) + (M : Int)) = ((p + M : Nat) : Int) := i64_is (by omega) (by omega)
        clear hin d1 d2 d3
        cases b with
        | true =>
          go_wp2_with (fail)
          go_quiet (fail)
          try go_wp2
          go_roundg (kr - i)
          case measure => omega
          case rel => exact ⟨true, i + 1, by simp, by simp, by omega, by omega, Lib.hid (by first | exact below_drew1 HBW.out | exact below_drewN HBW.out _), Lib.hid (by intro h; cases h)⟩
        | false =>
          by_cases g1 : 3 ≤ near
          · by_cases g2 : (p : Int) ≤ near
            · by_cases g3 : near < ((p + M : Nat) : Int)
              · have e1 : decide (3 ≤ near) = true := by simp; omega
                have e2 : decide ((p : Int) ≤ near) = true := by simp; omega
                have e3 : decide (near < ((p + M : Nat) : Int)) = true := by simp; omega
                have e4 : decide (near < (p : Int) + (M : Int)) = true := by simp; omega
                go_wp2_with (fail)
                go_quiet (fail)
                try go_wp2
                go_roundg (kr - i)
                case measure => omega
                case rel => exact ⟨true, i + 1, by simp, by simp, by omega, by omega, Lib.hid (by first | exact below_drew1 HBW.out | exact below_drewN HBW.out _), Lib.hid (by intro h; cases h)⟩
              · have e1 : decide (3 ≤ near) = true := by simp; omega
                have e2 : decide ((p : Int) ≤ near) = true := by simp; omega
                have e3 : decide (near < ((p + M : Nat) : Int)) = false := by simp; omega
                have e4 : decide (near < (p : Int) + (M : Int)) = false := by simp; omega
                go_wp2_with (fail)
                go_quiet (fail)
                try go_wp2
                go_roundg (kr - i)
                case measure => omega
                case rel => exact ⟨false, i + 1, by simp, by simp, by omega, by omega, Lib.hid (by first | exact below_drew1 HBW.out | exact below_drewN HBW.out _), Lib.hid (by intro _ x hx; rcases take_mem HI.out hx with hx | rfl; exact HBY.out (by first | rfl | trivial) x hx; simp only; omega)⟩
            · have e1 : decide (3 ≤ near) = true := by simp; omega
              have e2 : decide ((p : Int) ≤ near) = false := by simp; omega
              go_wp2_with (fail)
              go_quiet (fail)
              try go_wp2
              go_roundg (kr - i)
              case measure => omega
              case rel => exact ⟨false, i + 1, by simp, by simp, by omega, by omega, Lib.hid (by first | exact below_drew1 HBW.out | exact below_drewN HBW.out _), Lib.hid (by intro _ x hx; rcases take_mem HI.out hx with hx | rfl; exact HBY.out (by first | rfl | trivial) x hx; simp only; omega)⟩
          · have e1 : decide (3 ≤ near) = false := by simp; omega
            go_wp2_with (fail)
            go_quiet (fail)
            try go_wp2
            go_roundg (kr - i)
            case measure => omega
            case rel => exact ⟨false, i + 1, by simp, by simp, by omega, by omega, Lib.hid (by first | exact below_drew1 HBW.out | exact below_drewN HBW.out _), Lib.hid (by intro _ x hx; rcases take_mem HI.out hx with hx | rfl; exact HBY.out (by first | rfl | trivial) x hx; simp only; omega)⟩
      · have hie : i = kr := by omega
        subst hie
        have hlti : ¬ (i : Int) < (i : Int) := by omega
        have HBN : Hid (b = false → ∀ x ∈ rn, ¬ (3 ≤ near ∧ (x.1 : Int) ≤ near ∧ near < (x.1 + x.2 : Nat))) := Lib.hid (by
          have h9 := HBY.out
          rw [List.take_of_length_le (by rw [HKR.out]; exact Nat.le_refl _)] at h9
          exact h9)
        clear HBY hlt
        go_wp2_with (fail)
        have hRT := HF.out.sum_
        have hRTN : cntF (sdB N zone) us 0 ≤ N := by have := cntF_le (sdB N zone) us 0; have := HLD.out.len; omega
        obtain ⟨RT, hRTe⟩ : ∃ RT, cntF (sdB N zone) us 0 = RT := ⟨_, rfl⟩
        have HRT : Hid (cov (sdB N zone) rn = RT) := Lib.hid (by rw [← HRN.out, cov_frees _ HLD.out.len, hRTe])
        rw [hRTe] at hRT hRTN
        have HSL := Lib.hid hRT
        have HRTe := Lib.hid hRTe
        clear hRT hRTe
        have HC0 : Hid (0 + cov (sdB N zone) (rn.drop 0) = RT) := Lib.hid (by rw [Nat.zero_add]; exact HRT.out)
        go_loopg [21, 22, 23] (i + 1) (fun kq v1 v2 v3 W => ∃ (o : Bool) (t j : Nat), v1 = .bool o ∧ v2 = .int .i64 t ∧ v3 = .int .i64 j ∧ j ≤ i ∧ i - j < kq ∧ Hid (Below w6.heap.size w6 W) ∧ Hid (o = true → kl = 1) ∧ Hid (t + cov (sdB N zone) (rn.drop j) = RT))
        case atStart => exact ⟨false, 0, 0, by simp, by simp, by simp, by omega, by omega, HBW, Lib.hid (fun h => by cases h), HC0⟩
        case round =>
          clear HBW HC0
          obtain ⟨o, t, j, rfl, rfl, rfl, hj, hkq, HBW, HON, HCV⟩ := hrel
          by_cases hlt : j < i
          · have hlti : (j : Int) < (i : Int) := by omega
            have hwj : IntKind.i64.wrap ((j : Int) + 1) = ((j + 1 : Nat) : Int) := i64_is (by omega) (by omega)
            obtain ⟨p, M, d1, d2, d3⟩ := head_drop (l := rn) (i := j) (by rw [HKR.out]; exact hlt)
            have hin := RR_in (eqB us false) 0 N (p, M) (by rw [HRN.out]; exact d2)
            simp only at hin
            obtain ⟨E, hE⟩ : ∃ E, p + M = E := ⟨_, rfl⟩
            have hpM : E ≤ N := by rw [← hE]; exact hin.2.2 (by omega)
            have hpE : p ≤ E := by omega
            have HE := Lib.hid hE
            have HIN : Hid ((p, M) ∈ RR (eqB us false) 0 N) := Lib.hid (by rw [HRN.out]; exact d2)
            have HCV2 : Hid (t + (szS (sdB N zone) (p, M) + cov (sdB N zone) (rn.drop (j + 1))) = RT) := Lib.hid (by have := HCV.out; rw [d3, cov_cons] at this; exact this)
            obtain ⟨ad, ea, hx0, hx1⟩ := at_T56 (Kd.C_below HKr.out HBW.out) (j : Int) (by omega) hlti
            subst ea
            rw [show ((j : Nat) : Int).toNat = j from rfl] at hx0 hx1
            rw [rd_map d1] at hx0 hx1
            simp only [toS] at hx0 hx1
            have hwp : IntKind.i64.wrap ((p : Int) + (M : Int)) = (E : Int) := i64_is (by omega) (by omega)
            clear hin d1 d2 d3 HCV hE
            go_upto_region 25 with (fail)
            go_cut [156] (fun v W => ∃ g, v = .bool g ∧ Hid (g = true → kl = 1) ∧ Hid (Below w6.heap.size w6 W))
            case first =>
              by_cases g1 : 3 ≤ near
              · by_cases g2 : (p : Int) ≤ near
                · by_cases g3 : near < (E : Int)
                  · have hws : IntKind.i64.wrap ((E : Int) - near) = (E : Int) - near := IntWalk.i64_in _ (by omega)
                    by_cases g4 : (mn : Int) ≤ (E : Int) - near
                    · go_wp2
                      go_meet
                      case rel => exact ⟨true, by simp, Lib.hid (fun _ => by rw [← HKL.out]; exact HF.out.near_ p M HIN.out g1 g2 (by rw [HE.out]; exact g3) (by rw [HE.out]; exact g4)), HBW⟩
                    · go_wp2
                      go_meet
                      case rel => exact ⟨false, by simp, Lib.hid (fun h => by cases h), HBW⟩
                  · go_wp2
                    go_meet
                    case rel => exact ⟨false, by simp, Lib.hid (fun h => by cases h), HBW⟩
                · go_wp2
                  go_meet
                  case rel => exact ⟨false, by simp, Lib.hid (fun h => by cases h), HBW⟩
              · go_wp2
                go_meet
                case rel => exact ⟨false, by simp, Lib.hid (fun h => by cases h), HBW⟩
            case rest =>
             clear HBW
             obtain ⟨g, rfl, HGG, HBW⟩ := hcut
             go_upto_if 156 with (fail)
             go_cut [21] (fun v W => ∃ o2, v = .bool o2 ∧ Hid (o2 = true → kl = 1) ∧ Hid (Below w6.heap.size w6 W))
             case first =>
               cases g with
               | true =>
                 go_wp2
                 go_meet
                 case rel => exact ⟨true, by simp, Lib.hid (by first | exact HGG.out | exact fun _ => HGG.out trivial | simp), HBW⟩
               | false =>
                 go_wp2
                 go_meet
                 case rel => exact ⟨o, by simp, HON, HBW⟩
             case rest =>
               clear HBW HON
               obtain ⟨o2, rfl, HON, HBW⟩ := hcut
               go_upto_if 157 with (fail)
               go_cut [24, 25] (fun v1 v2 W => ∃ lo hi : Nat, v1 = .int .i64 lo ∧ v2 = .int .i64 hi ∧ hi ≤ N ∧ lo ≤ N ∧ Hid (szS (sdB N zone) (p, M) = hi - lo) ∧ Hid (p ≤ lo ∧ hi ≤ E ∧ if zone then hi ≤ 3 + N / 8 else 3 + N / 8 ≤ lo) ∧ Hid (Below w6.heap.size w6 W))
               case first =>
                 cases zone with
                 | true =>
                   by_cases g1 : E ≤ zn
                   · have gm : min (E : Int) (zn : Int) = (E : Int) := by omega
                     go_wp2
                     go_meet
                     case rel => exact ⟨p, E, by simp, by first | (simp; done) | (simp; omega), by omega, by omega, Lib.hid (by rw [sz_in]; have := HE.out; have := HZN.out; omega), Lib.hid ⟨Nat.le_refl _, Nat.le_refl _, by have hz := HZN.out; simp; omega⟩, HBW⟩
                   · have gm : min (E : Int) (zn : Int) = (zn : Int) := by omega
                     go_wp2
                     go_meet
                     case rel => exact ⟨p, zn, by simp, by first | (simp; done) | (simp; omega), by omega, by omega, Lib.hid (by rw [sz_in]; have := HE.out; have := HZN.out; omega), Lib.hid ⟨Nat.le_refl _, by omega, by have hz := HZN.out; simp; omega⟩, HBW⟩
                 | false =>
                   by_cases g1 : zn ≤ p
                   · have gm : max (p : Int) (zn : Int) = (p : Int) := by omega
                     go_wp2
                     go_meet
                     case rel => exact ⟨p, E, by first | (simp; done) | (simp; omega), by simp, by omega, by omega, Lib.hid (by rw [sz_out]; have := HE.out; have := HZN.out; omega), Lib.hid ⟨Nat.le_refl _, Nat.le_refl _, by have hz := HZN.out; simp; omega⟩, HBW⟩
                   · have gm : max (p : Int) (zn : Int) = (zn : Int) := by omega
                     go_wp2
                     go_meet
                     case rel => exact ⟨zn, E, by first | (simp; done) | (simp; omega), by simp, by omega, by omega, Lib.hid (by rw [sz_out]; have := HE.out; have := HZN.out; omega), Lib.hid ⟨by omega, Nat.le_refl _, by have hz := HZN.out; simp; omega⟩, HBW⟩
               case rest =>
                 clear HBW
                 obtain ⟨lo, hi, rfl, rfl, hhN, hlN, HSZ, HLH, HBW⟩ := hcut
                 by_cases hlh : lo < hi
                 · have hlhi : (lo : Int) < (hi : Int) := by omega
                   have htN : t + (hi - lo) ≤ RT := by have h1 := HCV2.out; have h2 := HSZ.out; omega
                   have hw1 : IntKind.i64.wrap ((t : Int) + (hi : Int)) = (t : Int) + (hi : Int) := IntWalk.i64_in _ (by omega)
                   have hw2 : IntKind.i64.wrap ((t : Int) + (hi : Int) - (lo : Int)) = ((t + (hi - lo) : Nat) : Int) := by rw [IntWalk.i64_in _ (by omega)]; omega
                   have hw3 : IntKind.i64.wrap ((hi : Int) - (lo : Int)) = ((hi - lo : Nat) : Int) := by rw [IntWalk.i64_in _ (by omega)]; omega
                   obtain ⟨t2, ht2⟩ : ∃ t2, t + (hi - lo) = t2 := ⟨_, rfl⟩
                   obtain ⟨dl, hdl⟩ : ∃ dl, hi - lo = dl := ⟨_, rfl⟩
                   rw [ht2] at hw2
                   rw [hdl] at hw3
                   have HC3 : Hid (t2 + cov (sdB N zone) (rn.drop (j + 1)) = RT) := Lib.hid (by have h1 := HCV2.out; have h2 := HSZ.out; omega)
                   have HDL := Lib.hid hdl
                   clear ht2 hdl
                   cases o2 with
                   | true =>
                     go_wp2
                     go_roundg (i - j)
                     case measure => omega
                     case rel => exact ⟨true, t2, j + 1, by simp, by simp, by simp, by omega, by omega, HBW, Lib.hid (by first | exact HON.out | exact fun _ => HON.out trivial | simp), HC3⟩
                   | false =>
                     by_cases g1 : mn ≤ dl
                     · have e1 : decide ((mn : Int) ≤ (dl : Int)) = true := by simp; omega
                       have e1' : decide (mn ≤ dl) = true := by simp; omega
                       cases b with
                       | true =>
                         go_wp2
                         go_roundg (i - j)
                         case measure => omega
                         case rel => exact ⟨false, t2, j + 1, by simp, by simp, by simp, by omega, by omega, HBW, Lib.hid (by first | exact HON.out | exact fun _ => HON.out trivial | simp), HC3⟩
                       | false =>
                         go_wp2
                         go_roundg (i - j)
                         case measure => omega
                         case rel => exact ⟨true, t2, j + 1, by simp, by simp, by simp, by omega, by omega, HBW, Lib.hid (fun _ => by rw [← HKL.out]; exact HF.out.fit_ (by rw [HRN.out]; exact HBN.out (by first | rfl | trivial)) p M lo hi HIN.out HLH.out.1 hlh (by rw [HE.out]; exact HLH.out.2.1) HLH.out.2.2 (by rw [HDL.out]; exact g1)), HC3⟩
                     · have e1 : decide ((mn : Int) ≤ (dl : Int)) = false := by simp; omega
                       have e1' : decide (mn ≤ dl) = false := by simp; omega
                       go_wp2
                       go_roundg (i - j)
                       case measure => omega
                       case rel => exact ⟨false, t2, j + 1, by simp, by simp, by simp, by omega, by omega, HBW, Lib.hid (by first | exact HON.out | exact fun _ => HON.out trivial | simp), HC3⟩
                 · have hlhi : ¬ (lo : Int) < (hi : Int) := by omega
                   have HC3 : Hid (t + cov (sdB N zone) (rn.drop (j + 1)) = RT) := Lib.hid (by have h1 := HCV2.out; have h2 := HSZ.out; omega)
                   go_wp2
                   go_roundg (i - j)
                   case measure => omega
                   case rel => exact ⟨o2, t, j + 1, by simp, by simp, by simp, by omega, by omega, HBW, Lib.hid (by first | exact HON.out | exact fun _ => HON.out trivial | simp), HC3⟩
          · have hje : j = i := by omega
            subst hje
            have hlti : ¬ (j : Int) < (j : Int) := by omega
            have htR : t = RT := by
              have := HCV.out
              rw [show rn.drop j = [] by rw [← HKR.out]; exact List.drop_length .., show cov (sdB N zone) [] = 0 from rfl] at this
              exact this
            subst htR
            clear HCV hlt
            go_wp2_with (fail)
            have HC9 : Hid (0 + cov (sdB N zone) (l.drop 0) + cntF (sdB N zone) us' 0 = t) := Lib.hid (by rw [Nat.zero_add]; exact HSL.out)
            have htN := hRTN
            go_loopg [26, 27, 28] (kl + 1) (fun kq v1 v2 v3 W => ∃ (c : Nat) (q : Bool) (y : Nat), v1 = .int .i64 c ∧ v2 = .bool q ∧ v3 = .int .i64 y ∧ y ≤ kl ∧ kl - y < kq ∧ Hid (Below w6.heap.size w6 W) ∧ Hid (q = true → cntF (sdB N zone) us' 0 = 0) ∧ Hid (c + cov (sdB N zone) (l.drop y) + cntF (sdB N zone) us' 0 = t))
            case atStart => exact ⟨0, false, 0, by simp, by simp, by simp, by omega, by omega, HBW, Lib.hid (fun h => by cases h), HC9⟩
            case round =>
              clear HBW HC9
              obtain ⟨c, q, y, rfl, rfl, rfl, hy, hkq3, HBW, HQ, HCV⟩ := hrel
              by_cases hlt : y < kl
              · have hlti : (y : Int) < (kl : Int) := by omega
                have hwy : IntKind.i64.wrap ((y : Int) + 1) = ((y + 1 : Nat) : Int) := i64_is (by omega) (by omega)
                obtain ⟨p, M, d1, d2, d3⟩ := head_drop (l := l) (i := y) (by rw [HKL.out]; exact hlt)
                have hext := HF.out.ext_ (p, M) d2
                simp only at hext
                obtain ⟨hp3, hM1, hpM⟩ := hext
                have HI := Lib.hid d1
                have HCV2 : Hid (c + (szS (sdB N zone) (p, M) + cov (sdB N zone) (l.drop (y + 1))) + cntF (sdB N zone) us' 0 = t) := Lib.hid (by have := HCV.out; rw [d3, cov_cons] at this; exact this)
                have hcN : c ≤ N := by have := HCV2.out; omega
                clear d1 d2 d3 HCV
                go_wp2_with (fail)
                have HD0 : Hid (c = c + szS (sdB N zone) (p, 0)) := Lib.hid (by rw [szS_none]; rfl)
                go_loopg [26, 27, 29] (M + 1) (fun kq v1 v2 v3 W => ∃ (d k : Nat) (q2 : Bool), v1 = .int .i64 d ∧ v2 = .bool q2 ∧ v3 = .int .i64 k ∧ k ≤ M ∧ M - k < kq ∧ Hid (Below w6.heap.size w6 W) ∧ Hid (q2 = true → cntF (sdB N zone) us' 0 = 0) ∧ Hid (d = c + szS (sdB N zone) (p, k)))
                case atStart => exact ⟨c, 0, q, by simp, by simp, by simp, by omega, by omega, HBW, HQ, HD0⟩
                case round =>
                  clear HBW HQ HD0
                  obtain ⟨d, k, q2, rfl, rfl, rfl, hk, hkq4, HBW, HQ, HD⟩ := hrel
                  obtain ⟨ad, ea, hx0, hx1⟩ := at_T56 (Kd.C_below HKl.out HBW.out) (y : Int) (by omega) hlti
                  subst ea
                  rw [show ((y : Nat) : Int).toNat = y from rfl] at hx0 hx1
                  rw [rd_map HI.out] at hx0 hx1
                  simp only [toS] at hx0 hx1
                  have hdN : d ≤ N + N := by have h1 := HD.out; have h2 := szS_le (sdB N zone) p k; omega
                  by_cases hlt2 : k < M
                  · have hlti2 : (k : Int) < (M : Int) := by omega
                    obtain ⟨e, he⟩ : ∃ e, p + k = e := ⟨_, rfl⟩
                    have HE := Lib.hid he
                    have hwe : IntKind.i64.wrap ((p : Int) + (k : Int)) = (e : Int) := i64_is (by omega) (by omega)
                    have hwk : IntKind.i64.wrap ((k : Int) + 1) = ((k + 1 : Nat) : Int) := i64_is (by omega) (by omega)
                    have hwd : IntKind.i64.wrap ((d : Int) + 1) = ((d + 1 : Nat) : Int) := i64_is (by omega) (by omega)
                    clear he
                    cases zone with
                    | true =>
                      by_cases ge : e < zn
                      · have f1 : decide ((e : Int) < (zn : Int)) = true := by simp; omega
                        have f2 : decide (e < zn) = true := by simp; omega
                        have hsd : sdB N true (p + k) = true := by unfold sdB; rw [HE.out, HZN.out, f2]; rfl
                        go_wp2_with (fail)
                        go_roundg (M - k)
                        case measure => omega
                        case rel => exact ⟨d + 1, k + 1, q2, by simp, by simp, by simp, by omega, by omega, HBW, Lib.hid (by first | exact HQ.out | exact fun _ => HQ.out trivial | simp), Lib.hid (by rw [szS_snoc, hsd]; have := HD.out; simp; omega)⟩
                      · have f1 : decide ((e : Int) < (zn : Int)) = false := by simp; omega
                        have f2 : decide (e < zn) = false := by simp; omega
                        have hsd : sdB N true (p + k) = false := by unfold sdB; rw [HE.out, HZN.out, f2]; rfl
                        by_cases gy : 0 < y
                        · have f3 : decide ((0 : Int) < (y : Int)) = true := by simp; omega
                          have f4 : decide (0 < y) = true := by simp; omega
                          go_wp2_with (fail)
                          go_roundg (M - k)
                          case measure => omega
                          case rel => exact ⟨d, k + 1, true, by simp, by simp, by simp, by omega, by omega, HBW, Lib.hid (fun _ => HF.out.other_ y p M HI.out ⟨k, hlt2, hsd⟩ (.inl gy)), Lib.hid (by rw [szS_snoc, hsd]; have := HD.out; simp; omega)⟩
                        · have f3 : decide ((0 : Int) < (y : Int)) = false := by simp; omega
                          have f4 : decide (0 < y) = false := by simp; omega
                          by_cases gn : (p : Int) = near
                          · subst gn
                            go_wp2_with (fail)
                            go_roundg (M - k)
                            case measure => omega
                            case rel => exact ⟨d, k + 1, q2, by simp, by simp, by simp, by omega, by omega, HBW, Lib.hid (by first | exact HQ.out | exact fun _ => HQ.out trivial | simp), Lib.hid (by rw [szS_snoc, hsd]; have := HD.out; simp; omega)⟩
                          · have f5 : decide ((p : Int) = near) = false := by simp; omega
                            go_wp2_with (fail)
                            go_roundg (M - k)
                            case measure => omega
                            case rel => exact ⟨d, k + 1, true, by simp, by simp, by simp, by omega, by omega, HBW, Lib.hid (fun _ => HF.out.other_ y p M HI.out ⟨k, hlt2, hsd⟩ (.inr gn)), Lib.hid (by rw [szS_snoc, hsd]; have := HD.out; simp; omega)⟩
                    | false =>
                      by_cases ge : e < zn
                      · have f1 : decide ((e : Int) < (zn : Int)) = true := by simp; omega
                        have f2 : decide (e < zn) = true := by simp; omega
                        have hsd : sdB N false (p + k) = false := by unfold sdB; rw [HE.out, HZN.out, f2]; rfl
                        by_cases gy : 0 < y
                        · have f3 : decide ((0 : Int) < (y : Int)) = true := by simp; omega
                          have f4 : decide (0 < y) = true := by simp; omega
                          go_wp2_with (fail)
                          go_roundg (M - k)
                          case measure => omega
                          case rel => exact ⟨d, k + 1, true, by simp, by simp, by simp, by omega, by omega, HBW, Lib.hid (fun _ => HF.out.other_ y p M HI.out ⟨k, hlt2, hsd⟩ (.inl gy)), Lib.hid (by rw [szS_snoc, hsd]; have := HD.out; simp; omega)⟩
                        · have f3 : decide ((0 : Int) < (y : Int)) = false := by simp; omega
                          have f4 : decide (0 < y) = false := by simp; omega
                          by_cases gn : (p : Int) = near
                          · subst gn
                            go_wp2_with (fail)
                            go_roundg (M - k)
                            case measure => omega
                            case rel => exact ⟨d, k + 1, q2, by simp, by simp, by simp, by omega, by omega, HBW, Lib.hid (by first | exact HQ.out | exact fun _ => HQ.out trivial | simp), Lib.hid (by rw [szS_snoc, hsd]; have := HD.out; simp; omega)⟩
                          · have f5 : decide ((p : Int) = near) = false := by simp; omega
                            go_wp2_with (fail)
                            go_roundg (M - k)
                            case measure => omega
                            case rel => exact ⟨d, k + 1, true, by simp, by simp, by simp, by omega, by omega, HBW, Lib.hid (fun _ => HF.out.other_ y p M HI.out ⟨k, hlt2, hsd⟩ (.inr gn)), Lib.hid (by rw [szS_snoc, hsd]; have := HD.out; simp; omega)⟩
                      · have f1 : decide ((e : Int) < (zn : Int)) = false := by simp; omega
                        have f2 : decide (e < zn) = false := by simp; omega
                        have hsd : sdB N false (p + k) = true := by unfold sdB; rw [HE.out, HZN.out, f2]; rfl
                        go_wp2_with (fail)
                        go_roundg (M - k)
                        case measure => omega
                        case rel => exact ⟨d + 1, k + 1, q2, by simp, by simp, by simp, by omega, by omega, HBW, Lib.hid (by first | exact HQ.out | exact fun _ => HQ.out trivial | simp), Lib.hid (by rw [szS_snoc, hsd]; have := HD.out; simp; omega)⟩
                  · have hke : k = M := by omega
                    have hlti2 : ¬ (k : Int) < (M : Int) := by omega
                    have HC3 : Hid (d + cov (sdB N zone) (l.drop (y + 1)) + cntF (sdB N zone) us' 0 = t) := Lib.hid (by have h1 := HCV2.out; have h2 := HD.out; rw [hke] at h2; omega)
                    clear hke
                    go_wp2_with (fail)
                    go_roundg (kl - y)
                    case measure => omega
                    case rel => exact ⟨d, q2, y + 1, by simp, by simp, by simp, by omega, by omega, HBW, HQ, HC3⟩
              · have hye : y = kl := by omega
                subst hye
                have hlti : ¬ (y : Int) < (y : Int) := by omega
                have hcT : c + cntF (sdB N zone) us' 0 = t := by
                  have := HCV.out
                  rw [show l.drop y = [] by rw [← HKL.out]; exact List.drop_length .., show cov (sdB N zone) [] = 0 from rfl] at this
                  exact this
                have HCT := Lib.hid hcT
                have HB8 := Lib.hid (Ytibohhiebejbmaa.below_then HB6.out HB6.out.size HBW.out)
                clear HCV hcT hlt
                go_wp2_with (fail)
                refine (sanity_any _).mono ?_
                rintro e w9 ⟨rfl, hB⟩
                have HB9 := Lib.hid (Ytibohhiebejbmaa.below_then HB8.out HB8.out.size hB)
                clear hB
                cases o with
                | true =>
                  have hk1 : y = 1 := HON.out (by first | rfl | trivial)
                  have f1 : decide ((y : Int) = 1) = true := by simp; omega
                  have f1' : decide (y = 1) = true := by simp; omega
                  cases q with
                  | true =>
                    have hct : c = t := by have h1 := HCT.out; have h2 := HQ.out (by first | rfl | trivial); omega
                    have f2 : decide ((c : Int) = (t : Int)) = true := by simp; omega
                    have f2' : decide (c = t) = true := by simp; omega
                    go_wp2_with (fail)
                    go_ret
                    exact ⟨by simp, HB9.out⟩
                  | false =>
                    go_wp2_with (fail)
                    go_ret
                    exact ⟨by simp, HB9.out⟩
                | false =>
                  cases q with
                  | true =>
                    have hct : c = t := by have h1 := HCT.out; have h2 := HQ.out (by first | rfl | trivial); omega
                    have f2 : decide ((c : Int) = (t : Int)) = true := by simp; omega
                    have f2' : decide (c = t) = true := by simp; omega
                    go_wp2_with (fail)
                    go_ret
                    exact ⟨by simp, HB9.out⟩
                  | false =>
                    go_wp2_with (fail)
                    go_ret
                    exact ⟨by simp, HB9.out⟩
end Go.Proofs.Ytibohhiebejbmaa
/- AllocFits: for all arguments the law returns true and leaves its arguments as they were. Conditions: none beyond the row. -/
namespace Go.Proofs.Ytibohhiebejbmaa
open Go.ChangeShapes Go.WideShapes Go.ChangeAt Go.RowKit Go.Deep
set_option linter.unusedVariables false

set_option maxRecDepth 100000 in
theorem allocFits_lifted (os : Os) (started : os.Started) (H : Type) (enc : TypeId × Value → H) :
    ReturnsInHanded {} Try.checked os 7 .any (Rows.allocFitsSpec.pre6 enc Try.prog Try.f7 Rows.allocFitsRow.domain false) (Rows.allocFitsSpec.post enc Try.prog Try.f7 false true false false) := by
  refine returnsInHanded_of_change (C := Try.checked) Try.own started (by kernel_rfl) Try.func7
    (ChangeSpec.witness6 (enc := enc) (C := Try.checked) false ⟨#[], #[.int .i64 0, .slice none 0 0, .int .i64 0, .int .i64 0, .bool false], []⟩ 8 (by kernel_rfl) (by kernel_rfl) (by kernel_rfl) (by kernel_rfl)) ?_
  intro W base args ds gs before hval0 hW hcnd _
  have hval : ∀ (j : Nat) t v, Try.f7.params[j]? = some t → args[j]? = some v → Value.okWide Try.prog W .any base t v := hval0
  have hW' := hW
  obtain ⟨p, q, hA0, hV, rfl, hfz, hnd⟩ := hW
  have hA : DataW.TrodAll enc Try.prog W 0 (fun _ => true) true Try.f7.params.toList args.toList ds p := hA0
  rw [Try.params7] at hA hval
  obtain ⟨v0, v1, v2, v3, v4, d0, d1, d2, d3, d4, p0, p1, p2, p3, p4, rfl, rfl, rfl, h0, h1, h2, h3, h4⟩ := trodAll_five hA
  obtain ⟨rfl, rfl⟩ := trodVars_none hV
  obtain ⟨a0, rfl, rfl, rfl, wa0⟩ := open_int Try.underlying3 (hval 0 3 v0 rfl rfl) h0
  obtain ⟨A1, c1, b1, rfl, hc1, hm1, hR1⟩ := open_acts (hval 1 23 v1 rfl rfl) h1
  obtain ⟨a2, rfl, rfl, rfl, wa2⟩ := open_int Try.underlying3 (hval 2 3 v2 rfl rfl) h2
  obtain ⟨a3, rfl, rfl, rfl, wa3⟩ := open_int Try.underlying3 (hval 3 3 v3 rfl rfl) h3
  obtain ⟨a4, rfl, rfl, rfl⟩ := open_bool (hval 4 4 v4 rfl rfl) h4
  clear hA0 hval0
  simp only [List.append_nil] at hW'
  have hlt1 : ∀ x ∈ p1, x.block < W.heap.size := fun x hx => by simpa using hW'.lt x (by simp [hx])
  refine (law_AllocFits a0 A1 c1 b1 a2 a3 a4 W hR1 hc1 (Nat.le_trans hm1 (by decide))).mono fun e W' ⟨he, hw⟩ => ?_
  subst he
  exact ⟨_, rfl, ⟨_, _, _, [], _, [], hW', trodAll_mk1 (shut_bool true), trodAll_mk5 (shut_int Try.underlying3 wa0) (Below.trod Try.laidOut (by kernel_rfl) (of_decide_eq_true (by kernel_rfl)) h1 hw hlt1) (shut_int Try.underlying3 wa2) (shut_int Try.underlying3 wa3) (shut_bool a4), rfl, hw.frame _, fun h => by cases h⟩⟩

theorem allocFits_holds : Rows.AllocFitsSaid :=
  OpenClaim.holds_of_wide 7 Try.f7 rfl rfl rfl rfl rfl rfl rfl ⟨rfl, rfl, rfl, rfl, rfl⟩ rfl rfl rfl rfl rfl (by kernel_rfl) Try.func7 (by kernel_rfl)
    (of_decide_eq_true (by kernel_rfl)) (by unfold Func.isWrapper; rw [if_neg (by decide +kernel)]; exact ⟨rfl, rfl⟩)
    (fun os started H enc _ => allocFits_lifted os started H enc)
#print axioms allocFits_holds
end Go.Proofs.Ytibohhiebejbmaa
