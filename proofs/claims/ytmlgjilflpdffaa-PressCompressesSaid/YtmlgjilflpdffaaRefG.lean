/- Walk: the document's costs. -/
import Derived.Test.YtmlgjilflpdffaaRefF
import Derived.Laws.OwnMore
namespace Go.Proofs.Ytmlgjilflpdffaa
open Go.RowKit Go.Deep
set_option linter.unusedVariables false
set_option linter.unusedSimpArgs false

def numsI (xs : List Int) : List Value := xs.map fun x => .int .i64 x
theorem info3 : (Try.prog.info? 3).map (fun i => (i.zero, i.size, i.bytes)) = some (some (.int .i64 0), 1, 8) := by kernel_rfl
/-- An owned row of whole numbers is read. -/
theorem own_ints {w : World} {base n : Nat} {v : Value} {xs : List Int} (h : w.ownsRow base 3 1 v n (numsI xs)) (hm : n ≤ 9223372036854775807) :
    ∃ A c, v = .slice A n c ∧ n ≤ c ∧ Rd w .i64 A n xs ∧ ∀ ad, A = some ad → ad.off = 0 ∧ base ≤ ad.block ∧ ad.spot = none := by
  have hl : xs.length = n := by have := h.1; simpa [numsI] using this
  have h0 := h
  obtain ⟨h1, ⟨rfl, rfl⟩ | ⟨g, cap, cur, rfl, hg, hh, hle, r⟩⟩ := h
  · exact ⟨none, 0, rfl, Nat.le_refl _, ⟨hl, hm, fun j hj => by omega⟩, fun ad e => by cases e⟩
  · refine ⟨some ⟨g, 0, none⟩, cap, rfl, hle, ⟨hl, hm, fun j hj => ⟨_, rfl, ?_⟩⟩, fun ad e => by cases e; exact ⟨rfl, hg, rfl⟩⟩
    have hc := h0.cells (g := g) rfl j (.int .i64 (xs.getD j 0)) (by
      simp only [numsI, List.getElem?_map]
      rw [List.getElem?_eq_getElem (by omega)]
      simp [List.getD_eq_getElem?_getD, List.getElem?_eq_getElem (show j < xs.length by omega)])
    exact hc
theorem ints_at {w : World} {base n g c : Nat} {xs : List Int} (h : w.ownsRow base 3 1 (.slice (some ⟨g, 0, none⟩) n c) n (numsI xs)) (j : Nat) (hj : j < n) : w.cell? ⟨g, j, none⟩ = some (.int .i64 (xs.getD j 0)) := by
  have hl : xs.length = n := by have := h.1; simpa [numsI] using this
  have hc := h.cells (g := g) rfl j (.int .i64 (xs.getD j 0)) (by
    simp only [numsI, List.getElem?_map]
    rw [List.getElem?_eq_getElem (by omega)]
    simp [List.getD_eq_getElem?_getD, List.getElem?_eq_getElem (show j < xs.length by omega)])
  rwa [Addr.add_lit, Nat.zero_add] at hc
theorem numsI_set (xs : List Int) (j : Nat) (v : Int) : (numsI xs).set j (.int .i64 v) = numsI (xs.set j v) := by simp [numsI, List.map_set]
theorem numsI_zero (n : Nat) : List.replicate n (Value.int .i64 0) = numsI (List.replicate n 0) := by simp [numsI]
theorem own_far2 {w : World} {base : Nat} {e : TypeId} {size n : Nat} {v u : Value} {xs : List Value} {p : Addr} (h : w.ownsRow base e size v n xs) (hp : ∀ k, v.ownBlock = some k → k ≠ p.block) : (w.setCell p u).ownsRow base e size v n xs := by
  obtain ⟨h1, h2 | ⟨g, cap, cur, rfl, hg, hh, r⟩⟩ := h
  · exact ⟨h1, .inl h2⟩
  · exact ⟨h1, .inr ⟨g, cap, cur, rfl, hg, (Below.heap_setCell w p u g (hp g rfl)).trans hh, r⟩⟩
theorem far_of {g1 g2 n c o : Nat} (h : ¬ g1 = g2) : ∀ k, (Value.slice (some ⟨g1, 0, none⟩) n c).ownBlock = some k → k ≠ (⟨g2, o, none⟩ : Addr).block := by
  intro k hk
  have : g1 = k := by simpa [Value.ownBlock] using hk
  subst this
  exact h
theorem own_keepD {w W w1 : World} {base : Nat} {e : TypeId} {size n : Nat} {v : Value} {xs : List Value} (h : w.ownsRow base e size v n xs) (hD : Drawn w W) (hb : Below W.heap.size W w1) : w1.ownsRow base e size v n xs := by
  obtain ⟨m, rfl⟩ := hD.out
  exact own_keep (w := w.drewN m) h hb
theorem below_thenD {B : Nat} {w w0 W w1 : World} (h : Below B w w0) (hB : B ≤ w0.heap.size) (hD : Drawn w0 W) (hb : Below W.heap.size W w1) : Below B w w1 := by
  obtain ⟨m, rfl⟩ := hD.out
  exact below_then (below_drewN h m) hB hb

def mostS (b : List Int) : Nat → List Int
  | 0 => [0]
  | k + 1 => ((longestM b (b.length - (k + 1))).2 : Int) :: mostS b k
def mostM (b : List Int) : List Int := mostS b b.length
theorem mostS_len (b : List Int) : ∀ k, (mostS b k).length = k + 1
  | 0 => rfl
  | k + 1 => by simp [mostS, mostS_len b k]
theorem mostS_at (b : List Int) (k j : Nat) : ∀ d, (mostS b (k + d)).getD (d + j) 0 = (mostS b k).getD j 0
  | 0 => by simp
  | d + 1 => by
    rw [show k + (d + 1) = (k + d) + 1 from by omega, show d + 1 + j = (d + j) + 1 from by omega]
    simp only [mostS, List.getD_cons_succ]
    exact mostS_at b k j d
theorem mostM_get (b : List Int) (p : Nat) (hp : p < b.length) : (mostM b).getD p 0 = ((longestM b p).2 : Int) := by
  unfold mostM
  obtain ⟨k, hk⟩ : ∃ k, b.length = (k + 1) + p := ⟨b.length - p - 1, by omega⟩
  have h := mostS_at b (k + 1) 0 p
  rw [← hk] at h
  rw [show p + 0 = p from rfl] at h
  rw [h]
  simp only [mostS, List.getD_cons_zero]
  rw [show b.length - (k + 1) = p from by omega]

theorem below_st' {B : Nat} {w W : World} {p : Addr} {v : Value} (h : Below B w W) (hp : B ≤ p.block) : Below B w (W.setCell p v) := h.setCell hp v
theorem rep_set (S : List Int) (v : Int) : ∀ p : Nat, (List.replicate (p + 1) 0 ++ S).set p v = List.replicate p 0 ++ v :: S
  | 0 => by simp
  | p + 1 => by
    rw [List.replicate_succ, List.cons_append, List.set_cons_succ, rep_set S v p]
    rfl
theorem rep_set2 (S : List Int) (a v : Int) : ∀ p : Nat, (List.replicate p 0 ++ a :: S).set p v = List.replicate p 0 ++ v :: S
  | 0 => by simp
  | p + 1 => by
    rw [List.replicate_succ, List.cons_append, List.set_cons_succ, rep_set2 S a v p]
    rfl
theorem rep_get (S : List Int) (j : Nat) : ∀ p : Nat, (List.replicate p (0 : Int) ++ S).getD (p + j) 0 = S.getD j 0
  | 0 => by simp
  | p + 1 => by
    rw [List.replicate_succ, List.cons_append, show p + 1 + j = (p + j) + 1 from by omega, List.getD_cons_succ, rep_get S j p]

set_option maxRecDepth 100000 in
set_option maxHeartbeats 8000000 in
theorem RCosts_any (A : Option Addr) (c : Nat) (b : List Int) (hb : b.length ≤ 3744) (w : World) (hR : Rd w .u8 A b.length b) :
    Calls Try.prog 45 #[.slice A b.length c] w fun e w' => ∃ g1 g2, e = .returned (.tuple #[.slice (some ⟨g1, 0, none⟩) (b.length + 1) (b.length + 1), .slice (some ⟨g2, 0, none⟩) (b.length + 1) (b.length + 1)]) ∧
      w'.ownsRow w.heap.size 3 1 (.slice (some ⟨g1, 0, none⟩) (b.length + 1) (b.length + 1)) (b.length + 1) (numsI (costM b)) ∧ w'.ownsRow w.heap.size 3 1 (.slice (some ⟨g2, 0, none⟩) (b.length + 1) (b.length + 1)) (b.length + 1) (numsI (mostM b)) ∧ Below w.heap.size w w' := by
  obtain ⟨i3, h3i, h3z, h31, h3b⟩ := info_parts info3
  have HR := Lib.hid hR
  clear hR
  have hN : (b.length : Int) + 1 = ((b.length + 1 : Nat) : Int) := by omega
  obtain ⟨N, hNN⟩ : ∃ N, b.length + 1 = N := ⟨_, rfl⟩
  have HNN := Lib.hid hNN
  have hNb : N ≤ 3745 := by omega
  go_enter Try.func45, Try.ntmps45
  clear hN hNN
  go_wp2_with (first
    | ((have hgd := HO1); clear hgd; refine wpList_make_full _ rfl _ _ 63 rfl w.heap.size 3 i3 _ 1 Try.underlying63 h3i h3z h31 .i64 .i64 _ _ N rfl rfl (by have := HNN.out; omega) (by have := HNN.out; omega) (by rw [h3b]; omega) (by simp only [maxLen]; omega) (by have := HB1.out.size; omega) ?_; intro w2 hown2 hgrow2; (have HO2 := Lib.hid hown2); (have HO1' := Lib.hid (HO1.out.kept hgrow2 (by simp [Value.ownBlock]))); (have HB2 := Lib.hid (HB1.out.grown hgrow2 HB1.out.size (fun k e => by cases e))); clear hown2 hgrow2)
    | (refine wpList_make_full _ rfl _ _ 63 rfl w.heap.size 3 i3 _ 1 Try.underlying63 h3i h3z h31 .i64 .i64 _ _ N rfl rfl (by have := HNN.out; omega) (by have := HNN.out; omega) (by rw [h3b]; omega) (by simp only [maxLen]; omega) (Nat.le_refl _) ?_; intro w1 hown1 hgrow1; (have HO1 := Lib.hid hown1); (have HB1 := Lib.hid ((Below.refl w.heap.size w).grown hgrow1 (Nat.le_refl _) (fun k e => by cases e))); (have HS1 := Lib.hid hgrow1.size); clear hown1 hgrow1))
  obtain ⟨g1, hg1⟩ : ∃ g1, w.heap.size = g1 := ⟨_, rfl⟩
  obtain ⟨g2, hg2⟩ : ∃ g2, w1.heap.size = g2 := ⟨_, rfl⟩
  have emk : (madeCells (Value.int .i64 0).cells (N * 1)).toList = numsI (List.replicate b.length 0 ++ [0]) := by
    rw [Nat.mul_one, show (Value.int .i64 0).cells = #[.int .i64 0] from rfl, toList_madeCells_one, numsI_zero, ← HNN.out, List.replicate_succ']
  have h12 : ¬ g1 = g2 := by have h : w.heap.size < w1.heap.size := (HO1.out.lt w.heap.size rfl).2; omega
  have h21 : ¬ g2 = g1 := fun e => h12 e.symm
  have hb0 := HB2.out
  have ho1 := HO1'.out
  have ho2 := HO2.out
  rw [hg1, emk] at ho1
  rw [hg1, hg2, emk] at ho2
  rw [hg1] at hb0
  rw [hg1, hg2]
  have HA1 : Hid (w2.ownsRow g1 3 1 (.slice (some ⟨g1, 0, none⟩) N N) N (numsI (List.replicate b.length 0 ++ costS b 0))) := Lib.hid ho1
  have HA2 : Hid (w2.ownsRow g1 3 1 (.slice (some ⟨g2, 0, none⟩) N N) N (numsI (List.replicate b.length 0 ++ mostS b 0))) := Lib.hid ho2
  have HB := Lib.hid hb0
  have HG1 := Lib.hid hg1
  clear HO1 HB1 HS1 HO2 HO1' HB2 hg1 hg2 emk ho1 ho2 hb0
  go_loopg [6] b.length (fun kq v6 W => ∃ (p k : Nat), v6 = .int .i64 ((p : Int) - 1) ∧ kq = p ∧ k + p = b.length ∧ Hid (W.ownsRow g1 3 1 (.slice (some ⟨g1, 0, none⟩) N N) N (numsI (List.replicate p 0 ++ costS b k))) ∧
    Hid (W.ownsRow g1 3 1 (.slice (some ⟨g2, 0, none⟩) N N) N (numsI (List.replicate p 0 ++ mostS b k))) ∧ Hid (Below g1 w W))
  case atStart => exact ⟨b.length, 0, rfl, rfl, by omega, HA1, HA2, HB⟩
  case round =>
    clear HA1 HA2 HB
    obtain ⟨p, k, rfl, hkq, hkp, HA1, HA2, HB⟩ := hrel
    cases p with
    | zero =>
      have hkb : k = b.length := by omega
      subst hkb
      have HE1 : Hid (wr.ownsRow g1 3 1 (.slice (some ⟨g1, 0, none⟩) N N) N (numsI (costM b))) := HA1
      have HE2 : Hid (wr.ownsRow g1 3 1 (.slice (some ⟨g2, 0, none⟩) N N) N (numsI (mostM b))) := HA2
      go_wp2
      go_ret2
      rw [HNN.out, HG1.out]
      exact ⟨g1, g2, rfl, HE1.out, HE2.out, HB.out⟩
    | succ p =>
      have hbd := costS_bd b k
      have hcl := costS_len b k
      obtain ⟨S, hS⟩ : ∃ S, costS b k = S := ⟨_, rfl⟩
      rw [hS] at hbd hcl HA1
      have HBd := Lib.hid hbd
      have hb0 := hbd 0
      have hpN : p + 1 + (k + 1) = N := by have := HNN.out; omega
      have hc1 := ints_at HA1.out (p + 1) (by omega)
      have hc0 := ints_at HA1.out p (by omega)
      have hm0 := ints_at HA2.out p (by omega)
      have e1 : (List.replicate (p + 1) (0 : Int) ++ S).getD (p + 1) 0 = S.getD 0 0 := by have := rep_get S 0 (p + 1); simpa using this
      rw [e1] at hc1
      obtain ⟨s0, hs0⟩ : ∃ s0, S.getD 0 0 = s0 := ⟨_, rfl⟩
      rw [hs0] at hc1 hb0
      obtain ⟨z1, hz1⟩ : ∃ z1, (List.replicate (p + 1) (0 : Int) ++ S).getD p 0 = z1 := ⟨_, rfl⟩
      obtain ⟨z2, hz2⟩ : ∃ z2, (List.replicate (p + 1) (0 : Int) ++ mostS b k).getD p 0 = z2 := ⟨_, rfl⟩
      rw [hz1] at hc0
      rw [hz2] at hm0
      have hf1 := HA1.out.frozenAt
      have hf2 := HA2.out.frozenAt
      have hpi : (p : Int) < N := by omega
      have hpi1 : (p : Int) + 1 < N := by omega
      have HS := Lib.hid hS
      have HS0 := Lib.hid hs0
      obtain ⟨l1, l2, hl⟩ : ∃ l1 l2, longestM b p = (l1, l2) := ⟨_, _, rfl⟩
      have HL := Lib.hid hl
      have hlp := longest_props b p (by omega)
      rw [hl] at hlp
      have hl2 : p + l2 ≤ b.length := hlp.2.1
      clear hbd hS e1 hs0 hl hlp hz1 hz2
      have hst : ∀ nd, ∃ W2, (((wr.drewN nd).setCell ⟨g2, p, none⟩ (.int .i64 (l2 : Int))).setCell ⟨g1, p, none⟩ (.int .i64 (9 + s0))) = W2 ∧ W2.ownsRow g1 3 1 (.slice (some ⟨g1, 0, none⟩) N N) N (numsI (List.replicate p 0 ++ (9 + s0) :: S)) ∧
          W2.ownsRow g1 3 1 (.slice (some ⟨g2, 0, none⟩) N N) N (numsI (List.replicate p 0 ++ (l2 : Int) :: mostS b k)) ∧ Below g1 w W2 := fun nd => by
        refine ⟨_, rfl, ?_, ?_, ?_⟩
        · have h1 := (World.ownsRow.stored (w := (wr.drewN nd).setCell ⟨g2, p, none⟩ (.int .i64 (l2 : Int))) (own_far2 (w := wr.drewN nd) HA1.out (far_of h12)) p (.int .i64 (9 + s0))).1
          rw [numsI_set, rep_set] at h1
          exact h1
        · have h1 := (World.ownsRow.stored (w := wr.drewN nd) HA2.out p (.int .i64 (l2 : Int))).1
          rw [numsI_set, rep_set] at h1
          exact own_far2 h1 (far_of h21)
        · exact below_st' (below_st' (below_drewN HB.out nd) (by simp; have := (HA2.out.lt _ rfl).1; omega)) (Nat.le_refl _)
      have HST := Lib.hid hst
      clear hst
      go_wp2_with (go_at_call 17; refine (RLongest_ok A c b p (by omega) hb _ (HR.out.below (by rw [HG1.out]; exact HB.out))).mono ?_; rintro e w1 ⟨rfl, ⟨nd, rfl⟩⟩; rw [HL.out])
      obtain ⟨W2, hW2, ho1, ho2, hb2⟩ := HST.out nd
      rw [hW2]
      have HA1 := Lib.hid ho1
      have HA2 := Lib.hid ho2
      have HB := Lib.hid hb2
      clear hW2 ho1 ho2 hb2 hc1 hc0 hm0 hf1 hf2 HST
      go_loopg [10] (l2 + 1) (fun kq v10 W => ∃ (i : Nat), v10 = .int .i64 (3 + (i : Int)) ∧ i ≤ l2 - 2 ∧ kq = l2 + 1 - i ∧ Hid (W.ownsRow g1 3 1 (.slice (some ⟨g1, 0, none⟩) N N) N (numsI (List.replicate p 0 ++ minF S i (9 + s0) :: S))) ∧
        Hid (W.ownsRow g1 3 1 (.slice (some ⟨g2, 0, none⟩) N N) N (numsI (List.replicate p 0 ++ (l2 : Int) :: mostS b k))) ∧ Hid (Below g1 w W))
      case atStart => exact ⟨0, rfl, by omega, rfl, HA1, HA2, HB⟩
      case round =>
        clear HA1 HA2 HB
        obtain ⟨i, rfl, hi, hkq2, HA1, HA2, HB⟩ := hrel
        by_cases hlt : 3 + i ≤ l2
        · have hlti : (3 : Int) + i ≤ l2 := by omega
          have hc0 := ints_at HA1.out p (by omega)
          have hc1 := ints_at HA1.out (p + (3 + i)) (by omega)
          have hf1 := HA1.out.frozenAt
          have hm := minF_bd S (fun j => (HBd.out j).1) i (9 + s0) (by omega)
          have hb1 := HBd.out (i + 2)
          have e0 : (List.replicate p (0 : Int) ++ minF S i (9 + s0) :: S).getD p 0 = minF S i (9 + s0) := by simp
          have e1 : (List.replicate p (0 : Int) ++ minF S i (9 + s0) :: S).getD (p + (3 + i)) 0 = S.getD (i + 2) 0 := by
            rw [rep_get, show 3 + i = (i + 2) + 1 from by omega, List.getD_cons_succ]
          rw [e0] at hc0
          rw [e1] at hc1
          obtain ⟨a0, ha0⟩ : ∃ a0, minF S i (9 + s0) = a0 := ⟨_, rfl⟩
          obtain ⟨a1, ha1⟩ : ∃ a1, S.getD (i + 2) 0 = a1 := ⟨_, rfl⟩
          rw [ha0] at hc0 hm HA1
          rw [ha1] at hc1 hb1
          have HNX : Hid (minF S (i + 1) (9 + s0) = min a0 (17 + a1)) := Lib.hid (by unfold minF; rw [ha0, ha1, Int.add_comm a1])
          have hpn : (p : Int) + (3 + (i : Int)) < N := by omega
          have hpi : (p : Int) < N := by omega
          have hst : ∀ W2, (wr.setCell ⟨g1, p, none⟩ (.int .i64 (if 17 + a1 < a0 then 17 + a1 else a0))).drew = W2 → W2.ownsRow g1 3 1 (.slice (some ⟨g1, 0, none⟩) N N) N (numsI (List.replicate p 0 ++ minF S (i + 1) (9 + s0) :: S)) ∧
              W2.ownsRow g1 3 1 (.slice (some ⟨g2, 0, none⟩) N N) N (numsI (List.replicate p 0 ++ (l2 : Int) :: mostS b k)) ∧ Below g1 w W2 := by
            rintro W2 rfl
            refine ⟨?_, own_far2 (w := wr) HA2.out (far_of h21), below_drew1 (below_st' HB.out (Nat.le_refl _))⟩
            have h1 := (World.ownsRow.stored (w := wr) HA1.out p (.int .i64 (if 17 + a1 < a0 then 17 + a1 else a0))).1
            rw [numsI_set, rep_set2] at h1
            have e : (if 17 + a1 < a0 then 17 + a1 else a0) = min a0 (17 + a1) := by
              split <;> omega
            rw [HNX.out, ← e]
            exact h1
          have HST := Lib.hid hst
          clear e0 e1 ha0 ha1 hst
          go_wp2
          go_region
          obtain ⟨W2, hW2⟩ : ∃ W2, (wr.setCell ⟨g1, p, none⟩ (.int .i64 (if 17 + a1 < a0 then 17 + a1 else a0))).drew = W2 := ⟨_, rfl⟩
          have hA2 := HST.out W2 hW2
          rw [hW2]
          have HA1 := Lib.hid hA2.1
          have HA2 := Lib.hid hA2.2.1
          have HB := Lib.hid hA2.2.2
          clear hW2 hA2 hc0 hc1 hf1 HST
          go_wp2
          all_goals go_roundg (l2 + 1 - (i + 1))
          all_goals first | (exact ⟨i + 1, by go_num, by omega, rfl, HA1, HA2, HB⟩) | omega
        · have hlti : ¬ (3 : Int) + i ≤ l2 := by omega
          have hi2 : i = l2 - 2 := by omega
          have HC : Hid (costS b (k + 1) = minF S i (9 + s0) :: S) := Lib.hid (by
            simp only [costS]
            rw [HS.out, HS0.out, show b.length - (k + 1) = p from by omega, HL.out, hi2, Int.add_comm s0])
          have HC2 : Hid (mostS b (k + 1) = (l2 : Int) :: mostS b k) := Lib.hid (by
            simp only [mostS]
            rw [show b.length - (k + 1) = p from by omega, HL.out])
          clear hi2
          go_wp2
          go_roundg p
          case measure => omega
          case rel => exact ⟨p, k + 1, by go_num, rfl, by omega, by rw [HC.out]; exact HA1, by rw [HC2.out]; exact HA2, HB⟩
end Go.Proofs.Ytmlgjilflpdffaa
