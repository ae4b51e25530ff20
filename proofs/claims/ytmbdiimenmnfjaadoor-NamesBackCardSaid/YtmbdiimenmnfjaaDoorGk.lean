/- Walk: surrogate; SameUnits of equal lists; an argument that is a slice of units. -/
import Derived.Test.YtmbdiimenmnfjaaDoorRb
import Derived.Test.YtmbdiimenmnfjaaDoorGi
import Derived.Test.YtmbdiimenmnfjaaDoorPNamesNamesx42
namespace Go.Proofs.YtmbdiimenmnfjaaDoor
open Go.RowKit Go.Deep Go.ChangeShapes Go.WideShapes Go.ChangeAt
open Go.Proofs.YtmbdiimenmnfjaaDoor.PNamesNames
set_option linter.unusedVariables false
set_option linter.unusedSimpArgs false
set_option maxRecDepth 100000

section
variable {H : Type} {enc : TypeId × Value → H}
/-- A slice of units that came in. -/
theorem open_units {W : World} {base : Nat} {v1 : Value} {d1 : DataW H} {p1 : List MemPlace} (hval : Value.okWide Tryd.prog W .any base 49 v1) (h1 : DataW.Trod enc Tryd.prog W 0 (fun _ => true) true 49 v1 d1 p1) :
    ∃ A c b, v1 = .slice A b.length c ∧ b.length ≤ c ∧ b.length ≤ maxLen ∧ Rd W .u16 A b.length b ∧ U16 b ∧ (A = none → c = 0) := by
  obtain ⟨a1, len, cap, rfl⟩ := okWide_slice Tryd.underlying49 hval
  obtain ⟨fuel, hf⟩ := h1
  rcases open_ints Tryd.underlying49 Tryd.underlying46 Tryd.cells46 hf with ⟨hcs, hx⟩ | ⟨a, len', cap', zs, hcs, _, hl, hm, hz, hx, hcell, hwz⟩
  · simp [Value.cells] at hcs
    obtain ⟨rfl, rfl, rfl⟩ := hcs
    exact ⟨none, 0, [], rfl, by simp, by simp, ⟨rfl, by simp, fun j hj => absurd hj (Nat.not_lt_zero _)⟩, (fun x hx => by cases hx), fun _ => rfl⟩
  · simp [Value.cells] at hcs
    obtain ⟨rfl, rfl, rfl⟩ := hcs
    simp only [if_true] at hz
    have hlen : (zs.take len).length = len := by simp; omega
    have hget : ∀ j, j < len → (zs.take len).getD j 0 = zs.getD j 0 := fun j hj => by
      simp [List.getD_eq_getElem?_getD, hj]
    refine ⟨some a, cap, zs.take len, by rw [hlen], by rw [hlen]; exact hl, by rw [hlen]; omega, ⟨rfl, by rw [hlen]; simp only [maxLen] at hm; omega, fun j hj => ⟨a, rfl, ?_⟩⟩, fun x hx => ?_, fun e => by cases e⟩
    · rw [hlen] at hj
      rw [hget j hj]
      exact hcell j (by omega)
    · have := hwz x (List.mem_of_mem_take hx)
      simp only [Lit.wf, Bool.and_eq_true, decide_eq_true_eq] at this
      exact ⟨this.1, this.2⟩
end

theorem order_K (x : List Int) (hx : x.length ≤ 1000000) : archivoltref05_SameUnits.f (2 * x.length + 3) x x = some true := by
  unfold archivoltref05_SameUnits.f archivoltref05_order.f
  have h := order_l x x hx (2 * x.length + 3) 0 (by omega) (by omega) (by omega)
  have h' : archivoltref05_order.l0 (2 * x.length + 3) x x 0 = some (cmpU x x) := h
  rw [h', cmpU_self]
  rfl
theorem sameu_any (A0 A1 : Option Addr) (c0 c1 : Nat) (x : List Int) (w : World) (h0 : Rd w .u16 A0 x.length x) (h1 : Rd w .u16 A1 x.length x) (k0 : x.length ≤ c0) (k1 : x.length ≤ c1) (hl : x.length ≤ 1000000) :
    Calls Tryd.prog 35 #[.slice A0 x.length c0, .slice A1 x.length c1] w fun e w' => e = .returned (.bool true) ∧ Drawn w w' :=
  (archivoltref05_SameUnits.calls (2 * x.length + 3) A0 c0 x A1 c1 x true w (rdC h0) k0 (rdC h1) k1 (order_K x hl)).mono fun e w' h => ⟨h.1, drawn0 h.2⟩

/-- Is a unit a surrogate: 1 a high one, 2 a low one? -/
def surM (l : List Int) (i : Int) : Int := if i < 0 ∨ (l.length : Int) ≤ i then 0 else if l.getD i.toNat 0 < 55296 ∨ 57343 < l.getD i.toNat 0 then 0 else if l.getD i.toNat 0 < 56320 then 1 else 2
set_option maxHeartbeats 4000000 in
theorem sur_any (A : Option Addr) (c : Nat) (l : List Int) (hc : l.length ≤ c) (hl : l.length ≤ 1000000) (i : Int) (hi : -1 ≤ i) (hi2 : i ≤ 1000000) (w : World) (hR : Rd w .u16 A l.length l) :
    Calls Tryd.prog 40 #[.slice A l.length c, .int .i64 i] w fun e w' => e = .returned (.int .i64 (surM l i)) ∧ w' = w := by
  by_cases h1 : i < 0
  · have e : surM l i = 0 := by unfold surM; rw [if_pos (Or.inl h1)]
    rw [e]
    go_enter Tryd.func40, Tryd.ntmps40
    go_wp2
    go_ret
    exact ⟨rfl, rfl⟩
  · by_cases h2 : (l.length : Int) ≤ i
    · have e : surM l i = 0 := by unfold surM; rw [if_pos (Or.inr h2)]
      rw [e]
      go_enter Tryd.func40, Tryd.ntmps40
      go_wp2
      go_ret
      exact ⟨rfl, rfl⟩
    · obtain ⟨j, rfl⟩ : ∃ j : Nat, i = j := ⟨i.toNat, by omega⟩
      have hj : j < l.length := by omega
      obtain ⟨ad, hA, hcl⟩ := hR.at_ j hj
      subst hA
      obtain ⟨x, hx⟩ : ∃ x, l.getD j 0 = x := ⟨_, rfl⟩
      rw [hx] at hcl
      have e : surM l (j : Int) = if x < 55296 ∨ 57343 < x then 0 else if x < 56320 then 1 else 2 := by
        unfold surM
        rw [if_neg (by omega), Int.toNat_natCast, hx]
      rw [e]
      have h2' : ¬ (l.length : Int) ≤ j := h2
      have hlt : (j : Int) < l.length := by omega
      clear hR hx e
      by_cases q1 : x < 55296
      · rw [if_pos (Or.inl q1)]
        go_enter Tryd.func40, Tryd.ntmps40
        go_wp2
        go_ret
        exact ⟨rfl, rfl⟩
      · by_cases q2 : 57343 < x
        · rw [if_pos (Or.inr q2)]
          go_enter Tryd.func40, Tryd.ntmps40
          go_wp2
          go_ret
          exact ⟨rfl, rfl⟩
        · rw [if_neg (by omega)]
          by_cases q3 : x < 56320
          · rw [if_pos q3]
            go_enter Tryd.func40, Tryd.ntmps40
            go_wp2
            go_ret
            exact ⟨rfl, rfl⟩
          · rw [if_neg q3]
            go_enter Tryd.func40, Tryd.ntmps40
            go_wp2
            go_ret
            exact ⟨rfl, rfl⟩
theorem mkB_append (x y : List Int) (hx : ∀ b ∈ x, 0 ≤ b ∧ b ≤ 255) (hy : ∀ b ∈ y, 0 ≤ b ∧ b ≤ 255) : mkB (x ++ y) = mkB x ++ mkB y := by
  apply bts_inj
  rw [bts_append, bts_mkB _ hx, bts_mkB _ hy, bts_mkB]
  intro b hb
  rcases List.mem_append.1 hb with h | h
  · exact hx b h
  · exact hy b h
/-- Lists one behind the other, unless a pair of surrogates meets. -/
theorem text_two {l m : List Int} (hl : U16 l) (hm : U16 m) (h : ¬ (surM l ((l.length : Int) - 1) = 1 ∧ surM m 0 = 2)) : mkB (textM (l ++ m)) = mkB (textM l) ++ mkB (textM m) := by
  rw [textM_append l m, mkB_append _ _ (textM_bytes l hl) (textM_bytes m hm)]
  intro c d hc hd hp
  apply h
  unfold pairU at hp
  cases m with
  | nil => cases hd
  | cons d' m =>
    simp only [List.head?_cons, Option.some.injEq] at hd
    subst hd
    have hne : l ≠ [] := by rintro rfl; cases hc
    have hll : 1 ≤ l.length := by cases l with | nil => exact absurd rfl hne | cons _ _ => simp
    have hcl : l.getD (l.length - 1) 0 = c := by
      rw [List.getLast?_eq_getElem?] at hc
      rw [List.getD_eq_getElem?_getD, hc]; rfl
    have e1 : ((l.length : Int) - 1).toNat = l.length - 1 := by omega
    constructor
    · unfold surM
      rw [if_neg (by omega), e1, hcl, if_neg (by omega), if_pos (by omega)]
    · unfold surM
      simp only [List.length_cons, Int.toNat_zero, List.getD_cons_zero]
      rw [if_neg (by omega), if_neg (by omega), if_neg (by omega)]
end Go.Proofs.YtmbdiimenmnfjaaDoor
