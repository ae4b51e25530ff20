/- The upper case: plain facts. -/
import Derived.Test.YtmbdiimenmnfjaaDoorGa
import Derived.Test.YtmbdiimenmnfjaaDoorGd
namespace Go.Proofs.YtmbdiimenmnfjaaDoor
open Go.RowKit
set_option linter.unusedVariables false
set_option maxRecDepth 100000

theorem upL_big (u : Int) (h : 1153 < u) : ∀ l, (∀ r ∈ l, r ∈ rowsL) → upL u l = u
  | [], _ => rfl
  | r :: rs, hr => by
    simp only [upL]
    rw [if_neg, upL_big u h rs fun x hx => hr x (List.mem_cons_of_mem _ hx)]
    intro hh
    have hm := hr r (List.mem_cons_self ..)
    simp only [rowsL, List.mem_cons, List.not_mem_nil, or_false] at hm
    unfold hitR at hh
    rcases hm with rfl | rfl | rfl | rfl | rfl | rfl | rfl | rfl | rfl | rfl | rfl | rfl | rfl <;> simp only at hh <;> omega
theorem upM_big (u : Int) (h : 1153 < u) : upM u = u := upL_big u h rowsL fun r hr => hr
theorem up_small : ∀ n : Nat, n < 1154 → upM (upM (n : Int)) = upM (n : Int) := by decide +kernel
theorem upM_idem (u : Int) (h0 : 0 ≤ u) : upM (upM u) = upM u := by
  rcases Int.lt_or_le 1153 u with h | h
  · rw [upM_big u h, upM_big u h]
  · obtain ⟨n, rfl⟩ : ∃ n : Nat, u = n := ⟨u.toNat, by omega⟩
    exact up_small n (by omega)
theorem map_up_idem {l : List Int} (h : U16 l) : (l.map upM).map upM = l.map upM := by
  rw [List.map_map]
  exact List.map_congr_left fun u hu => upM_idem u (h u hu).1
end Go.Proofs.YtmbdiimenmnfjaaDoor
/- What several laws share. -/
namespace Go.Proofs.YtmbdiimenmnfjaaDoor
open Go.RowKit Go.Deep
set_option linter.unusedVariables false

/-- Key, whatever the string. -/
theorem key_gen (s : ByteArray) (hs : s.size ≤ 40000) (w : World) : Calls Tryd.prog 17 #[.string s] w fun e w' => ∃ v, e = .returned (.tuple #[v, .int .i64 (checkM s)]) ∧ Below w.heap.size w w' := by
  by_cases hc : checkM s = 0
  · obtain ⟨r, hg, -⟩ := check_units hc
    rw [hc]
    exact (key_ok s hs w hc r hg).mono fun e w' ⟨v, he, _, hB⟩ => ⟨v, he, hB⟩
  · exact (key_no s hs w hc).mono fun e w' ⟨he, hB⟩ => ⟨_, he, hB⟩
theorem key_rd (s : ByteArray) (hs : s.size ≤ 40000) (w : World) (hc : checkM s = 0) (r : List Int) (hg : getU s = some r) :
    Calls Tryd.prog 17 #[.string s] w fun e w' => ∃ A c, e = .returned (.tuple #[.slice A (keyM r).length c, .int .i64 0]) ∧ Rd w' .u8 A (keyM r).length (keyM r) ∧ Below w.heap.size w w' :=
  (key_ok s hs w hc r hg).mono fun e w' ⟨v, he, hO, hB⟩ => by
    obtain ⟨A, c, rfl, hc', hRd, -⟩ := own_nums hO (by
      obtain ⟨r', hg', h1, h2, -⟩ := check_units hc
      rw [hg] at hg'; cases hg'
      rw [show keyM r = keyB (r.map upM ++ [0] ++ r) from rfl, keyB_len]
      simp; omega)
    exact ⟨A, c, he, hRd, hB⟩

theorem sameM_symm (a b : ByteArray) : sameM b a = sameM a b := by
  rw [Bool.eq_iff_iff, sameM_iff, sameM_iff]
  constructor
  · rintro (h | ⟨x, y, h1, h2, h3⟩)
    · exact Or.inl h.symm
    · exact Or.inr ⟨y, x, h2, h1, h3.symm⟩
  · rintro (h | ⟨x, y, h1, h2, h3⟩)
    · exact Or.inl h.symm
    · exact Or.inr ⟨y, x, h2, h1, h3.symm⟩
theorem sameM_trans {a b c : ByteArray} (h1 : sameM a b = true) (h2 : sameM b c = true) : sameM a c = true := by
  rcases (sameM_iff a b).1 h1 with rfl | ⟨x, y, ha, hb, hxy⟩
  · exact h2
  · rcases (sameM_iff b c).1 h2 with rfl | ⟨y', z, hb', hc, hyz⟩
    · exact h1
    · rw [hb] at hb'
      cases hb'
      exact (sameM_iff a c).2 (Or.inr ⟨x, z, ha, hc, hxy.trans hyz⟩)
theorem units_rd (s : ByteArray) (hs : s.size ≤ 100000) (w : World) (r : List Int) (h : getU s = some r) :
    Calls Tryd.prog 33 #[.string s] w fun e w' => (∃ A c, e = .returned (.tuple #[.slice A r.length c, .int .i64 0])) ∧ Below w.heap.size w w' :=
  (units_ok s hs w r h).mono fun e w' ⟨v, he, hO, hB⟩ => by
    obtain ⟨A, c, rfl, hc⟩ := own_is_slice hO
    exact ⟨⟨A, c, he⟩, hB⟩
theorem getU_up {s : ByteArray} {r : List Int} (h : getU s = some r) : getU (upS r) = some (r.map upM) := by
  have hp := getU_props h
  exact getU_text hp.1.map_up (by rw [List.length_map]; exact hp.2.2)
theorem upS_size (r : List Int) : (upS r).size ≤ 4 * r.length := by
  unfold upS
  rw [mkB_size]
  have := textM_len (r.map upM)
  rwa [List.length_map] at this

end Go.Proofs.YtmbdiimenmnfjaaDoor
