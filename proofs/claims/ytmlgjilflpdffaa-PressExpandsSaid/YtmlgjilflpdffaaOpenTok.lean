/- The rows' words: an argument that is a slice of tokens is opened. -/
import Derived.Test.YtmlgjilflpdffaaOpen
import Derived.Test.YtmlgjilflpdffaaWalkC
namespace Go.Proofs.Ytmlgjilflpdffaa
open Go.ChangeShapes Go.WideShapes Go.ChangeAt Go.RowKit Go.Deep
set_option linter.unusedVariables false

theorem Try.cells35 : Try.prog.cellsOf 35 = 4 := by kernel_rfl
theorem Try.cells4 : Try.prog.cellsOf 4 = 1 := by kernel_rfl
theorem Try.cells3 : Try.prog.cellsOf 3 = 1 := by kernel_rfl

section
variable {H : Type} {enc : TypeId × Value → H}

instance : Inhabited Tok := ⟨lit 0⟩
theorem add_flat (a : Addr) (k i : Nat) (hs : a.spot = none) : (a.add k).add i = ⟨(a.add k).block, (a.add k).off + i, none⟩ := by
  obtain ⟨b, o, s⟩ := a
  simp at hs
  subst hs
  simp only [Addr.add_lit]

theorem int_of {W : World} {n : Nat} {v : Value} {y : DataW H × List MemPlace} {t : TypeId} {k : IntKind} (ht : Try.prog.underlying t = some (.int k)) (h : DataW.trod enc Try.prog W 0 (fun _ => true) true n t [v] = some y) : ∃ m, v = .int k m ∧ (Lit.int k m).wf = true := by
  obtain ⟨m, e, -, hw⟩ := DataW.trod_int ht h
  exact ⟨m, by injection e, hw⟩
theorem bool_of {W : World} {n : Nat} {v : Value} {y : DataW H × List MemPlace} (h : DataW.trod enc Try.prog W 0 (fun _ => true) true n 4 [v] = some y) : ∃ b, v = .bool b := by
  obtain ⟨m, e, -⟩ := DataW.trod_bool Try.underlying4 h
  exact ⟨m, by injection e⟩

/-- A slice of tokens that came in. -/
theorem open_tokens {W : World} {base : Nat} {v1 : Value} {d1 : DataW H} {p1 : List MemPlace} (hval : Value.okWide Try.prog W .any base 31 v1) (h1 : DataW.Trod enc Try.prog W 0 (fun _ => true) true 31 v1 d1 p1) :
    ∃ A c ts, v1 = .slice A ts.length c ∧ ts.length ≤ c ∧ ts.length ≤ maxLen ∧ RdT W A ts.length ts ∧ (∀ t ∈ ts, (0 ≤ t.byte ∧ t.byte ≤ 255) ∧ (-9223372036854775808 ≤ t.back ∧ t.back ≤ 9223372036854775807) ∧ (-9223372036854775808 ≤ t.many ∧ t.many ≤ 9223372036854775807)) ∧ (∀ ad, A = some ad → ad.block < W.heap.size ∧ ad.spot = none) := by
  have hval2 := hval
  simp only [Value.okWide, Try.underlying31, Cell.okWide] at hval2
  obtain ⟨a1, len, cap, rfl⟩ := okWide_slice Try.underlying31 hval
  obtain ⟨fuel, hf⟩ := h1
  rcases open_slice Try.underlying31 hf with ⟨hcs, hx⟩ | ⟨a, len', cap', m, n, D, Pl, hcs, _, hl, hm, hmm, hx, hcell⟩
  · simp [Value.cells] at hcs
    obtain ⟨rfl, rfl, rfl⟩ := hcs
    exact ⟨none, 0, [], rfl, Nat.le_refl _, Nat.zero_le _, ⟨rfl, by decide, fun j hj => absurd hj (Nat.not_lt_zero _)⟩, by simp, fun ad e => by cases e⟩
  · simp [Value.cells] at hcs
    obtain ⟨rfl, rfl, rfl⟩ := hcs
    simp only [if_true] at hmm
    subst hmm
    simp only [Cell.ok, Try.underlying31, World.has] at hval2
    obtain ⟨-, -, -, hsp, row, cells, hsh, -⟩ := hval2
    have each : ∀ i, i < m → ∃ t : Tok, (W.cell? (a.add (i * 4)) = some (.bool t.copy) ∧ W.cell? ⟨(a.add (i * 4)).block, (a.add (i * 4)).off + 1, none⟩ = some (.int .u8 t.byte) ∧
        W.cell? ⟨(a.add (i * 4)).block, (a.add (i * 4)).off + 2, none⟩ = some (.int .i64 t.back) ∧ W.cell? ⟨(a.add (i * 4)).block, (a.add (i * 4)).off + 3, none⟩ = some (.int .i64 t.many)) ∧
        ((0 ≤ t.byte ∧ t.byte ≤ 255) ∧ (-9223372036854775808 ≤ t.back ∧ t.back ≤ 9223372036854775807) ∧ (-9223372036854775808 ≤ t.many ∧ t.many ≤ 9223372036854775807)) := by
      intro i hi
      obtain ⟨cs', g1, g2⟩ := hcell i hi
      rw [Try.cells35] at g1
      obtain ⟨_, hlen, hcl⟩ := World.cells?_some g1
      obtain ⟨xs, k, hk, hxy, _, hxl, hfl⟩ := DataW.trod_struct Try.underlying35 g2
      match cs', hlen with
      | [v0, v1, v2, v3], _ =>
        have f0 := hfl 0 _ rfl
        have f1 := hfl 1 _ rfl
        have f2 := hfl 2 _ rfl
        have f3 := hfl 3 _ rfl
        have hx4 : xs.length = 4 := hxl
        simp [Try.cells4, Try.cells5, Try.cells3] at f0 f1 f2 f3
        rw [List.getElem?_eq_getElem (by omega)] at f0 f1 f2 f3
        obtain ⟨b, rfl⟩ := bool_of f0
        obtain ⟨x, rfl, wx⟩ := int_of Try.underlying5 f1
        obtain ⟨y, rfl, wy⟩ := int_of Try.underlying3 f2
        obtain ⟨z, rfl, wz⟩ := int_of Try.underlying3 f3
        have e0 := hcl 0 (by omega)
        have e1 := hcl 1 (by omega)
        have e2 := hcl 2 (by omega)
        have e3 := hcl 3 (by omega)
        rw [add_flat a _ _ hsp] at e1 e2 e3
        simp only [Lit.wf, Bool.and_eq_true, decide_eq_true_eq] at wx wy wz
        exact ⟨⟨b, x, y, z⟩, ⟨by simpa [Addr.add] using e0, by simpa using e1, by simpa using e2, by simpa using e3⟩, ⟨wx.1, wx.2⟩, ⟨wy.1, wy.2⟩, ⟨wz.1, wz.2⟩⟩
    obtain ⟨q, hq⟩ := choose_lt (α := Tok) each
    have hlen : ((List.range len).map q).length = len := by simp
    refine ⟨some a, m, (List.range len).map q, by rw [hlen], by rw [hlen]; exact hl, by rw [hlen]; omega, ⟨rfl, by rw [hlen]; simp only [maxLen] at hm; omega, fun j hj => ⟨a, rfl, ?_⟩⟩, fun t ht => ?_, fun ad e => ?_⟩
    · rw [hlen] at hj
      simpa using (hq j (by omega)).1
    · obtain ⟨j, hj, rfl⟩ := List.mem_map.1 ht
      have := List.mem_range.1 hj
      exact (hq j (by omega)).2
    · cases e
      refine ⟨?_, hsp⟩
      unfold World.shape? at hsh
      rcases Nat.lt_or_ge a.block W.heap.size with h | h
      · exact h
      · rw [Array.getElem?_eq_none h] at hsh
        cases hsh

end
end Go.Proofs.Ytmlgjilflpdffaa
