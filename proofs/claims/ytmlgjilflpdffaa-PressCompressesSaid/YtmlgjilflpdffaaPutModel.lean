/- The plain model of the writer: what 'put' makes of what was written. -/
import Derived.Test.YtmlgjilflpdffaaModel
namespace Go.Proofs.Ytmlgjilflpdffaa
open Go.RowKit

/-- What the writer has written: the bytes, the position, the place in the group, where the group begins. -/
structure Wst where
  out : List Int
  pos : Int
  inn : Int
  head : Int

/-- A group is begun. -/
def openM (s : Wst) : Wst := if s.inn = 0 then ⟨s.out ++ [0], s.pos, s.inn, s.out.length⟩ else s
/-- A token is written. -/
def laidM (s : Wst) (x : Tok) : Wst :=
  if x.copy = true then
    ⟨(s.out.set s.head.toNat (s.out.getD s.head.toNat 0 + 2 ^ s.inn.toNat)) ++ [((x.back - 1) * gap s.pos + x.many - 3) % 256, ((x.back - 1) * gap s.pos + x.many - 3) / 256], s.pos + x.many, (s.inn + 1) % 8, s.head⟩
  else ⟨s.out ++ [x.byte], s.pos + 1, (s.inn + 1) % 8, s.head⟩
def putM (s : Wst) (x : Tok) : Wst := laidM (openM s) x
def w0M : Wst := ⟨[], 0, 0, 0⟩
/-- The bytes of a list of tokens. -/
def buildM (l : List Tok) : List Int := (l.foldl putM w0M).out

/-- What holds of the writer between two tokens. -/
structure Wok (s : Wst) : Prop where
  p0 : 0 ≤ s.pos
  i0 : 0 ≤ s.inn
  i7 : s.inn < 8
  hd : s.inn ≠ 0 → 0 ≤ s.head ∧ s.head < s.out.length ∧ 0 ≤ s.out.getD s.head.toNat 0 ∧ s.out.getD s.head.toNat 0 < 2 ^ s.inn.toNat
/-- .. and in a group that is begun. -/
structure Wop (s : Wst) : Prop where
  p0 : 0 ≤ s.pos
  i0 : 0 ≤ s.inn
  i7 : s.inn < 8
  h0 : 0 ≤ s.head
  hl : s.head < s.out.length
  b0 : 0 ≤ s.out.getD s.head.toNat 0
  b1 : s.out.getD s.head.toNat 0 < 2 ^ s.inn.toNat

theorem open_ok {s : Wst} (h : Wok s) : Wop (openM s) := by
  unfold openM
  by_cases hi : s.inn = 0
  · rw [if_pos hi]
    refine ⟨h.p0, h.i0, h.i7, by simp, by simp; omega, ?_, ?_⟩
    · simp [List.getD_eq_getElem?_getD]
    · simp [List.getD_eq_getElem?_getD, hi]
  · rw [if_neg hi]
    obtain ⟨h1, h2, h3, h4⟩ := h.hd hi
    exact ⟨h.p0, h.i0, h.i7, h1, h2, h3, h4⟩

theorem laid_ok {s : Wst} {x : Tok} {q bad : Int} (h : Wop s) (hx : validM x s.pos bad = .ok q) : Wok (laidM s x) ∧ (laidM s x).pos = q := by
  have hq : 0 ≤ q ∧ (laidM s x).pos = q := by
    have := h.p0
    unfold validM at hx
    unfold laidM
    cases hc : x.copy with
    | false =>
      rw [hc] at hx
      simp only [if_true] at hx
      repeat' split at hx
      all_goals first | (cases hx; done) | (cases hx; simp; omega)
    | true =>
      rw [hc] at hx
      simp only [Bool.true_eq_false, if_false] at hx
      repeat' split at hx
      all_goals first | (cases hx; done) | (cases hx; simp; omega)
  refine ⟨?_, hq.2⟩
  have hi := h.i0
  have hi7 := h.i7
  have hh0 := h.h0
  have hhl := h.hl
  have hlt : s.head.toNat < s.out.length := by omega
  have hm : (s.inn + 1) % 8 ≠ 0 → (s.inn + 1) % 8 = s.inn + 1 := by omega
  have hpow : (2 : Int) ^ (s.inn + 1).toNat = 2 ^ s.inn.toNat + 2 ^ s.inn.toNat := by
    rw [show (s.inn + 1).toNat = s.inn.toNat + 1 from by omega, Int.pow_succ]; omega
  have hpp : (0 : Int) < 2 ^ s.inn.toNat := Int.pow_pos (by decide)
  have hb0 := h.b0
  have hb1 := h.b1
  unfold laidM at hq ⊢
  cases hc : x.copy with
  | false =>
    rw [hc] at hq
    simp only [Bool.false_eq_true, if_false] at hq ⊢
    refine ⟨by simp only; omega, by simp only; omega, by simp only; omega, fun hne => ?_⟩
    simp only at hne ⊢
    rw [hm hne]
    have e : (s.out ++ [x.byte]).getD s.head.toNat 0 = s.out.getD s.head.toNat 0 := by
      simp only [List.getD_eq_getElem?_getD]; rw [List.getElem?_append_left hlt]
    refine ⟨hh0, by simp; omega, by rw [e]; exact hb0, by rw [e, hpow]; omega⟩
  | true =>
    rw [hc] at hq
    simp only [if_true] at hq ⊢
    refine ⟨by simp only; omega, by simp only; omega, by simp only; omega, fun hne => ?_⟩
    simp only at hne ⊢
    rw [hm hne]
    have e : ∀ (l : List Int) (v : Int), ((s.out.set s.head.toNat v) ++ l).getD s.head.toNat 0 = v := by
      intro l v
      simp only [List.getD_eq_getElem?_getD]; rw [List.getElem?_append_left (by simpa using hlt)]
      simp [hlt]
    refine ⟨hh0, by simp; omega, by rw [e]; omega, by rw [e, hpow]; omega⟩

theorem put_ok {s : Wst} {x : Tok} {q bad : Int} (h : Wok s) (hx : validM x s.pos bad = .ok q) : Wok (putM s x) ∧ (putM s x).pos = q := by
  have h2 := open_ok h
  have hp : (openM s).pos = s.pos := by unfold openM; split <;> rfl
  exact laid_ok h2 (by rw [hp]; exact hx)
theorem w0_ok : Wok w0M := ⟨Int.le_refl _, Int.le_refl _, by decide, fun h => absurd rfl h⟩
theorem cpy_bd (p k m : Int) (hp : p ≤ 4096) (hk : 1 ≤ k) (hkp : k ≤ p) (hm : m ≤ reach p) : 0 ≤ (k - 1) * gap p ∧ (k - 1) * gap p + m - 3 ≤ 65535 := by
  have hg := gap_bd p
  have h1 := le_pow_wid p hp
  have h2 := pow_gap p
  have h3 : (k - 1) * gap p ≤ (2 ^ (widN p).toNat - 1) * gap p := Int.mul_le_mul_of_nonneg_right (by omega) (by omega)
  have h4 : ((2 : Int) ^ (widN p).toNat - 1) * gap p = 65536 - gap p := by rw [Int.sub_mul, h2]; omega
  rw [h4] at h3
  refine ⟨Int.mul_nonneg (by omega) (by omega), ?_⟩
  unfold reach at hm
  omega
end Go.Proofs.Ytmlgjilflpdffaa
