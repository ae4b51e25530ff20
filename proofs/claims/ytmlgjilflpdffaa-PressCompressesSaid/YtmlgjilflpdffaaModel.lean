/- The plain model of press: what the program's functions compute, over whole numbers and lists. No program in sight. -/
import Derived.RowKit
namespace Go.Proofs.Ytmlgjilflpdffaa
open Go.RowKit

/-- A token. -/
structure Tok where
  copy : Bool
  byte : Int
  back : Int
  many : Int

def lit (b : Int) : Tok := ⟨false, b, 0, 0⟩
def cpy (back many : Int) : Tok := ⟨true, 0, back, many⟩

/-- The width at a position (up to 4096). -/
def widN (p : Int) : Int := if p ≤ 16 then 4 else if p ≤ 32 then 5 else if p ≤ 64 then 6 else if p ≤ 128 then 7 else if p ≤ 256 then 8 else if p ≤ 512 then 9 else if p ≤ 1024 then 10 else if p ≤ 2048 then 11 else 12
/-- 2 to the power of 16 less the width. -/
def gap (p : Int) : Int := if p ≤ 16 then 4096 else if p ≤ 32 then 2048 else if p ≤ 64 then 1024 else if p ≤ 128 then 512 else if p ≤ 256 then 256 else if p ≤ 512 then 128 else if p ≤ 1024 then 64 else if p ≤ 2048 then 32 else 16
def reach (p : Int) : Int := gap p + 2

theorem widN_bd (p : Int) : 4 ≤ widN p ∧ widN p ≤ 12 := by unfold widN; omega
theorem gap_bd (p : Int) : 16 ≤ gap p ∧ gap p ≤ 4096 := by unfold gap; omega
theorem gap_pow (p : Int) : (2 : Int) ^ (16 - widN p).toNat = gap p := by
  unfold widN gap
  repeat' split
  all_goals first | rfl | (exfalso; omega) | skip
theorem pow_gap (p : Int) : (2 : Int) ^ (widN p).toNat * gap p = 65536 := by
  unfold widN gap
  repeat' split
  all_goals first | rfl | (exfalso; omega) | skip
theorem le_pow_wid (p : Int) (h : p ≤ 4096) : p ≤ (2 : Int) ^ (widN p).toNat := by
  unfold widN
  repeat' split
  all_goals first | (show p ≤ 16; omega) | (show p ≤ 32; omega) | (show p ≤ 64; omega) | (show p ≤ 128; omega) | (show p ≤ 256; omega) | (show p ≤ 512; omega) | (show p ≤ 1024; omega) | (show p ≤ 2048; omega) | (show p ≤ 4096; omega)

/-- What 'valid' says: the next position, or the error. -/
def validM (x : Tok) (p bad : Int) : Except Int Int :=
  if x.copy = false then
    if x.back ≠ 0 ∨ x.many ≠ 0 then .error bad
    else if 3744 ≤ p then .error 2 else .ok (p + 1)
  else if x.byte ≠ 0 ∨ x.back < 1 ∨ p < x.back ∨ x.many < 3 ∨ reach p < x.many then .error bad
  else if 3744 < p + x.many then .error 2 else .ok (p + x.many)

/-- What 'token' says: the token and the rest, or the error. -/
def tokM (xs : List Int) (isCopy : Bool) (p : Int) : Except Int (Tok × List Int) :=
  match isCopy, xs with
  | false, [] => .error 4
  | false, b :: r => .ok (lit b, r)
  | true, a :: b :: r => .ok (cpy ((a + b * 256) / gap p + 1) ((a + b * 256) % gap p + 3), r)
  | true, _ => .error 4

/-- The bit i of a number. -/
def bit (h i : Int) : Bool := decide ((h / 2 ^ i.toNat) % 2 = 1)

/-- The tokens of a group, from the i-th on (the first number: rounds). -/
def groupM : Nat → Int → Int → List Int → Int → List Tok → Except Int (Int × List Int × Int × List Tok)
  | 0, _, _, _, _, _ => .error 0
  | k + 1, h, i, xs, p, out =>
    if i < 8 ∧ xs ≠ [] then
      match tokM xs (bit h i) p with
      | .error e => .error e
      | .ok (t, r) => match validM t p 4 with
        | .error e => .error e
        | .ok q => groupM k h (i + 1) r q (out ++ [t])
    else .ok (i, xs, p, out)

/-- What follows a group. -/
def afterM (f : List Int → Int → List Tok → Except Int (List Tok × Int)) (h : Int) : Except Int (Int × List Int × Int × List Tok) → Except Int (List Tok × Int)
  | .error e => .error e
  | .ok (i, ys, q, out) => if i = 0 ∨ h / 2 ^ i.toNat ≠ 0 then .error 4 else f ys q out

/-- All groups. -/
def tokensM : Nat → List Int → Int → List Tok → Except Int (List Tok × Int)
  | 0, _, _, _ => .error 0
  | _ + 1, [], p, out => .ok (out, p)
  | k + 1, h :: xs, p, out => afterM (tokensM k) h (groupM 9 h 0 xs p out)

/-- Where a list of tokens ends, or the first error. -/
def posM (bad : Int) : Int → List Tok → Except Int Int
  | p, [] => .ok p
  | p, t :: ts => match validM t p bad with
    | .error e => .error e
    | .ok q => posM bad q ts

/-- n bytes more, each from so far back. -/
def copyM (back : Int) : Nat → List Int → List Int
  | 0, out => out
  | n + 1, out => copyM back n (out ++ [out.getD (out.length - back).toNat 0])

/-- The data of tokens, behind other data. -/
def dataM : List Int → List Tok → List Int
  | out, [] => out
  | out, t :: ts => dataM (copyM t.back t.many.toNat (if t.copy = true then out else out ++ [t.byte])) ts
end Go.Proofs.Ytmlgjilflpdffaa
