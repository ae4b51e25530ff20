/- Walks: token. -/
import Derived.Test.YtmlgjilflpdffaaWalkA
namespace Go.Proofs.Ytmlgjilflpdffaa
open Go.RowKit Go.Deep
set_option linter.unusedVariables false
set_option linter.unusedSimpArgs false


theorem wraps_i64' (n : Int) (h₀ : 0 ≤ n) (h₁ : n < 2 ^ 62) : IntKind.i64.wrap n = n := by rw [IntKind.wrap_i64]; omega
theorem or16 (x y : Int) (hx : 0 ≤ x) (hx' : x ≤ 255) (hy : 0 ≤ y) (hy' : y ≤ 255) : bits .or .i64 x (y * 256) = x + y * 256 := by
  have h := bits_join .i64 62 (by decide) wraps_i64' 8 (y * 256) x (by omega) (by omega) (by omega) hx (by omega) (by omega)
  have hc : bits .or .i64 x (y * 256) = bits .or .i64 (y * 256) x := by
    obtain ⟨a, ha⟩ := Int.eq_ofNat_of_zero_le hx
    obtain ⟨b, hb⟩ := Int.eq_ofNat_of_zero_le (show 0 ≤ y * 256 by omega)
    rw [ha, hb, (bits_nat .i64 62 (by decide) wraps_i64' a b (by omega) (by omega)).2, (bits_nat .i64 62 (by decide) wraps_i64' b a (by omega) (by omega)).2, Nat.or_comm]
  rw [hc, h]; omega
theorem and_gap (p n : Int) (h0 : 0 ≤ n) (h1 : n < 65536) : bits .and .i64 n (gap p - 1) = n % gap p := by
  have h := bits_mask .i64 62 (by decide) wraps_i64' (16 - widN p).toNat (by have := widN_bd p; omega) n h0 (by omega)
  rwa [gap_pow] at h

set_option maxRecDepth 100000 in
set_option maxHeartbeats 1000000 in
theorem token_lit (A : Option Addr) (n c : Nat) (x : Int) (xs : List Int) (p : Int) (w : World) (hc : n ≤ c) (hr : Rd w .u8 A n (x :: xs)) :
    Calls Try.prog 50 #[.slice A n c, .bool false, .int .i64 p] w fun e w' => ∃ A' c', e = .returned (.tuple #[(lit x).val, .slice A' (n - 1) c']) ∧ n - 1 ≤ c' ∧ (∀ W, Rd W .u8 A n (x :: xs) → Rd W .u8 A' (n - 1) xs) ∧ Below w.heap.size w w' := by
  have hn := hr.len
  have h1 : 1 ≤ n := by simp at hn; omega
  have hm := hr.max
  have hfin := Lib.hid (fun (W : World) (hr : Rd W .u8 A n (x :: xs)) => hr.drop hc 1 h1)
  obtain ⟨ad, rfl, hcell⟩ := hr.at_ 0 (by omega)
  clear hn
  have b0 : 0 < n := by omega
  rw [Addr.add_zero'] at hcell
  have hcell0 : ∀ o, (w.alloc o).cell? ad = some (.int .u8 x) := fun o => cell_keep (one_alloc w o) hcell
  have hr' := Lib.hid hr
  clear hcell hr
  have hsl : ∀ w, (Instr.slice 22 (.slice (some ad) n c) (some (.int .i64 1)) none none).run Try.prog w = .ok (.slice (if c = 1 then some ad else Option.map (fun x => x.add 1) (some ad)) (n - 1) (c - 1)) w := run_from22 (some ad) n c 1 h1
  generalize hA' : (if c = 1 then some ad else Option.map (fun x => x.add 1) (some ad)) = A' at hfin hsl
  clear hA'
  go_enter Try.func50, Try.ntmps50
  go_wp2
  go_region
  go_wp2
  exact bodyPost_ret (v := .tuple #[(lit x).val, .slice A' (n - 1) (c - 1)]) (by simp [results, Try.results50, go_sem, lit, Tok.val]) rfl ⟨_, _, rfl, by omega, hfin.out, (by repeat (first | exact Below.refl _ _ | apply below_al | apply below_drewN | apply below_drew1 | refine below_st ?_ (by first | (simp; done) | (simp; omega))))⟩

set_option maxRecDepth 100000 in
set_option maxHeartbeats 1000000 in
theorem token_cpy (A : Option Addr) (n c : Nat) (x y : Int) (xs : List Int) (p : Int) (w : World) (hc : n ≤ c) (hp : p ≤ 4096) (hr : Rd w .u8 A n (x :: y :: xs))
    (hx : 0 ≤ x) (hx' : x ≤ 255) (hy : 0 ≤ y) (hy' : y ≤ 255) :
    Calls Try.prog 50 #[.slice A n c, .bool true, .int .i64 p] w fun e w' => ∃ A' c', e = .returned (.tuple #[(cpy ((x + y * 256) / gap p + 1) ((x + y * 256) % gap p + 3)).val, .slice A' (n - 2) c']) ∧ n - 2 ≤ c' ∧ (∀ W, Rd W .u8 A n (x :: y :: xs) → Rd W .u8 A' (n - 2) xs) ∧ Below w.heap.size w w' := by
  have hn := hr.len
  have h1 : 2 ≤ n := by simp at hn; omega
  have hm := hr.max
  have hfin := Lib.hid (fun (W : World) (hr : Rd W .u8 A n (x :: y :: xs)) => hr.drop hc 2 h1)
  obtain ⟨ad, rfl, hcell⟩ := hr.at_ 0 (by omega)
  obtain ⟨ad', e1, hcell'⟩ := hr.at_ 1 (by omega)
  cases e1
  clear hn
  have b0 : 0 < n := by omega
  rw [Addr.add_zero'] at hcell
  rw [Addr.add_succ'] at hcell'
  have hcell0 : ∀ o, (w.alloc o).cell? ad = some (.int .u8 x) := fun o => cell_keep (one_alloc w o) hcell
  have hcell1 : ∀ o, (w.alloc o).cell? ⟨ad.block, ad.off + 1, none⟩ = some (.int .u8 y) := fun o => cell_keep (one_alloc w o) hcell'
  have hr' := Lib.hid hr
  clear hcell hcell' hr
  have b1 : (1 : Int) < (n : Int) := by omega
  have hgp := gap_pow p
  have hg := gap_bd p
  have hw := widN_bd p
  have hor := or16 x y hx hx' hy hy'
  have hand := and_gap p (x + y * 256) (by omega) (by omega)
  have hq : 0 ≤ (x + y * 256) / gap p ∧ (x + y * 256) / gap p ≤ 65535 := ⟨Int.ediv_nonneg (by omega) (by omega), by have := Int.ediv_le_self (b := gap p) (show 0 ≤ x + y * 256 by omega); omega⟩
  have hmd : 0 ≤ (x + y * 256) % gap p ∧ (x + y * 256) % gap p ≤ 4096 := ⟨Int.emod_nonneg _ (by omega), by have := Int.emod_lt_of_pos (x + y * 256) (show 0 < gap p by omega); omega⟩
  have hsl : ∀ w, (Instr.slice 22 (.slice (some ad) n c) (some (.int .i64 2)) none none).run Try.prog w = .ok (.slice (if c = 2 then some ad else Option.map (fun x => x.add 2) (some ad)) (n - 2) (c - 2)) w := run_from22 (some ad) n c 2 h1
  generalize hA' : (if c = 2 then some ad else Option.map (fun x => x.add 2) (some ad)) = A' at hfin hsl
  clear hA'
  go_enter Try.func50, Try.ntmps50
  go_wp2_with (go_at_call 31; refine (shape_any _ _ (by omega)).mono ?_; rintro e w' ⟨rfl, ⟨m, rfl⟩⟩)
  go_quiet (fail)
  go_wp2
  go_region
  go_wp2
  exact bodyPost_ret (v := .tuple #[(cpy ((x + y * 256) / gap p + 1) ((x + y * 256) % gap p + 3)).val, .slice A' (n - 2) (c - 2)]) (by simp [results, Try.results50, go_sem, cpy, Tok.val]) rfl ⟨_, _, rfl, by omega, hfin.out, (by repeat (first | exact Below.refl _ _ | apply below_al | apply below_drewN | apply below_drew1 | refine below_st ?_ (by first | (simp; done) | (simp; omega))))⟩

set_option maxRecDepth 100000 in
set_option maxHeartbeats 1000000 in
theorem token_err_lit (A : Option Addr) (c : Nat) (p : Int) (w : World) :
    Calls Try.prog 50 #[.slice A 0 c, .bool false, .int .i64 p] w fun e w' => e = fault 4 ∧ Below w.heap.size w w' := by
  go_enter Try.func50, Try.ntmps50
  go_wp2
  exact ⟨rfl, rfl, one_alloc _ _⟩

set_option maxRecDepth 100000 in
set_option maxHeartbeats 1000000 in
theorem token_err_cpy (A : Option Addr) (n c : Nat) (p : Int) (w : World) (hn : n < 2) :
    Calls Try.prog 50 #[.slice A n c, .bool true, .int .i64 p] w fun e w' => e = fault 4 ∧ Below w.heap.size w w' := by
  go_enter Try.func50, Try.ntmps50
  go_wp2
  exact ⟨rfl, rfl, one_alloc _ _⟩

/-- All numbers are bytes. -/
def Bytes (xs : List Int) : Prop := ∀ x ∈ xs, 0 ≤ x ∧ x ≤ 255

theorem token_err (A : Option Addr) (n c : Nat) (xs : List Int) (b : Bool) (p k : Int) (w : World) (hr : Rd w .u8 A n xs) (h : tokM xs b p = .error k) :
    Calls Try.prog 50 #[.slice A n c, .bool b, .int .i64 p] w fun e w' => e = (.panicked [{ v := .iface 71 (.agg #[.int .i64 k]), recovered := false }]) ∧ Below w.heap.size w w' := by
  have hn := hr.len
  cases b with
  | false =>
    cases xs with
    | nil =>
      cases h
      obtain rfl : n = 0 := by simpa using hn.symm
      exact token_err_lit A c p w
    | cons x r => cases h
  | true =>
    match xs with
    | [] => cases h; exact token_err_cpy A n c p w (by simp at hn; omega)
    | [x] => cases h; exact token_err_cpy A n c p w (by simp at hn; omega)
    | x :: y :: r => cases h

theorem token_ok (A : Option Addr) (n c : Nat) (xs r : List Int) (b : Bool) (p : Int) (t : Tok) (w : World) (hc : n ≤ c) (hp : p ≤ 4096) (hr : Rd w .u8 A n xs) (hb : Bytes xs) (h : tokM xs b p = .ok (t, r)) :
    Calls Try.prog 50 #[.slice A n c, .bool b, .int .i64 p] w fun e w' => ∃ A' c', e = .returned (.tuple #[.agg #[.bool t.copy, .int .u8 t.byte, .int .i64 t.back, .int .i64 t.many], .slice A' r.length c']) ∧ r.length ≤ c' ∧ (∀ W, Rd W .u8 A n xs → Rd W .u8 A' r.length r) ∧ Below w.heap.size w w' := by
  have hn := hr.len
  cases b with
  | false =>
    cases xs with
    | nil => cases h
    | cons x r =>
      cases h
      have e : n - 1 = r.length := by simp at hn; omega
      rw [← e]
      exact token_lit A n c x r p w hc hr
  | true =>
    match xs with
    | [] => cases h
    | [x] => cases h
    | x :: y :: r =>
      cases h
      have e : n - 2 = r.length := by simp at hn; omega
      rw [← e]
      have h1 := hb x (by simp)
      have h2 := hb y (by simp)
      exact token_cpy A n c x y r p w hc hp hr h1.1 h1.2 h2.1 h2.2

theorem tokM_bytes {xs r : List Int} {b : Bool} {p : Int} {t : Tok} (h : tokM xs b p = .ok (t, r)) (hb : Bytes xs) : Bytes r := by
  cases b with
  | false =>
    cases xs with
    | nil => cases h
    | cons x r => cases h; exact fun y hy => hb y (by simp [hy])
  | true =>
    match xs with
    | [] => cases h
    | [x] => cases h
    | x :: y :: r => cases h; exact fun y hy => hb y (by simp [hy])
end Go.Proofs.Ytmlgjilflpdffaa
