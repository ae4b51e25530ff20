/- Walks: Tokens, Build, Expand, Size of the program and of the document, each with one result for right and wrong input; PressExpands. -/
import Derived.Test.YtmlgjilflpdffaaRefB
import Derived.Test.YtmlgjilflpdffaaRefC
import Derived.Test.YtmlgjilflpdffaaRefD
import Derived.Test.YtmlgjilflpdffaaCodeD
namespace Go.Proofs.Ytmlgjilflpdffaa
open Go.RowKit Go.Deep
set_option linter.unusedVariables false
set_option linter.unusedSimpArgs false

def tokR (xs : List Int) : List Tok × Int := match tokensM (xs.length + 1) xs 0 [] with
  | .error k => ([], k)
  | .ok (ts, _) => (ts, 0)
def bldR (l : List Tok) : List Int × Int := match posM 1 0 l with
  | .error k => ([], k)
  | .ok _ => (buildM l, 0)
def expR (xs : List Int) : List Int × Int := match tokensM (xs.length + 1) xs 0 [] with
  | .error k => ([], k)
  | .ok (ts, _) => (dataM [] ts, 0)
def sizR (xs : List Int) : Int × Int := match tokensM (xs.length + 1) xs 0 [] with
  | .error k => (0, k)
  | .ok (_, p) => (p, 0)

theorem rdt_nil (w : World) : RdT w none 0 [] := ⟨rfl, by omega, fun j h => absurd h (by simp)⟩
theorem rd_nil (w : World) : Rd w .u8 none 0 [] := ⟨rfl, by omega, fun j h => absurd h (by omega)⟩
theorem toks_small {xs : List Int} {ts : List Tok} {p : Int} (h : tokensM (xs.length + 1) xs 0 [] = .ok (ts, p)) (hb : Bytes xs) : ts.length ≤ 3744 ∧ 0 ≤ p ∧ p ≤ 3744 ∧ posM 4 0 ts = .ok p := by
  obtain ⟨h1, -, -⟩ := build_tokens h hb 4
  have h2 := pos_at 4 ts 0 p h1 (by omega) (by omega)
  have h3 := pos_len 4 _ _ _ h1 (by omega)
  refine ⟨?_, h2.1, h2.2, h1⟩
  by_cases hn : ts = []
  · subst hn; simp
  · have := h3.2 hn; omega

theorem Tokens_all (A : Option Addr) (c : Nat) (xs : List Int) (ts : List Tok) (k : Int) (w : World) (hc : xs.length ≤ c) (hr : Rd w .u8 A xs.length xs) (hb : Bytes xs) (hsz : xs.length ≤ 100000) (h : tokR xs = (ts, k)) :
    Calls Try.prog 19 #[.slice A xs.length c] w fun e w' => ∃ A' c', e = .returned (.tuple #[.slice A' ts.length c', .int .i64 k]) ∧ RdT w' A' ts.length ts ∧ Below w.heap.size w w' := by
  unfold tokR at h
  cases hT : tokensM (xs.length + 1) xs 0 [] with
  | error k' =>
    rw [hT] at h
    cases h
    exact (Tokens_err A c xs k w hc hr hb (by omega) hT).mono fun e w' ⟨h1, h2⟩ => ⟨none, 0, h1, rdt_nil w', h2⟩
  | ok tp =>
    obtain ⟨ts', p⟩ := tp
    rw [hT] at h
    cases h
    have hs := toks_small hT hb
    exact (Tokens_ok A c xs ts p w hc hr hb (by omega) hT).mono fun e w' ⟨v, h1, h2, h3⟩ => by
      obtain ⟨A', c', rfl, hc', hR⟩ := own_toks h2 rfl (by omega)
      exact ⟨A', c', h1, hR, h3⟩
theorem RTokens_all (A : Option Addr) (c : Nat) (xs : List Int) (ts : List Tok) (k : Int) (w : World) (hr : Rd w .u8 A xs.length xs) (hb : Bytes xs) (hsz : xs.length ≤ 100000) (h : tokR xs = (ts, k)) :
    Calls Try.prog 20 #[.slice A xs.length c] w fun e w' => ∃ A' c', e = .returned (.tuple #[.slice A' ts.length c', .int .i64 k]) ∧ RdT w' A' ts.length ts ∧ Below w.heap.size w w' := by
  unfold tokR at h
  cases hT : tokensM (xs.length + 1) xs 0 [] with
  | error k' =>
    rw [hT] at h
    cases h
    exact (RTokens_any A c xs _ w hr hb hsz hT).mono fun e w' ⟨h1, h2⟩ => ⟨none, 0, h1, rdt_nil w', h2⟩
  | ok tp =>
    obtain ⟨ts', p⟩ := tp
    rw [hT] at h
    cases h
    have hs := toks_small hT hb
    exact (RTokens_any A c xs _ w hr hb hsz hT).mono fun e w' ⟨⟨v, h1, h2⟩, h3⟩ => by
      obtain ⟨A', c', rfl, hc', hR⟩ := own_toks h2 rfl (by omega)
      exact ⟨A', c', h1, hR, h3⟩
theorem Build_all (A : Option Addr) (c : Nat) (l : List Tok) (ys : List Int) (k : Int) (w : World) (hr : RdT w A l.length l) (hsz : l.length ≤ 10000) (h : bldR l = (ys, k)) :
    Calls Try.prog 21 #[.slice A l.length c] w fun e w' => ∃ A' c', e = .returned (.tuple #[.slice A' ys.length c', .int .i64 k]) ∧ Rd w' .u8 A' ys.length ys ∧ Below w.heap.size w w' := by
  unfold bldR at h
  have hl := build_len3 l
  cases hT : posM 1 0 l with
  | error k' =>
    rw [hT] at h
    cases h
    exact (Build_err A c l k w hr (by omega) hT).mono fun e w' ⟨h1, h2⟩ => ⟨none, 0, h1, rd_nil w', h2⟩
  | ok q =>
    rw [hT] at h
    cases h
    exact (Build_ok A c l q w hr hT).mono fun e w' ⟨v, h1, h2, h3⟩ => by
      obtain ⟨A', c', rfl, hc', hR, -⟩ := own_bytes h2 (by omega)
      exact ⟨A', c', h1, hR, h3⟩
theorem RBuild_all (A : Option Addr) (c : Nat) (l : List Tok) (ys : List Int) (k : Int) (w : World) (hr : RdT w A l.length l) (hsz : l.length ≤ 10000) (h : bldR l = (ys, k)) :
    Calls Try.prog 22 #[.slice A l.length c] w fun e w' => ∃ A' c', e = .returned (.tuple #[.slice A' ys.length c', .int .i64 k]) ∧ Rd w' .u8 A' ys.length ys ∧ Below w.heap.size w w' := by
  unfold bldR at h
  have hl := build_len3 l
  cases hT : posM 1 0 l with
  | error k' =>
    rw [hT] at h
    cases h
    exact (RBuild_any A c l _ w hr hsz hT).mono fun e w' ⟨h1, h2⟩ => ⟨none, 0, h1, rd_nil w', h2⟩
  | ok q =>
    rw [hT] at h
    cases h
    exact (RBuild_any A c l _ w hr hsz hT).mono fun e w' ⟨⟨v, h1, h2⟩, h3⟩ => by
      obtain ⟨A', c', rfl, hc', hR, -⟩ := own_bytes h2 (by omega)
      exact ⟨A', c', h1, hR, h3⟩
theorem data_small {ts : List Tok} {p : Int} (h : posM 4 0 ts = .ok p) : ((dataM [] ts).length : Int) = p := data_len 4 ts [] p h
theorem Expand_all (A : Option Addr) (c : Nat) (xs ys : List Int) (k : Int) (w : World) (hc : xs.length ≤ c) (hr : Rd w .u8 A xs.length xs) (hb : Bytes xs) (hsz : xs.length ≤ 100000) (h : expR xs = (ys, k)) :
    Calls Try.prog 24 #[.slice A xs.length c] w fun e w' => ∃ A' c', e = .returned (.tuple #[.slice A' ys.length c', .int .i64 k]) ∧ Rd w' .u8 A' ys.length ys ∧ Below w.heap.size w w' := by
  unfold expR at h
  cases hT : tokensM (xs.length + 1) xs 0 [] with
  | error k' =>
    rw [hT] at h
    cases h
    exact (Expand_err A c xs k w hc hr hb (by omega) hT).mono fun e w' ⟨h1, h2⟩ => ⟨none, 0, h1, rd_nil w', h2⟩
  | ok tp =>
    obtain ⟨ts, p⟩ := tp
    rw [hT] at h
    cases h
    obtain ⟨s1, s2, s3, s4⟩ := toks_small hT hb
    have hd := data_small s4
    exact (Expand_ok A c xs ts p w hc hr hb (by omega) hT (by omega) s2 s3 s4).mono fun e w' ⟨v, h1, h2, h3⟩ => by
      obtain ⟨A', c', rfl, hc', hR, -⟩ := own_bytes h2 (by omega)
      exact ⟨A', c', h1, hR, h3⟩
theorem Size_all (A : Option Addr) (c : Nat) (xs : List Int) (n k : Int) (w : World) (hc : xs.length ≤ c) (hr : Rd w .u8 A xs.length xs) (hb : Bytes xs) (hsz : xs.length ≤ 100000) (h : sizR xs = (n, k)) :
    Calls Try.prog 26 #[.slice A xs.length c] w fun e w' => e = .returned (.tuple #[.int .i64 n, .int .i64 k]) ∧ Below w.heap.size w w' := by
  unfold sizR at h
  cases hT : tokensM (xs.length + 1) xs 0 [] with
  | error k' =>
    rw [hT] at h
    cases h
    exact Size_err A c xs k w hc hr hb (by omega) hT
  | ok tp =>
    obtain ⟨ts, p⟩ := tp
    rw [hT] at h
    cases h
    exact Size_ok A c xs ts n w hc hr hb (by omega) hT

set_option maxRecDepth 100000 in
set_option maxHeartbeats 1000000 in
theorem RExpand_err (A : Option Addr) (c : Nat) (xs : List Int) (k : Int) (w : World) (hr : Rd w .u8 A xs.length xs) (hb : Bytes xs) (hsz : xs.length ≤ 100000) (h : tokensM (xs.length + 1) xs 0 [] = .error k) :
    Calls Try.prog 25 #[.slice A xs.length c] w fun e w' => e = .returned (.tuple #[.slice none 0 0, .int .i64 k]) ∧ Below w.heap.size w w' := by
  have H := Lib.hid (RTokens_any A c xs _ w hr hb hsz h)
  have hk := tokens_err_of _ _ _ _ _ (Nat.lt_succ_self _) h
  have hk0 : (k == 0) = false := by simp; omega
  have hk1 : (k != 0) = true := by simp; omega
  clear h hr hb hk
  go_enter Try.func25, Try.ntmps25
  go_wp2_with (go_at_call 20; refine H.out.mono ?_; rintro e w1 ⟨rfl, hB⟩)
  go_ret2
  exact ⟨rfl, hB⟩

set_option maxRecDepth 100000 in
set_option maxHeartbeats 1000000 in
theorem RExpand_ok (A : Option Addr) (c : Nat) (xs : List Int) (ts : List Tok) (p : Int) (w : World) (hr : Rd w .u8 A xs.length xs) (hb : Bytes xs) (hsz : xs.length ≤ 100000) (h : tokensM (xs.length + 1) xs 0 [] = .ok (ts, p)) :
    Calls Try.prog 25 #[.slice A xs.length c] w fun e w' => ∃ v, e = .returned (.tuple #[v, .int .i64 0]) ∧ w'.ownsRow w.heap.size 5 1 v (dataM [] ts).length (nums8 (dataM [] ts)) ∧ Below w.heap.size w w' := by
  have H := Lib.hid (RTokens_any A c xs _ w hr hb hsz h)
  obtain ⟨s1, s2, s3, s4⟩ := toks_small h hb
  have HP := Lib.hid s4
  clear h hr hb s4
  go_enter Try.func25, Try.ntmps25
  go_wp2_with (first
    | (go_at_call 20; refine H.out.mono ?_; rintro e w1 ⟨⟨v, rfl, hO⟩, hB⟩; obtain ⟨At, ct, rfl, hct, hRT⟩ := own_toks hO rfl (by omega); (have HRT := Lib.hid hRT); (have HB := Lib.hid hB); clear hRT hB hO hct)
    | (go_at_call 42; refine (RData_any At ct ts p _ HRT.out HP.out).mono ?_; rintro e w2 ⟨v2, rfl, hO2, hB2⟩; (have HO2 := Lib.hid hO2); (have HB2 := Lib.hid hB2); clear hO2 hB2))
  go_ret2
  exact ⟨_, rfl, own_weak HO2.out HB.out.size, below_then HB.out HB.out.size HB2.out⟩

theorem RExpand_all (A : Option Addr) (c : Nat) (xs ys : List Int) (k : Int) (w : World) (hr : Rd w .u8 A xs.length xs) (hb : Bytes xs) (hsz : xs.length ≤ 100000) (h : expR xs = (ys, k)) :
    Calls Try.prog 25 #[.slice A xs.length c] w fun e w' => ∃ A' c', e = .returned (.tuple #[.slice A' ys.length c', .int .i64 k]) ∧ Rd w' .u8 A' ys.length ys ∧ Below w.heap.size w w' := by
  unfold expR at h
  cases hT : tokensM (xs.length + 1) xs 0 [] with
  | error k' =>
    rw [hT] at h
    cases h
    exact (RExpand_err A c xs k w hr hb hsz hT).mono fun e w' ⟨h1, h2⟩ => ⟨none, 0, h1, rd_nil w', h2⟩
  | ok tp =>
    obtain ⟨ts, p⟩ := tp
    rw [hT] at h
    cases h
    obtain ⟨s1, s2, s3, s4⟩ := toks_small hT hb
    have hd := data_small s4
    exact (RExpand_ok A c xs ts p w hr hb hsz hT).mono fun e w' ⟨v, h1, h2, h3⟩ => by
      obtain ⟨A', c', rfl, hc', hR, -⟩ := own_bytes h2 (by omega)
      exact ⟨A', c', h1, hR, h3⟩

set_option maxRecDepth 100000 in
set_option maxHeartbeats 1000000 in
theorem RSize_all (A : Option Addr) (c : Nat) (xs : List Int) (n k : Int) (w : World) (hr : Rd w .u8 A xs.length xs) (hb : Bytes xs) (hsz : xs.length ≤ 100000) (h : sizR xs = (n, k)) :
    Calls Try.prog 27 #[.slice A xs.length c] w fun e w' => e = .returned (.tuple #[.int .i64 n, .int .i64 k]) ∧ Below w.heap.size w w' := by
  obtain ⟨ys, k', hE⟩ : ∃ ys k', expR xs = (ys, k') := ⟨_, _, rfl⟩
  have hn : (ys.length : Int) = n ∧ k' = k := by
    unfold sizR at h
    unfold expR at hE
    cases hT : tokensM (xs.length + 1) xs 0 [] with
    | error k2 => rw [hT] at h hE; cases h; cases hE; simp
    | ok tp =>
      obtain ⟨ts, p⟩ := tp
      rw [hT] at h hE
      cases h
      cases hE
      obtain ⟨s1, s2, s3, s4⟩ := toks_small hT hb
      exact ⟨data_small s4, rfl⟩
  obtain ⟨hn, rfl⟩ := hn
  have H := Lib.hid (RExpand_all A c xs ys k' w hr hb hsz hE)
  have HN := Lib.hid hn
  clear h hr hb hE hn
  go_enter Try.func27, Try.ntmps27
  go_wp2_with (go_at_call 25; refine H.out.mono ?_; rintro e w1 ⟨A', c', rfl, -, hB⟩)
  go_ret2
  exact ⟨by rw [HN.out]; rfl, hB⟩

set_option maxRecDepth 100000 in
set_option maxHeartbeats 4000000 in
theorem law_PressExpands (A : Option Addr) (c : Nat) (xs : List Int) (A' : Option Addr) (c' : Nat) (l : List Tok) (w : World) (hR : Rd w .u8 A xs.length xs) (hA : ∀ ad, A = some ad → ad.block < w.heap.size) (hBy : Bytes xs) (hbc : xs.length ≤ c)
    (hRT : RdT w A' l.length l) (hA' : ∀ ad, A' = some ad → ad.block < w.heap.size) (hBl : ∀ t ∈ l, (0 ≤ t.byte ∧ t.byte ≤ 255) ∧ (-9223372036854775808 ≤ t.back ∧ t.back ≤ 9223372036854775807) ∧ (-9223372036854775808 ≤ t.many ∧ t.many ≤ 9223372036854775807)) (hlc : l.length ≤ c') :
    Calls Try.prog 5 #[.slice A xs.length c, .slice A' l.length c'] w fun e W' => e = .returned (.bool true) ∧ Below w.heap.size w W' := by
  have HR := Lib.hid hR
  have HT := Lib.hid hRT
  have HBy := Lib.hid hBy
  have HBC := Lib.hid hbc
  clear hR hA hBy hRT hA' hBl hbc hlc
  obtain ⟨n, hn⟩ : ∃ n, w.heap.size = n := ⟨_, rfl⟩
  rw [hn]
  have HN := Lib.hid (Nat.le_of_eq hn.symm)
  have HN2 := Lib.hid hn
  clear hn
  by_cases h1 : 3000 < xs.length ∨ 3000 < l.length
  · have hd : (decide ((3000 : Int) < xs.length) || decide ((3000 : Int) < l.length)) = true := by simp; omega
    by_cases h2 : 3000 < xs.length
    · go_enter Try.func5, Try.ntmps5
      go_wp2_with (go_at_call 13; refine (sane_any _).mono ?_; rintro e w1 ⟨rfl, hB⟩)
      go_ret
      exact ⟨rfl, by rw [← HN2.out]; exact hB⟩
    · have h3 : 3000 < l.length := by omega
      go_enter Try.func5, Try.ntmps5
      go_wp2_with (go_at_call 13; refine (sane_any _).mono ?_; rintro e w1 ⟨rfl, hB⟩)
      go_ret
      exact ⟨rfl, by rw [← HN2.out]; exact hB⟩
  · have h2 : ¬ 3000 < xs.length := by omega
    have h3 : ¬ 3000 < l.length := by omega
    obtain ⟨ts, k1, hT⟩ : ∃ ts k1, tokR xs = (ts, k1) := ⟨_, _, rfl⟩
    obtain ⟨ys, k2, hP⟩ : ∃ ys k2, bldR l = (ys, k2) := ⟨_, _, rfl⟩
    obtain ⟨zs, k3, hE⟩ : ∃ zs k3, expR xs = (zs, k3) := ⟨_, _, rfl⟩
    obtain ⟨m, k4, hS⟩ : ∃ m k4, sizR xs = (m, k4) := ⟨_, _, rfl⟩
    have HTo := Lib.hid hT
    have HPo := Lib.hid hP
    have HEo := Lib.hid hE
    have HSo := Lib.hid hS
    clear h1 hT hP hE hS
    go_enter Try.func5, Try.ntmps5
    go_wp2_with (first
      | ((have hgd := HB9); clear hgd; go_at_call 13; refine (sane_any _).mono ?_; rintro e w10 ⟨rfl, hB⟩; (have HB10 := Lib.hid (below_then HB9.out (Nat.le_trans HN.out HB9.out.size) hB)); (have j1 := (HR6.out.below hB).str2 (c := c6)); (have j2 := (HR7.out.below hB).str2 (c := c7)); generalize strOfNums zs = sz at j1 j2; clear hB)
      | (go_at_call 27; refine (RSize_all A c xs m k4 _ (HR.out.below (by rw [HN2.out]; exact HB8.out)) HBy.out (by omega) HSo.out).mono ?_; rintro e w9 ⟨rfl, hB⟩; (have HB9 := Lib.hid (below_then HB8.out (Nat.le_trans HN.out HB8.out.size) hB)); (have HR6 := Lib.hid (HR6.out.below hB)); (have HR7 := Lib.hid (HR7.out.below hB)); clear hB)
      | (go_at_call 26; refine (Size_all A c xs m k4 _ HBC.out (HR.out.below (by rw [HN2.out]; exact HB7.out)) HBy.out (by omega) HSo.out).mono ?_; rintro e w8 ⟨rfl, hB⟩; (have HB8 := Lib.hid (below_then HB7.out (Nat.le_trans HN.out HB7.out.size) hB)); (have HR6 := Lib.hid (HR6.out.below hB)); (have HR7 := Lib.hid (HR7.out.below hB)); clear hB)
      | (go_at_call 25; refine (RExpand_all A c xs zs k3 _ (HR.out.below (by rw [HN2.out]; exact HB6.out)) HBy.out (by omega) HEo.out).mono ?_; rintro e w7 ⟨A7, c7, rfl, hR7, hB⟩; (have HR7 := Lib.hid hR7); (have HR6 := Lib.hid (HR6.out.below hB)); (have HB7 := Lib.hid (below_then HB6.out (Nat.le_trans HN.out HB6.out.size) hB)); clear hB hR7)
      | (go_at_call 24; refine (Expand_all A c xs zs k3 _ HBC.out (HR.out.below (by rw [HN2.out]; exact HB5.out)) HBy.out (by omega) HEo.out).mono ?_; rintro e w6 ⟨A6, c6, rfl, hR6, hB⟩; (have HR6 := Lib.hid hR6); (have HB6 := Lib.hid (below_then HB5.out (Nat.le_trans HN.out HB5.out.size) hB)); clear hB hR6)
      | (go_at_call 23; refine (Same_refl A1 A2 c1 c2 ts _ HT1.out HT2.out).mono ?_; rintro e w5 ⟨rfl, hD⟩; (have HB5 := Lib.hid (below_drawn HB4.out hD)); (have j3 := (HR3.out.below (drawn_below hD)).str2 (c := c3)); (have j4 := (HR4.out.below (drawn_below hD)).str2 (c := c4)); generalize strOfNums ys = sy at j3 j4; clear hD)
      | (go_at_call 22; refine (RBuild_all A' c' l ys k2 _ (HT.out.below (by rw [HN2.out]; exact HB3.out)) (by omega) HPo.out).mono ?_; rintro e w4 ⟨A4, c4, rfl, hR4, hB⟩; (have HR4 := Lib.hid hR4); (have HR3 := Lib.hid (HR3.out.below hB)); (have HT1 := Lib.hid (HT1.out.below hB)); (have HT2 := Lib.hid (HT2.out.below hB)); (have HB4 := Lib.hid (below_then HB3.out (Nat.le_trans HN.out HB3.out.size) hB)); clear hB hR4)
      | (go_at_call 21; refine (Build_all A' c' l ys k2 _ (HT.out.below (by rw [HN2.out]; exact HB2.out)) (by omega) HPo.out).mono ?_; rintro e w3 ⟨A3, c3, rfl, hR3, hB⟩; (have HR3 := Lib.hid hR3); (have HT1 := Lib.hid (HT1.out.below hB)); (have HT2 := Lib.hid (HT2.out.below hB)); (have HB3 := Lib.hid (below_then HB2.out (Nat.le_trans HN.out HB2.out.size) hB)); clear hB hR3)
      | (go_at_call 20; refine (RTokens_all A c xs ts k1 _ (HR.out.below (by rw [HN2.out]; exact HB1.out)) HBy.out (by omega) HTo.out).mono ?_; rintro e w2 ⟨A2, c2, rfl, hT2, hB⟩; (have HT2 := Lib.hid hT2); (have HT1 := Lib.hid (HT1.out.below hB)); (have HB2 := Lib.hid (below_then HB1.out (Nat.le_trans HN.out HB1.out.size) hB)); clear hB hT2)
      | (go_at_call 19; refine (Tokens_all A c xs ts k1 _ HBC.out HR.out HBy.out (by omega) HTo.out).mono ?_; rintro e w1 ⟨A1, c1, rfl, hT1, hB⟩; rw [HN2.out] at hB; (have HT1 := Lib.hid hT1); (have HB1 := Lib.hid hB); clear hB hT1))
    go_ret
    exact ⟨rfl, HB10.out⟩
end Go.Proofs.Ytmlgjilflpdffaa
