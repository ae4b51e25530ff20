/- Walks: proper. -/
import Derived.Test.YtibohhiebejbmaaPAllocActsx0
import Derived.Test.YtibohhiebejbmaaGe
import Derived.StillTail
import Derived.StillTactics
namespace Go.Proofs.Ytibohhiebejbmaa
open Go.RowKit Go.Deep Go.Shelf Go.Proofs.YtibohhiebejbmaaW.PrintWords
open Go.Proofs.Ytibohhiebejbmaa.PAllocActs (S56 k56 rd_T56 at_T56 z56)
set_option linter.unusedVariables false
set_option linter.unusedSimpArgs false
set_option maxRecDepth 100000

/-- Pages are met, none of which was. -/
def innerP : List Bool → Nat → Nat → Option (List Bool)
  | met, _, 0 => some met
  | met, p, m + 1 => if met.getD p false then none else innerP (met.set p true) (p + 1) m
/-- Is an extent one of n pages? -/
def inRange (n : Nat) (x : S56) : Bool := decide (1 ≤ x.f1 ∧ 3 ≤ x.f0 ∧ x.f0 < n ∧ x.f1 ≤ n - x.f0)
/-- Is the rest of a list proper, behind pages that were met? -/
def properF (n : Nat) : List Bool → List S56 → Bool
  | _, [] => true
  | met, x :: t => if inRange n x then (match innerP met x.f0.toNat x.f1.toNat with | none => false | some met' => properF n met' t) else false
def properM (n : Nat) (l : List S56) : Bool := if l.length ≤ n then properF n (List.replicate n false) l else false
theorem drop_rd {l : List S56} {i : Nat} (h : i < l.length) : l.drop i = rd_T56 l i :: l.drop (i + 1) := by
  rw [List.drop_eq_getElem_cons h]
  unfold rd_T56
  simp [List.getD_eq_getElem?_getD, List.getElem?_eq_getElem h]
/-- How a function that gives up or not ends. -/
def endsOk (r : Bool) (e : Int) : Ending := if r then .returned (.tuple #[]) else gaveUp e
theorem inner_free {met : List Bool} {p m : Nat} (h : met.getD p false = false) (hm : 0 < m) : innerP met p m = innerP (met.set p true) (p + 1) (m - 1) := by
  obtain ⟨k, rfl⟩ : ∃ k, m = k + 1 := ⟨m - 1, by omega⟩
  show (if met.getD p false then none else innerP (met.set p true) (p + 1) k) = _
  rw [h]; rfl
theorem inner_met {met : List Bool} {p m : Nat} (h : met.getD p false = true) (hm : 0 < m) : innerP met p m = none := by
  obtain ⟨k, rfl⟩ : ∃ k, m = k + 1 := ⟨m - 1, by omega⟩
  show (if met.getD p false then none else innerP (met.set p true) (p + 1) k) = _
  rw [h]; rfl

set_option maxHeartbeats 8000000 in
theorem proper_any (R U n G : Nat) (tx : Value) (us : List Bool) (A : Option Addr) (c : Nat) (l : List S56) (r : Bool) (w : World) (h : Rm w R U n G tx us) (hn : n ≤ 1000000) (hl : Kd.C k56 w A l.length l) (hc : l.length ≤ c) (hr : properM n l = r) :
    Calls Try.prog 76 #[.pointer (some ⟨R, 0, none⟩), .slice A l.length c] w fun e w' => e = endsOk r 1 ∧ Below w.heap.size w w' := by
  obtain ⟨i4, h4i, h4z, h41, h4b⟩ := info_parts info4
  have c0 := h.obj.cell (j := 2) rfl
  have HI : Hid (∀ W, Below w.heap.size w W → Kd.C k56 W A l.length l) := Lib.hid fun W hb => Kd.C_below hl hb
  obtain ⟨ll, hll⟩ : ∃ ll, l.length = ll := ⟨_, rfl⟩
  have HLL := Lib.hid hll
  have HR := Lib.hid hr
  rw [hll] at hc HI ⊢
  clear h hl hr
  by_cases hle : ll ≤ n
  · have hlei : (ll : Int) ≤ (n : Int) := by omega
    have HR2 : Hid (properF n (List.replicate n false) (l.drop 0) = r) := Lib.hid (by have h9 := HR.out; unfold properM at h9; rw [if_pos (by rw [hll]; exact hle)] at h9; exact h9)
    clear hll HR
    go_enter Try.func76, Try.ntmps76
    go_upto_region 3 with (first
      | (go_at_call 57; refine (need_ok 1 _).mono ?_; rintro e w1 ⟨rfl, hw9⟩; (have hw8 := hw9.symm); subst hw8; clear hw9)
      | (refine wpList_make_full _ rfl _ _ 28 rfl w.heap.size 4 i4 _ 1 Try.underlying28 h4i h4z h41 .i64 .i64 _ _ n rfl rfl (by omega) (by omega) (by rw [h4b]; omega) (by simp only [maxLen]; omega) (Nat.le_refl _) ?_; intro w4 hown4 hgrow4; (have HO4 := Lib.hid hown4); (have HB4 := Lib.hid ((Below.refl w.heap.size w).grown hgrow4 (Nat.le_refl _) (fun k e => by cases e))); clear hown4 hgrow4))
    have hown := HO4.out
    rw [Nat.mul_one, show (Value.bool false).cells = #[.bool false] from rfl, toList_madeCells_one] at hown
    obtain ⟨hb4, -⟩ := Blk.of_own hown
    have hbl : boolsV (List.replicate n false) = List.replicate n (.bool false) := by simp [boolsV]
    rw [← hbl] at hb4
    obtain ⟨B, hB⟩ : ∃ B, w.heap.size = B := ⟨_, rfl⟩
    have HB := Lib.hid hB
    rw [hB] at hb4 ⊢
    have HM4 := Lib.hid hb4
    clear hown hb4 hbl HO4 hB h4i h4z h41 h4b c0
    go_wp2
    go_loopg [23] (ll + 1) (fun kq v W => ∃ (i : Nat) (met : List Bool), v = .int .i64 i ∧ i ≤ ll ∧ ll - i < kq ∧ Hid (Blk W B (boolsV met) 4) ∧ Hid (met.length = n) ∧ Hid (Below w.heap.size w W) ∧ Hid (properF n met (l.drop i) = r))
    case atStart => exact ⟨0, List.replicate n false, by simp, by omega, by omega, HM4, Lib.hid (by simp), HB4, HR2⟩
    case round =>
      clear HM4 HB4 HR2
      obtain ⟨i, met, rfl, hi, hkq, HM, HL, HBW, HF⟩ := hrel
      by_cases hlt : i < ll
      · have hlti : (i : Int) < (ll : Int) := by omega
        obtain ⟨ad, ea, hx0, hx1⟩ := at_T56 (HI.out _ HBW.out) (i : Int) (by omega) hlti
        cases ea
        rw [show ((i : Nat) : Int).toNat = i from rfl] at hx0 hx1
        have hdr := drop_rd (l := l) (i := i) (by rw [HLL.out]; exact hlt)
        obtain ⟨⟨f0, f1⟩, hx⟩ : ∃ x, rd_T56 l i = x := ⟨_, rfl⟩
        rw [hx] at hx0 hx1 hdr
        simp only at hx0 hx1
        have HF2 : Hid (properF n met (⟨f0, f1⟩ :: l.drop (i + 1)) = r) := Lib.hid (by rw [← hdr]; exact HF.out)
        clear hx hdr HF
        have HNO : Hid (¬ (1 ≤ f1 ∧ 3 ≤ f0 ∧ f0 < n ∧ f1 ≤ n - f0) → r = false) := Lib.hid (by
          intro h8
          have h9 := HF2.out
          unfold properF at h9
          rw [show inRange n ⟨f0, f1⟩ = false from decide_eq_false h8] at h9
          simpa using h9.symm)
        by_cases g1 : 1 ≤ f1
        · by_cases g2 : 3 ≤ f0
          · by_cases g3 : f0 < n
            · have hwr : IntKind.i64.wrap ((n : Int) - f0) = (n : Int) - f0 := IntWalk.i64_in _ (by omega)
              by_cases g4 : f1 ≤ (n : Int) - f0
              · obtain ⟨p, rfl⟩ : ∃ p : Nat, f0 = p := ⟨f0.toNat, by omega⟩
                obtain ⟨m, rfl⟩ : ∃ m : Nat, f1 = m := ⟨f1.toNat, by omega⟩
                have HF3 : Hid ((match innerP met p m with | none => false | some met' => properF n met' (l.drop (i + 1))) = r) := Lib.hid (by
                  have h9 := HF2.out
                  unfold properF at h9
                  rw [show inRange n ⟨(p : Int), (m : Int)⟩ = true from decide_eq_true ⟨g1, g2, g3, g4⟩, if_pos rfl] at h9
                  exact h9)
                clear HF2 HNO
                go_upto_region 7 with (go_at_call 57; refine (need_ok 1 _).mono ?_; rintro e w9 ⟨rfl, hw9⟩; (have hw8 := hw9.symm); subst hw8; clear hw9)
                obtain ⟨X, hX⟩ : ∃ X, wr.heap.size = X := ⟨_, rfl⟩
                obtain ⟨W5, hW5⟩ : ∃ W5, wr.alloc (.cells #[.int .i64 p, .int .i64 m] 56) = W5 := ⟨_, rfl⟩
                have HX5 : Hid (Blk W5 X [.int .i64 p, .int .i64 m] 56) := Lib.hid (by rw [← hW5, ← hX]; exact Blk.new wr [.int .i64 p, .int .i64 m] 56)
                have HM5 : Hid (Blk W5 B (boolsV met) 4) := Lib.hid (by rw [← hW5]; exact HM.out.alloc _)
                have HB5 : Hid (Below w.heap.size w W5) := Lib.hid (by rw [← hW5]; exact below_al HBW.out _)
                have HF5 : Hid ((match innerP met (p + 0) (m - 0) with | none => false | some met' => properF n met' (l.drop (i + 1))) = r) := Lib.hid HF3.out
                have c0 := HX5.out.cell (j := 1) rfl
                try rw [hX]
                rw [hW5]
                clear hX hW5 HBW HM HF3 hx0 hx1 hwr
                go_wp2
                clear c0
                go_loopg [53] (m + 1) (fun kq v W => ∃ (k : Nat) (met' : List Bool), v = .int .i64 k ∧ k ≤ m ∧ m - k < kq ∧ Hid (Blk W X [.int .i64 p, .int .i64 m] 56) ∧ Hid (Blk W B (boolsV met') 4) ∧ Hid (met'.length = n) ∧ Hid (Below w.heap.size w W) ∧
                  Hid ((match innerP met' (p + k) (m - k) with | none => false | some met' => properF n met' (l.drop (i + 1))) = r))
                case atStart => exact ⟨0, met, by simp, by omega, by omega, HX5, HM5, HL, HB5, HF5⟩
                case round =>
                  clear HX5 HM5 HB5 HF5 HL
                  obtain ⟨k, met', rfl, hk, hkq2, HX, HM, HL, HBW, HF⟩ := hrel
                  by_cases hlt2 : k < m
                  · have hlti2 : (k : Int) < (m : Int) := by omega
                    obtain ⟨q, hq⟩ : ∃ q, p + k = q := ⟨_, rfl⟩
                    have hwq : IntKind.i64.wrap ((p : Int) + (k : Int)) = (q : Int) := i64_is (by omega) (by omega)
                    have hqi : (q : Int) < n := by omega
                    have c0 := HX.out.cell (j := 0) rfl
                    have c2 := HM.out.cell (j := q) (boolsV_get (by rw [HL.out]; omega))
                    have f2 := HM.out.fz
                    have hBX : B ≠ X := HM.out.ne HX.out (by decide)
                    obtain ⟨y, hy⟩ : ∃ y, met'.getD q false = y := ⟨_, rfl⟩
                    rw [hy] at c2
                    have HQ := Lib.hid hq
                    cases y with
                    | true =>
                      have hrf : r = false := by
                        have h9 := HF.out
                        rw [hq, inner_met hy (by omega)] at h9
                        exact h9.symm
                      clear hy hq
                      go_wp2_with (go_at_call 57; refine (need_is _ rfl 1 _).mono ?_; rintro e w9 ⟨rfl, hw9⟩; (have hw8 := hw9.symm); subst hw8; clear hw9; simp only [gaveUp])
                      exact ⟨rfl, (by first | rfl | (rw [hrf]; rfl)), HBW.out⟩
                    | false =>
                      have HF2 : Hid ((match innerP (met'.set q true) (p + (k + 1)) (m - (k + 1)) with | none => false | some met' => properF n met' (l.drop (i + 1))) = r) := Lib.hid (by
                        have h9 := HF.out
                        rw [hq, inner_free hy (by omega)] at h9
                        rw [show p + (k + 1) = q + 1 by omega, show m - (k + 1) = m - k - 1 by omega]
                        exact h9)
                      clear hy hq
                      go_wp2_with (go_at_call 57; refine (need_ok 1 _).mono ?_; rintro e w9 ⟨rfl, hw9⟩; (have hw8 := hw9.symm); subst hw8; clear hw9)
                      obtain ⟨W9, hW9⟩ : ∃ W9, wr.setCell ⟨B, q, none⟩ (.bool true) = W9 := ⟨_, rfl⟩
                      have a1 : Blk W9 X [.int .i64 p, .int .i64 m] 56 := by rw [← hW9]; exact HX.out.far (Ne.symm hBX) _
                      have a2 : Blk W9 B (boolsV (met'.set q true)) 4 := by rw [← hW9, ← boolsV_set]; exact HM.out.set q _
                      have a3 : Below w.heap.size w W9 := by rw [← hW9]; exact below_st HBW.out (by rw [HB.out]; exact Nat.le_refl _)
                      rw [hW9]
                      go_roundg (m - k)
                      case measure => omega
                      case rel => exact ⟨k + 1, met'.set q true, by simp, by omega, by omega, Lib.hid a1, Lib.hid a2, Lib.hid (by rw [List.length_set]; exact HL.out), Lib.hid a3, HF2⟩
                  · have hke : k = m := by omega
                    have hlti2 : ¬ (k : Int) < (m : Int) := by omega
                    have HF2 : Hid (properF n met' (l.drop (i + 1)) = r) := Lib.hid (by
                      have h9 := HF.out
                      rw [hke, Nat.sub_self] at h9
                      exact h9)
                    clear hke
                    go_wp2
                    go_roundg (ll - i)
                    case measure => omega
                    case rel => exact ⟨i + 1, met', by simp, by omega, by omega, HM, HL, HBW, HF2⟩
              · clear HF2
                have hrf := HNO.out (by omega)
                go_wp2_with (go_at_call 57; refine (need_is _ (by simp <;> omega) 1 _).mono ?_; rintro e w9 ⟨rfl, hw9⟩; (have hw8 := hw9.symm); subst hw8; clear hw9; simp only [gaveUp])
                exact ⟨rfl, (by first | rfl | (rw [hrf]; rfl)), below_al HBW.out _⟩
            · clear HF2
              have hrf := HNO.out (by omega)
              go_wp2_with (go_at_call 57; refine (need_is _ (by simp <;> omega) 1 _).mono ?_; rintro e w9 ⟨rfl, hw9⟩; (have hw8 := hw9.symm); subst hw8; clear hw9; simp only [gaveUp])
              exact ⟨rfl, (by first | rfl | (rw [hrf]; rfl)), below_al HBW.out _⟩
          · clear HF2
            have hrf := HNO.out (by omega)
            go_wp2_with (go_at_call 57; refine (need_is _ (by simp <;> omega) 1 _).mono ?_; rintro e w9 ⟨rfl, hw9⟩; (have hw8 := hw9.symm); subst hw8; clear hw9; simp only [gaveUp])
            exact ⟨rfl, (by first | rfl | (rw [hrf]; rfl)), below_al HBW.out _⟩
        · clear HF2
          have hrf := HNO.out (by omega)
          go_wp2_with (go_at_call 57; refine (need_is _ (by simp <;> omega) 1 _).mono ?_; rintro e w9 ⟨rfl, hw9⟩; (have hw8 := hw9.symm); subst hw8; clear hw9; simp only [gaveUp])
          exact ⟨rfl, (by first | rfl | (rw [hrf]; rfl)), below_al HBW.out _⟩
      · have hie : i = ll := by omega
        have hlti : ¬ (i : Int) < (ll : Int) := by omega
        have hrt : r = true := by
          have h9 := HF.out
          rw [hie, ← HLL.out, List.drop_length] at h9
          exact h9.symm
        clear hie
        go_wp2
        go_end0
        exact ⟨(by first | rfl | (rw [hrt]; rfl)), HBW.out⟩
  · have hlei : ¬ (ll : Int) ≤ (n : Int) := by omega
    have hrf : r = false := by have h9 := HR.out; unfold properM at h9; rw [if_neg (by rw [hll]; exact hle)] at h9; exact h9.symm
    clear hll HR hle
    go_enter Try.func76, Try.ntmps76
    go_wp2_with (go_at_call 57; refine (need_is _ (by simp <;> omega) 1 _).mono ?_; rintro e w9 ⟨rfl, hw9⟩; (have hw8 := hw9.symm); subst hw8; clear hw9; simp only [gaveUp])
    exact ⟨rfl, (by first | rfl | (rw [hrf]; rfl)), Below.refl _ _⟩
end Go.Proofs.Ytibohhiebejbmaa
/- Walks: change. -/
namespace Go.Proofs.Ytibohhiebejbmaa
open Go.RowKit Go.Deep Go.Shelf Go.Proofs.YtibohhiebejbmaaW.PrintWords
open Go.Proofs.Ytibohhiebejbmaa.PAllocActs (S56 k56 rd_T56 at_T56 z56)
set_option linter.unusedVariables false
set_option linter.unusedSimpArgs false
set_option maxRecDepth 100000

theorem need_yes (b : Bool) (hb : b = true) (e : Int) (w : World) : Calls Try.prog 57 #[.bool b, .int .i64 e] w fun x w' => x = .returned (.tuple #[]) ∧ w' = w := by
  subst hb
  exact need_ok e w
/-- Are some pages not u? -/
def freeR (us : List Bool) (u : Bool) : Nat → Nat → Bool
  | _, 0 => true
  | p, m + 1 => (us.getD p false != u) && freeR us u (p + 1) m
/-- Are all pages of a list not u? -/
def allF (us : List Bool) (u : Bool) : List S56 → Bool
  | [] => true
  | x :: t => freeR us u x.f0.toNat x.f1.toNat && allF us u t
/-- The pages of a list are made u. -/
def putM (us : List Bool) (u : Bool) : List S56 → List Bool
  | [] => us
  | x :: t => putM (setR us x.f0.toNat x.f1.toNat u) u t
theorem proper_each {n : Nat} : ∀ (l : List S56) (met : List Bool), properF n met l = true → ∀ x ∈ l, inRange n x = true
  | [], met, h, x, hx => by cases hx
  | y :: t, met, h, x, hx => by
    unfold properF at h
    cases hy : inRange n y with
    | false => rw [hy] at h; simp at h
    | true =>
      rw [hy, if_pos rfl] at h
      cases hi : innerP met y.f0.toNat y.f1.toNat with
      | none => rw [hi] at h; simp at h
      | some met' =>
        rw [hi] at h
        rcases List.mem_cons.1 hx with rfl | hx
        · exact hy
        · exact proper_each t met' h x hx
theorem properM_each {n : Nat} {l : List S56} (h : properM n l = true) : l.length ≤ n ∧ ∀ x ∈ l, ∃ p m : Nat, x.f0 = p ∧ x.f1 = m ∧ 3 ≤ p ∧ 1 ≤ m ∧ p + m ≤ n := by
  unfold properM at h
  split at h
  · rename_i hle
    refine ⟨hle, fun x hx => ?_⟩
    have h1 := of_decide_eq_true (proper_each l _ h x hx)
    exact ⟨x.f0.toNat, x.f1.toNat, by omega, by omega, by omega, by omega, by omega⟩
  · cases h
theorem below_less {B B' : Nat} {w w' : World} (h : Below B w w') (hb : B' ≤ B) : Below B' w w' := ⟨h.os, h.tape, h.output, h.size, fun i hi => h.block i (Nat.lt_of_lt_of_le hi hb)⟩
theorem rd_mem {l : List S56} {i : Nat} (h : i < l.length) : rd_T56 l i ∈ l := by
  unfold rd_T56
  rw [List.getD_eq_getElem?_getD, show ((i : Nat) : Int).toNat = i from rfl, List.getElem?_eq_getElem h]
  exact List.getElem_mem _
theorem putM_len : ∀ (l : List S56) (us : List Bool) (u : Bool), (putM us u l).length = us.length
  | [], us, u => rfl
  | x :: t, us, u => (putM_len t _ u).trans (setR_len _ _ _ _)

theorem proper_at {ll : Nat} (R U n G : Nat) (tx : Value) (us : List Bool) (A : Option Addr) (c : Nat) (l : List S56) (hll : l.length = ll) (r : Bool) (w : World) (h : Rm w R U n G tx us) (hn : n ≤ 1000000) (hl : Kd.C k56 w A ll l) (hc : ll ≤ c) (hr : properM n l = r) :
    Calls Try.prog 76 #[.pointer (some ⟨R, 0, none⟩), .slice A ll c] w fun e w' => e = endsOk r 1 ∧ Below w.heap.size w w' := by
  subst hll
  exact proper_any R U n G tx us A c l r w h hn hl hc hr
set_option maxHeartbeats 800000 in
theorem change_no (R U n G : Nat) (tx : Value) (us : List Bool) (A : Option Addr) (c : Nat) (l : List S56) (u : Bool) (er : Int) (w : World) (h : Rm w R U n G tx us) (hn : n ≤ 1000000) (hl : Kd.C k56 w A l.length l) (hc : l.length ≤ c) (hr : properM n l = false) :
    Calls Try.prog 50 #[.pointer (some ⟨R, 0, none⟩), .slice A l.length c, .bool u, .int .i64 er] w fun e w' => e = gaveUp 1 ∧ Below w.heap.size w w' := by
  have H := Lib.hid h
  have HL := Lib.hid hl
  have HC := Lib.hid hc
  have HR := Lib.hid hr
  clear h hl hc hr
  go_enter Try.func50, Try.ntmps50
  go_wp2_with (go_at_call 76; refine (proper_any R U n G tx us A c l false _ H.out hn HL.out HC.out HR.out).mono ?_; rintro e w1 ⟨rfl, hB⟩; (have HB := Lib.hid hB); clear hB; simp only [endsOk, gaveUp, Bool.false_eq_true, if_false])
  exact ⟨rfl, rfl, HB.out⟩

set_option maxHeartbeats 2000000 in
theorem change_ok (R U n G A0 s0 : Nat) (tx : Value) (us : List Bool) (b : List Int) (A : Option Addr) (c : Nat) (l : List S56) (u : Bool) (er : Int) (r : Bool) (w : World) (h : Rm w R U n G tx us) (hn1 : 1 < n) (hn : n ≤ 3744)
    (hs0 : s0 ≤ w.heap.size) (hU : s0 ≤ U) (hl : ∀ W, Below s0 w W → Kd.C k56 W A l.length l) (hS : ∀ W, Below s0 w W → Sp W G A0 n b) (hc : l.length ≤ c) (hr : properM n l = true) (hr2 : allF us u l = r) :
    Calls Try.prog 50 #[.pointer (some ⟨R, 0, none⟩), .slice A l.length c, .bool u, .int .i64 er] w fun e w' =>
      (r = false ∧ e = gaveUp er ∧ Below s0 w w') ∨ (r = true ∧ e = .returned (.tuple #[]) ∧ Sp w' G A0 n (bodyM (putM us u l)) ∧ ∃ W, Below s0 w W ∧ W.grownBy w' (some A0)) := by
  obtain ⟨hle, hea⟩ := properM_each hr
  obtain ⟨ll, hll⟩ : ∃ ll, l.length = ll := ⟨_, rfl⟩
  rw [hll] at hc hl hle ⊢
  have HP := Lib.hid hr
  have HL0 := Lib.hid (hl w (Below.refl _ _))
  have HC := Lib.hid hc
  have HLL := Lib.hid hll
  have HI := Lib.hid hl
  have HS := Lib.hid hS
  have H := Lib.hid h
  have HEA := Lib.hid hea
  have HR0 : Hid (allF us u (l.drop 0) = r) := Lib.hid hr2
  have hln : ll ≤ n := by omega
  clear hr hc hl hS h hea hr2 hle hll
  go_enter Try.func50, Try.ntmps50
  go_upto_region 1 with (go_at_call 76; refine (proper_at R U n G tx us A c l HLL.out true _ H.out (by omega) HL0.out HC.out HP.out).mono ?_; rintro e w1 ⟨rfl, hB⟩; (have HB1 := Lib.hid (below_less hB hs0)); (have HRm := Lib.hid (H.out.on hB)); (have hsz := Nat.le_trans hs0 hB.size); clear hB; simp only [endsOk, if_true])
  go_wp2
  go_loopg [18] (ll + 1) (fun kq v W => ∃ i : Nat, v = .int .i64 i ∧ i ≤ ll ∧ ll - i < kq ∧ Hid (Below w1.heap.size w1 W) ∧ Hid (allF us u (l.drop i) = r))
  case atStart => exact ⟨0, by simp, by omega, by omega, Lib.hid (Below.refl _ _), HR0⟩
  case round =>
    clear HR0
    obtain ⟨i, rfl, hi, hkq, HBW, HF⟩ := hrel
    have HBs : Hid (Below s0 w wr) := Lib.hid (below_then HB1.out hsz HBW.out)
    by_cases hlt : i < ll
    · have hlti : (i : Int) < (ll : Int) := by omega
      obtain ⟨ad, ea, hx0, hx1⟩ := at_T56 (HI.out _ HBs.out) (i : Int) (by omega) hlti
      cases ea
      rw [show ((i : Nat) : Int).toNat = i from rfl] at hx0 hx1
      have hdr := drop_rd (l := l) (i := i) (by rw [HLL.out]; exact hlt)
      obtain ⟨p, m, hp0, hm0, hp3, hm1, hpm⟩ := HEA.out _ (rd_mem (l := l) (i := i) (by rw [HLL.out]; exact hlt))
      obtain ⟨⟨f0, f1⟩, hx⟩ : ∃ x, rd_T56 l i = x := ⟨_, rfl⟩
      rw [hx] at hx0 hx1 hdr hp0 hm0
      simp only at hx0 hx1 hp0 hm0
      subst hp0
      subst hm0
      have HF2 : Hid ((freeR us u (p + 0) (m - 0) && allF us u (l.drop (i + 1))) = r) := Lib.hid (by have h9 := HF.out; rw [hdr] at h9; exact h9)
      clear hx hdr HF
      go_upto_region 4 with (fail)
      obtain ⟨X, hX⟩ : ∃ X, wr.heap.size = X := ⟨_, rfl⟩
      obtain ⟨W5, hW5⟩ : ∃ W5, wr.alloc (.cells #[.int .i64 p, .int .i64 m] 56) = W5 := ⟨_, rfl⟩
      have HX5 : Hid (Blk W5 X [.int .i64 p, .int .i64 m] 56) := Lib.hid (by rw [← hW5, ← hX]; exact Blk.new wr [.int .i64 p, .int .i64 m] 56)
      have HB5 : Hid (Below w1.heap.size w1 W5) := Lib.hid (by rw [← hW5]; exact below_al HBW.out _)
      have c0 := HX5.out.cell (j := 1) rfl
      try rw [hX]
      rw [hW5]
      clear hX hW5 HBW HBs hx0 hx1
      go_wp2
      clear c0
      go_loopg [24] (m + 1) (fun kq v W => ∃ k : Nat, v = .int .i64 k ∧ k ≤ m ∧ m - k < kq ∧ Hid (Blk W X [.int .i64 p, .int .i64 m] 56) ∧ Hid (Below w1.heap.size w1 W) ∧ Hid ((freeR us u (p + k) (m - k) && allF us u (l.drop (i + 1))) = r))
      case atStart => exact ⟨0, by simp, by omega, by omega, HX5, HB5, HF2⟩
      case round =>
        clear HX5 HB5 HF2
        obtain ⟨k, rfl, hk, hkq2, HX, HBW, HF⟩ := hrel
        by_cases hlt2 : k < m
        · have hlti2 : (k : Int) < (m : Int) := by omega
          obtain ⟨q, hq⟩ : ∃ q, p + k = q := ⟨_, rfl⟩
          have hwq : IntKind.i64.wrap ((p : Int) + (k : Int)) = (q : Int) := i64_is (by omega) (by omega)
          have hqi : (q : Int) < n := by omega
          have HRd : Hid (Rm wr.drew R U n G tx us) := Lib.hid ((HRm.out.on HBW.out).on (below_drew1 (Below.refl _ _)))
          have HXd : Hid (Blk wr.drew X [.int .i64 p, .int .i64 m] 56) := Lib.hid HX.out.drew
          have HBd : Hid (Below w1.heap.size w1 wr.drew) := Lib.hid (below_drew1 HBW.out)
          obtain ⟨y, hy⟩ : ∃ y, us.getD q false = y := ⟨_, rfl⟩
          have HFS : Hid ((y != u && freeR us u (p + (k + 1)) (m - (k + 1)) && allF us u (l.drop (i + 1))) = r) := Lib.hid (by
            have h9 := HF.out
            rw [hq, show m - k = (m - (k + 1)) + 1 by omega] at h9
            unfold freeR at h9
            rw [hy, show q + 1 = p + (k + 1) by omega] at h9
            exact h9)
          have c0 := HXd.out.cell (j := 0) rfl
          have c1 := HRd.out.obj.cell (j := 2) rfl
          have c2 := HRd.out.row.cell (j := q) (boolsV_get (by rw [HRd.out.len]; omega))
          rw [hy] at c2
          have HQ := Lib.hid hq
          clear hy hq HF
          go_upto_region 7 with (fail)
          by_cases hyu : y = u
          · subst hyu
            have hrf : r = false := by have h9 := HFS.out; simpa using h9.symm
            obtain ⟨wd, hwd⟩ : ∃ wd, wr.drew = wd := ⟨_, rfl⟩
            refine wp_region_still_tail 13 (by kernel_rfl) (by kernel_rfl) ?_
            change wpStill _ _ wr.drew (fun a' => wpList _ _ _ _ a' wr.drew) _ _
            rw [hwd] at c0 c1 c2 HBd ⊢
            simp only [List.take_succ_cons, List.take_zero, List.drop_succ_cons, List.drop_zero]
            clear hwd HRd HXd
            repeat still_step
            refine wpStill_nil ?_
            go_wp2_with (go_at_call 57; refine (need_is _ (by simp) er _).mono ?_; rintro e w9 ⟨rfl, hw9⟩; (have hw8 := hw9.symm); subst hw8; clear hw9; simp only [gaveUp])
            exact ⟨rfl, Or.inl ⟨hrf, rfl, below_then HB1.out hsz HBd.out⟩⟩
          · have hyn : y = !u := by cases y <;> cases u <;> simp_all
            subst hyn
            have HF2 : Hid ((freeR us u (p + (k + 1)) (m - (k + 1)) && allF us u (l.drop (i + 1))) = r) := Lib.hid (by have h9 := HFS.out; cases u <;> simpa using h9)
            clear hyu c0 c1
            have c0 := HX.out.cell (j := 0) rfl
            have c1 := (HRm.out.on HBW.out).obj.cell (j := 2) rfl
            have c2 : wr.cell? ⟨U, q, none⟩ = some (.bool (!u)) := c2
            go_quiet ((go_at_call 57; exact Calls.quiet_of_same (need_yes _ (by cases u <;> simp) er _)))
            go_wp2
            go_roundg (m - k)
            case measure => omega
            case rel => exact ⟨k + 1, by simp, by omega, by omega, Lib.hid (HX.out.draw _), Lib.hid (below_drewN HBW.out _), HF2⟩
        · have hke : k = m := by omega
          have hlti2 : ¬ (k : Int) < (m : Int) := by omega
          have HF2 : Hid (allF us u (l.drop (i + 1)) = r) := Lib.hid (by
            have h9 := HF.out
            rw [hke, Nat.sub_self] at h9
            simpa [freeR] using h9)
          clear hke
          go_wp2
          go_roundg (ll - i)
          case measure => omega
          case rel => exact ⟨i + 1, by simp, by omega, by omega, HBW, HF2⟩
    · have hie : i = ll := by omega
      have hlti : ¬ (i : Int) < (ll : Int) := by omega
      have hrt : r = true := by
        have h9 := HF.out
        rw [hie, ← HLL.out, List.drop_length] at h9
        exact h9.symm
      have HRT := Lib.hid hrt
      have HRm2 := Lib.hid (HRm.out.on HBW.out)
      have hsz2 : s0 ≤ wr.heap.size := Nat.le_trans hsz HBW.out.size
      have HT : Hid (putM us u (l.drop 0) = putM us u l) := Lib.hid rfl
      clear hie hrt HF HRm HB1 hsz HBW
      go_wp2
      clear hi
      go_loopg [45] (ll + 1) (fun kq v W => ∃ (i : Nat) (us' : List Bool), v = .int .i64 i ∧ i ≤ ll ∧ ll - i < kq ∧ Hid (Rm W R U n G tx us') ∧ Hid (Below s0 w W) ∧ Hid (s0 ≤ W.heap.size) ∧ Hid (putM us' u (l.drop i) = putM us u l))
      case atStart => exact ⟨0, us, by simp, by omega, by omega, HRm2, HBs, Lib.hid hsz2, HT⟩
      case round =>
        clear HRm2 HBs hsz2 HT hlt hkq
        obtain ⟨i, us', rfl, hi, hkq, HRm, HBW, HSZ, HF⟩ := hrel
        by_cases hlt : i < ll
        · have hlti : (i : Int) < (ll : Int) := by omega
          obtain ⟨ad, ea, hx0, hx1⟩ := at_T56 (HI.out _ HBW.out) (i : Int) (by omega) hlti
          cases ea
          rw [show ((i : Nat) : Int).toNat = i from rfl] at hx0 hx1
          have hdr := drop_rd (l := l) (i := i) (by rw [HLL.out]; exact hlt)
          obtain ⟨p, m, hp0, hm0, hp3, hm1, hpm⟩ := HEA.out _ (rd_mem (l := l) (i := i) (by rw [HLL.out]; exact hlt))
          obtain ⟨⟨f0, f1⟩, hx⟩ : ∃ x, rd_T56 l i = x := ⟨_, rfl⟩
          rw [hx] at hx0 hx1 hdr hp0 hm0
          simp only at hx0 hx1 hp0 hm0
          subst hp0
          subst hm0
          have HF2 : Hid (putM (setR us' p m u) u (l.drop (i + 1)) = putM us u l) := Lib.hid (by have h9 := HF.out; rw [hdr] at h9; exact h9)
          have HRa := Lib.hid (HRm.out.on (one_alloc wr (.cells #[.int .i64 p, .int .i64 m] 56)))
          have HBa : Hid (Below s0 w (wr.alloc (.cells #[.int .i64 p, .int .i64 m] 56))) := Lib.hid (HBW.out.alloc HSZ.out _)
          clear hx hdr HF
          go_wp2_with (go_at_call 65; refine (set_any R U n G p m tx us' u _ HRa.out (by omega) hpm).mono ?_; rintro e w6 ⟨rfl, hRm6, hG6⟩; (have HR6 := Lib.hid hRm6); (have HG6 := Lib.hid hG6); clear hRm6 hG6)
          have hza : s0 ≤ (wr.alloc (.cells #[.int .i64 p, .int .i64 m] 56)).heap.size := by rw [World.size_alloc]; have := HSZ.out; omega
          have HB6 : Hid (Below s0 w w6) := Lib.hid (HBa.out.grown HG6.out hza (fun k e => by cases e; exact hU))
          go_roundg (ll - i)
          case measure => omega
          case rel => exact ⟨i + 1, setR us' p m u, by simp, by omega, by omega, HR6, HB6, Lib.hid (Nat.le_trans hza HG6.out.size), HF2⟩
        · have hie : i = ll := by omega
          have hlti : ¬ (i : Int) < (ll : Int) := by omega
          have HUS : Hid (us' = putM us u l) := Lib.hid (by
            have h9 := HF.out
            rw [hie, ← HLL.out, List.drop_length] at h9
            exact h9)
          clear hie HF
          have HSw := Lib.hid (HS.out wr HBW.out)
          go_wp2_with (go_at_call 45; refine (save_any R U n G A0 tx us' b _ HRm.out HSw.out hn1 hn).mono ?_; rintro e w7 ⟨rfl, hSp, hG⟩; (have HSp := Lib.hid hSp); (have HG7 := Lib.hid hG); clear hSp hG)
          go_end0
          exact Or.inr ⟨HRT.out, rfl, by rw [← HUS.out]; exact HSp.out, wr, HBW.out, HG7.out⟩
end Go.Proofs.Ytibohhiebejbmaa
