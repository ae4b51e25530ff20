/- Walks: open. -/
import Derived.Test.YtibohhiebejbmaaGb
namespace Go.Proofs.Ytibohhiebejbmaa
open Go.RowKit Go.Deep Go.Shelf
set_option linter.unusedVariables false
set_option linter.unusedSimpArgs false
set_option maxRecDepth 100000
attribute [local go_sem] Oper.semAt_some

/-- The cells that a bitmap's runs set. -/
def fillR (us : List Bool) (l : List (Nat × Nat)) : List Bool := l.foldl (fun us x => setR us x.1 x.2 true) us
theorem fillR_len : ∀ (l : List (Nat × Nat)) (us : List Bool), (fillR us l).length = us.length
  | [], _ => rfl
  | x :: t, us => (fillR_len t _).trans (setR_len _ _ _ _)
theorem fillR_get : ∀ (l : List (Nat × Nat)) (us : List Bool) (i : Nat), i < us.length → ((fillR us l).getD i false = true ↔ us.getD i false = true ∨ ∃ x ∈ l, x.1 ≤ i ∧ i < x.1 + x.2)
  | [], us, i, h => by simp [fillR]
  | x :: t, us, i, h => by
    rw [show fillR us (x :: t) = fillR (setR us x.1 x.2 true) t from rfl, fillR_get t _ i (by rw [setR_len]; exact h), setR_get h]
    by_cases hx : x.1 ≤ i ∧ i < x.1 + x.2
    · rw [if_pos hx]
      exact ⟨fun _ => Or.inr ⟨x, List.mem_cons_self, hx⟩, fun _ => Or.inl rfl⟩
    · rw [if_neg hx]
      constructor
      · rintro (h1 | ⟨y, hy, hyi⟩)
        · exact Or.inl h1
        · exact Or.inr ⟨y, List.mem_cons_of_mem _ hy, hyi⟩
      · rintro (h1 | ⟨y, hy, hyi⟩)
        · exact Or.inl h1
        · rcases List.mem_cons.1 hy with rfl | hy
          · exact absurd hyi hx
          · exact Or.inr ⟨y, hy, hyi⟩
/-- The table that open lays. -/
def usM (b : List Int) (n : Nat) : List Bool := (List.range n).map (bitB b)
theorem usM_len (b : List Int) (n : Nat) : (usM b n).length = n := by simp [usM]
theorem usM_get (b : List Int) {n i : Nat} (h : i < n) : (usM b n).getD i false = bitB b i := by
  rw [List.getD_eq_getElem?_getD, List.getElem?_eq_getElem (by rw [usM_len]; exact h)]
  simp [usM]
theorem fill_usM (b : List Int) (n : Nat) (hn : n ≤ 3744) : fillR (List.replicate n false) (RR (bitB b) 0 3744) = usM b n := bool_ext (by rw [fillR_len, usM_len, List.length_replicate]) fun i hi => by
  rw [fillR_len, List.length_replicate] at hi
  rw [usM_get b hi, Bool.eq_iff_iff, fillR_get _ _ _ (by rw [List.length_replicate]; exact hi), RR_mem]
  have hf : (List.replicate n false).getD i false = false := by rw [List.getD_eq_getElem?_getD, List.getElem?_replicate, if_pos hi]; rfl
  rw [hf]
  constructor
  · rintro (h | ⟨-, -, h⟩)
    · cases h
    · exact h
  · intro h
    exact Or.inr ⟨Nat.zero_le _, by omega, h⟩

theorem rngV_get : ∀ (l : List (Nat × Nat)) (i : Nat) (x : Nat × Nat), l[i]? = some x → (rngV l)[2 * i]? = some (.int .i64 x.1) ∧ (rngV l)[2 * i + 1]? = some (.int .i64 x.2)
  | [], i, x, h => by simp at h
  | y :: t, 0, x, h => by
    simp at h
    subst h
    exact ⟨rfl, rfl⟩
  | y :: t, i + 1, x, h => by
    have := rngV_get t i x (by simpa using h)
    exact this

set_option maxHeartbeats 8000000 in
theorem open_ok (m : Nat) (hm : 8 ≤ m) (G A n : Nat) (b : List Int) (tx : Nat) (w : World) (h : Sp w G A n b) (hn : 4 ≤ n) (hn2 : n ≤ 1536) (k : Nat) (rest : List (Nat × Nat)) (hR : RR (bitB b) 0 3744 = (0, k) :: rest) (hk : 3 ≤ k)
    (hall : ∀ x ∈ (0, k) :: rest, x.1 + x.2 ≤ n) :
    CallsIn Fence.wide m Try.prog 43 #[.iface 26 (.pointer (some ⟨G, 0, none⟩)), .int .i64 tx] w fun e w' => ∃ R U, e = .returned (.pointer (some ⟨R, 0, none⟩)) ∧ Rm w' R U n G (.int .i64 tx) (usM b n) ∧ Below w.heap.size w w' ∧ w.heap.size ≤ R ∧ w.heap.size ≤ U := by
  have h1m : 1 ≤ m := by omega
  have hmr := meth_read G
  have hms := meth_size G
  have hlen := h.len
  have HRL : Hid (((0, k) :: rest).length ≤ 3744) := Lib.hid (by rw [← hR]; exact RR_len _ _ _)
  have HBY := Lib.hid h.byt
  have HR := Lib.hid hR
  have HALL := Lib.hid hall
  have H := Lib.hid h
  have hn1 : 1 < n := by omega
  have hd1 : (decide ((4 : Int) ≤ (n : Int)) && decide ((n : Int) ≤ 1536)) = true := by simp; omega
  have hne0 : ∀ W : World, (binOp .neq 74 (.iface 26 (.pointer (some ⟨G, 0, none⟩))) .nilIface).run Try.prog W = .ok (.bool true) W := fun W => by kernel_rfl
  clear h hR hall
  refine callsIn_of_wp Try.func43 rfl trivial ?_ rfl
  simp only [Try.ntmps43, List.size_toArray, List.length_cons, List.length_nil, Nat.reduceAdd, Nat.reduceSub, Array.replicate_succ, Array.replicate_zero, List.push_toArray, List.append_toArray, List.nil_append, List.cons_append]
  gi_upto_region 6 with (first
    | (refine ⟨trivial, ?_⟩; gi_at_call 57; refine (callsIn_wide.2 (need_ok 23 _)).mono ?_; rintro e w1 ⟨rfl, hw9⟩; (have hw8 := hw9.symm); subst hw8; clear hw9)
    | (refine ⟨trivial, ?_⟩; gi_at_call 40; refine (callsIn_wide.2 (read_ok G A n b _ _ H.out hn1)).mono ?_; rintro e w1 ⟨g, rfl, hg, hB, hle⟩; (have HG := Lib.hid hg); (have HB1 := Lib.hid hB); (have HLE := Lib.hid hle); clear hg hB hle)
    | (refine ⟨trivial, ?_⟩; gi_at_call 67; refine (callsIn_wide.2 (must_ok _)).mono ?_; rintro e w1 ⟨rfl, hw9⟩; (have hw8 := hw9.symm); subst hw8; clear hw9)
    | (refine ⟨trivial, ?_⟩; gi_at_call 109; refine (callsIn_wide.2 (size_any G A n b _ (H.out.on HB1.out))).mono ?_; rintro e w1 ⟨rfl, hw9⟩; (have hw8 := hw9.symm); subst hw8; clear hw9)
    | (refine ⟨trivial, ?_⟩; gi_at_call 60; refine (callsIn_wide.2 (fits_any n _)).mono ?_; rintro e w1 ⟨rfl, hw9⟩; (have hw8 := hw9.symm); subst hw8; clear hw9; rw [hd1])
    | (refine ⟨trivial, ?_⟩; gi_at_call 57; refine (callsIn_wide.2 (need_ok 9 _)).mono ?_; rintro e w1 ⟨rfl, hw9⟩; (have hw8 := hw9.symm); subst hw8; clear hw9))
  obtain ⟨r, hr⟩ : ∃ r, rest.length = r := ⟨_, rfl⟩
  have HRr := Lib.hid hr
  have hrb : r ≤ 3743 := by have h9 := HRL.out; rw [List.length_cons, hr] at h9; omega
  have hk3 : (3 : Int) ≤ (k : Int) := by omega
  have hr1 : (0 : Int) < (rest.length : Int) + 1 := by omega
  gi_upto_region 9 with (first
    | (refine ⟨trivial, ?_⟩; gi_at_call 68; refine (from_in (m - 1) (by omega) g 468 b _ HG.out hlen).mono ?_; rintro e w2 ⟨g2, c2, rfl, hby, hB, hle⟩; simp only [bitsV]; (have HY2 := Lib.hid hby); (have HB2 := Lib.hid (below_then HB1.out HB1.out.size hB)); clear hby hB hle)
    | (refine ⟨trivial, ?_⟩; gi_at_call 57; refine (callsIn_wide.2 (need_ok 9 _)).mono ?_; rintro e w4 ⟨rfl, hw9⟩; (have hw8 := hw9.symm); subst hw8; clear hw9)
    | (refine ⟨trivial, ?_⟩; gi_at_call 69; refine (bitsruns_in (m - 1) (by omega) g2 c2 b _ (HY2.out.on (one_alloc w2 (.cells #[.int .i64 3744, .slice (some ⟨g2, 0, none⟩) 468 c2] 99))) HBY.out).mono ?_; rintro e w3 ⟨v, rfl, ho, hB⟩; rw [HR.out] at ho; obtain ⟨gr, cr, rfl⟩ := ownsRow_succ (k := rest.length) ho; (have hB0 := below_then (one_alloc w2 (.cells #[.int .i64 3744, .slice (some ⟨g2, 0, none⟩) 468 c2] 99)) (one_alloc w2 (.cells #[.int .i64 3744, .slice (some ⟨g2, 0, none⟩) 468 c2] 99)).size hB); (have HB3 := Lib.hid (below_then HB2.out HB2.out.size hB0)); (have HO := Lib.hid ho); (have q0 : w3.cell? ⟨gr, 0, none⟩ = some (.int .i64 0) := ho.cellAt 0 (by show 0 < (rest.length + 1) * 2; omega)); (have q1 : w3.cell? ⟨gr, 1, none⟩ = some (.int .i64 k) := ho.cellAt 1 (by show 1 < (rest.length + 1) * 2; omega)); clear ho hB hB0))
  gi_upto_region 10 with (refine ⟨trivial, ?_⟩; gi_at_call 57; refine (callsIn_wide.2 (need_ok 9 _)).mono ?_; rintro e w4 ⟨rfl, hw9⟩; (have hw8 := hw9.symm); subst hw8; clear hw9)
  clear q0 q1
  refine wpIn_wide.2 ?_
  obtain ⟨i4, h4i, h4z, h41, h4b⟩ := info_parts info4
  go_wp2_with (refine wpList_make_full _ rfl _ _ 28 rfl w3.heap.size 4 i4 _ 1 Try.underlying28 h4i h4z h41 .i64 .i64 _ _ n rfl rfl (by omega) (by omega) (by rw [h4b]; omega) (by simp only [maxLen]; omega) (Nat.le_refl _) ?_; intro w4 hown4 hgrow4; (have HO4 := Lib.hid hown4); (have HB4 := Lib.hid ((Below.refl w3.heap.size w3).grown hgrow4 (Nat.le_refl _) (fun k e => by cases e))); clear hown4 hgrow4)
  have hown := HO4.out
  rw [Nat.mul_one, show (Value.bool false).cells = #[.bool false] from rfl, toList_madeCells_one] at hown
  obtain ⟨hb4, -⟩ := Blk.of_own hown
  have hgl : gr < w3.heap.size := (HO.out.lt gr rfl).2
  obtain ⟨L, hL⟩ : ∃ L, (0, k) :: rest = L := ⟨_, rfl⟩
  have HLL : Hid (L.length = r + 1) := Lib.hid (by rw [← hL, ← HRr.out]; rfl)
  have HRL2 : Hid (RR (bitB b) 0 3744 = L) := Lib.hid (by rw [HR.out, hL])
  have HALL2 : Hid (∀ x ∈ L, x.1 + x.2 ≤ n) := Lib.hid (by rw [← hL]; exact HALL.out)
  have HS3 : Hid (w3.ownsRow 0 106 2 (.slice (some ⟨gr, 0, none⟩) (r + 1) cr) (r + 1) (rngV L)) := Lib.hid (by rw [← hL, ← HRr.out]; exact own_weak HO.out (Nat.zero_le _))
  obtain ⟨R, hRe⟩ : ∃ R, w4.heap.size = R := ⟨_, rfl⟩
  obtain ⟨U, hUe⟩ : ∃ U, w3.heap.size = U := ⟨_, rfl⟩
  obtain ⟨W5, hW5⟩ : ∃ W, w4.alloc (.cells #[.iface 26 (.pointer (some ⟨G, 0, none⟩)), .int .i64 tx, .slice (some ⟨w3.heap.size, 0, none⟩) n n] 88) = W := ⟨_, rfl⟩
  have hbl : boolsV (List.replicate n false) = List.replicate n (.bool false) := by simp [boolsV]
  have HRm : Hid (Rm W5 R U n G (.int .i64 tx) (fillR (List.replicate n false) (L.take 0))) := Lib.hid ⟨by rw [← hW5, ← hRe, ← hUe]; exact Blk.new w4 [_, _, _] 88, by rw [← hW5, ← hUe]; show Blk _ _ (boolsV (List.replicate n false)) 4; rw [hbl]; exact hb4.alloc _, by rw [fillR_len, List.length_replicate]⟩
  have hB34 := below_then HB3.out HB3.out.size HB4.out
  have HB5 : Hid (Below w.heap.size w W5) := Lib.hid (by rw [← hW5]; exact below_al hB34 _)
  have HS5 : Hid (W5.ownsRow 0 106 2 (.slice (some ⟨gr, 0, none⟩) (r + 1) cr) (r + 1) (rngV L)) := Lib.hid (by rw [← hW5]; exact World.ownsRow.alloc (own_keep HS3.out HB4.out) _)
  have HgU : Hid (gr < U) := Lib.hid (by rw [← hUe]; exact hgl)
  have HwU : Hid (w.heap.size ≤ U) := Lib.hid (by rw [← hUe]; exact HB3.out.size)
  have HwR : Hid (w.heap.size ≤ R) := Lib.hid (by rw [← hRe]; exact hB34.size)
  rw [hW5, hRe]
  clear hown hb4 hgl hL HS3 hRe hUe hW5 hbl hB34 HB4 HO4 HO HB3 HB2 HY2 HG HLE HB1 h4i h4z h41 h4b HALL HR hr1 hk3 hr HRr hd1 hmr hms hne0 HRL
  gi_wp2
  gi_loopg [75] (r + 2) (fun kq v W => ∃ i : Nat, v = .int .i64 i ∧ i ≤ r + 1 ∧ r + 1 - i < kq ∧ Hid (Rm W R U n G (.int .i64 tx) (fillR (List.replicate n false) (L.take i))) ∧ Hid (Below w.heap.size w W) ∧ Hid (W.ownsRow 0 106 2 (.slice (some ⟨gr, 0, none⟩) (r + 1) cr) (r + 1) (rngV L)))
  case atStart => exact ⟨0, by simp, by omega, by omega, HRm, HB5, HS5⟩
  case round =>
    clear HRm HB5 HS5
    obtain ⟨i, rfl, hi, hkq, HRm, HB5, HS5⟩ := hrel
    by_cases hlt : i < r + 1
    · have hlti : (i : Int) < (r : Int) + 1 := by omega
      obtain ⟨⟨x1, x2⟩, hx⟩ : ∃ x, L[i]? = some x := ⟨_, List.getElem?_eq_getElem (by rw [HLL.out]; exact hlt)⟩
      have hxn : x1 + x2 ≤ n := HALL2.out _ (List.mem_of_getElem? hx)
      have hxi : (x1 : Int) + (x2 : Int) ≤ (n : Int) := by omega
      have HTK : Hid (fillR (List.replicate n false) (L.take (i + 1)) = setR (fillR (List.replicate n false) (L.take i)) x1 x2 true) := Lib.hid (by rw [List.take_add_one, hx]; simp [fillR])
      have q0 : wr.cell? ⟨gr, i * 2, none⟩ = some (.int .i64 x1) := by rw [HS5.out.cellAt (i * 2) (by omega), Nat.mul_comm]; exact (rngV_get L i _ hx).1
      have q1 : wr.cell? ⟨gr, i * 2 + 1, none⟩ = some (.int .i64 x2) := by rw [HS5.out.cellAt (i * 2 + 1) (by omega), Nat.mul_comm]; exact (rngV_get L i _ hx).2
      clear hx
      gi_wp2_with (first
        | (refine ⟨trivial, ?_⟩; gi_at_call 57; refine (callsIn_wide.2 (need_ok 9 _)).mono ?_; rintro e w5 ⟨rfl, hw9⟩; (have hw8 := hw9.symm); subst hw8; clear hw9)
        | (refine ⟨trivial, ?_⟩; gi_at_call 65; refine (callsIn_wide.2 (set_any R U n G x1 x2 _ _ true _ (HRm.out.on (one_alloc wr (.cells #[.int .i64 x1, .int .i64 x2] 106))) (by omega) hxn)).mono ?_; rintro e w6 ⟨rfl, hRm6, hG6⟩; (have HRm6 := Lib.hid hRm6); (have HG6 := Lib.hid hG6); clear hRm6 hG6))
      have HB6 : Hid (Below w.heap.size w w6) := Lib.hid ((below_al HB5.out (.cells #[.int .i64 x1, .int .i64 x2] 106)).grown HG6.out (below_al HB5.out (.cells #[.int .i64 x1, .int .i64 x2] 106)).size (fun k e => by cases e; exact HwU.out))
      have HS6 : Hid (w6.ownsRow 0 106 2 (.slice (some ⟨gr, 0, none⟩) (r + 1) cr) (r + 1) (rngV L)) := Lib.hid ((World.ownsRow.alloc HS5.out _).kept HG6.out (.inr (fun e => by cases e; exact absurd HgU.out (Nat.lt_irrefl _))))
      gi_roundg (r + 1 - i)
      case measure => omega
      case rel => exact ⟨i + 1, by simp, by omega, by omega, Lib.hid (by rw [HTK.out]; exact HRm6.out), HB6, HS6⟩
    · have hlti : ¬ (i : Int) < (r : Int) + 1 := by omega
      have HE : Hid (fillR (List.replicate n false) (L.take i) = usM b n) := Lib.hid (by rw [List.take_of_length_le (by rw [HLL.out]; omega), ← HRL2.out]; exact fill_usM b n (by omega))
      gi_wp2
      go_ret
      exact ⟨R, rfl, U, by rw [← HE.out]; exact HRm.out, HB5.out, HwR.out, HwU.out⟩
end Go.Proofs.Ytibohhiebejbmaa
/- Walks: open, where it gives up. -/
namespace Go.Proofs.Ytibohhiebejbmaa
open Go.RowKit Go.Deep Go.Shelf
set_option linter.unusedVariables false
set_option linter.unusedSimpArgs false
set_option maxRecDepth 100000
attribute [local go_sem] Oper.semAt_some

set_option maxHeartbeats 8000000 in
theorem open_small (m : Nat) (hm : 8 ≤ m) (G A n : Nat) (b : List Int) (tx : Nat) (w : World) (h : Sp w G A n b) (hn : n ≤ 1) :
    CallsIn Fence.wide m Try.prog 43 #[.iface 26 (.pointer (some ⟨G, 0, none⟩)), .int .i64 tx] w fun e w' => e = gaveUp 24 ∧ Below w.heap.size w w' := by
  have h1m : 1 ≤ m := by omega
  have hmr := meth_read G
  have H := Lib.hid h
  have hne0 : ∀ W : World, (binOp .neq 74 (.iface 26 (.pointer (some ⟨G, 0, none⟩))) .nilIface).run Try.prog W = .ok (.bool true) W := fun W => by kernel_rfl
  clear h
  refine callsIn_of_wp Try.func43 rfl trivial ?_ rfl
  simp only [Try.ntmps43, List.size_toArray, List.length_cons, List.length_nil, Nat.reduceAdd, Nat.reduceSub, Array.replicate_succ, Array.replicate_zero, List.push_toArray, List.append_toArray, List.nil_append, List.cons_append]
  gi_wp2_with (first
    | (refine ⟨trivial, ?_⟩; gi_at_call 57; refine (callsIn_wide.2 (need_ok 23 _)).mono ?_; rintro e w1 ⟨rfl, hw9⟩; (have hw8 := hw9.symm); subst hw8; clear hw9)
    | (refine ⟨trivial, ?_⟩; gi_at_call 40; refine (callsIn_wide.2 (read_no G A n b _ _ H.out hn)).mono ?_; rintro e w1 ⟨rfl, hw9⟩; (have hw8 := hw9.symm); subst hw8; clear hw9)
    | (refine ⟨trivial, ?_⟩; gi_at_call 67; refine (callsIn_wide.2 (must_no 24 (by decide) _)).mono ?_; rintro e w1 ⟨rfl, hw9⟩; (have hw8 := hw9.symm); subst hw8; clear hw9; simp only [gaveUp]))
  exact ⟨rfl, rfl, Below.refl _ _⟩

set_option maxHeartbeats 8000000 in
theorem open_misfit (m : Nat) (hm : 8 ≤ m) (G A n : Nat) (b : List Int) (tx : Nat) (w : World) (h : Sp w G A n b) (hn1 : 1 < n) (hn : ¬ (4 ≤ n ∧ n ≤ 1536)) (hn3 : n ≤ 1000000) :
    CallsIn Fence.wide m Try.prog 43 #[.iface 26 (.pointer (some ⟨G, 0, none⟩)), .int .i64 tx] w fun e w' => e = gaveUp 9 ∧ Below w.heap.size w w' := by
  have h1m : 1 ≤ m := by omega
  have hmr := meth_read G
  have hms := meth_size G
  have H := Lib.hid h
  have hd1 : (decide ((4 : Int) ≤ (n : Int)) && decide ((n : Int) ≤ 1536)) = false := by simp; omega
  have hne0 : ∀ W : World, (binOp .neq 74 (.iface 26 (.pointer (some ⟨G, 0, none⟩))) .nilIface).run Try.prog W = .ok (.bool true) W := fun W => by kernel_rfl
  clear h
  refine callsIn_of_wp Try.func43 rfl trivial ?_ rfl
  simp only [Try.ntmps43, List.size_toArray, List.length_cons, List.length_nil, Nat.reduceAdd, Nat.reduceSub, Array.replicate_succ, Array.replicate_zero, List.push_toArray, List.append_toArray, List.nil_append, List.cons_append]
  gi_wp2_with (first
    | (refine ⟨trivial, ?_⟩; gi_at_call 57; refine (callsIn_wide.2 (need_ok 23 _)).mono ?_; rintro e w1 ⟨rfl, hw9⟩; (have hw8 := hw9.symm); subst hw8; clear hw9)
    | (refine ⟨trivial, ?_⟩; gi_at_call 40; refine (callsIn_wide.2 (read_ok G A n b _ _ H.out hn1)).mono ?_; rintro e w1 ⟨g, rfl, hg, hB, hle⟩; (have HB1 := Lib.hid hB); clear hg hB hle)
    | (refine ⟨trivial, ?_⟩; gi_at_call 67; refine (callsIn_wide.2 (must_ok _)).mono ?_; rintro e w2 ⟨rfl, hw9⟩; (have hw8 := hw9.symm); subst hw8; clear hw9)
    | (refine ⟨trivial, ?_⟩; gi_at_call 109; refine (callsIn_wide.2 (size_any G A n b _ (H.out.on HB1.out))).mono ?_; rintro e w2 ⟨rfl, hw9⟩; (have hw8 := hw9.symm); subst hw8; clear hw9)
    | (refine ⟨trivial, ?_⟩; gi_at_call 60; refine (callsIn_wide.2 (fits_any n _)).mono ?_; rintro e w2 ⟨rfl, hw9⟩; (have hw8 := hw9.symm); subst hw8; clear hw9; rw [hd1])
    | (refine ⟨trivial, ?_⟩; gi_at_call 57; refine (callsIn_wide.2 (need_no 9 _)).mono ?_; rintro e w2 ⟨rfl, hw9⟩; (have hw8 := hw9.symm); subst hw8; clear hw9; simp only [gaveUp]))
  exact ⟨rfl, rfl, HB1.out⟩
set_option maxHeartbeats 8000000 in
theorem open_none (m : Nat) (hm : 8 ≤ m) (G A n : Nat) (b : List Int) (tx : Nat) (w : World) (h : Sp w G A n b) (hn : 4 ≤ n) (hn2 : n ≤ 1536) (hR : RR (bitB b) 0 3744 = []) :
    CallsIn Fence.wide m Try.prog 43 #[.iface 26 (.pointer (some ⟨G, 0, none⟩)), .int .i64 tx] w fun e w' => e = gaveUp 9 ∧ Below w.heap.size w w' := by
  have h1m : 1 ≤ m := by omega
  have hmr := meth_read G
  have hms := meth_size G
  have hlen := h.len
  have HBY := Lib.hid h.byt
  have HR := Lib.hid hR
  have H := Lib.hid h
  have hn1 : 1 < n := by omega
  have hd1 : (decide ((4 : Int) ≤ (n : Int)) && decide ((n : Int) ≤ 1536)) = true := by simp; omega
  have hne0 : ∀ W : World, (binOp .neq 74 (.iface 26 (.pointer (some ⟨G, 0, none⟩))) .nilIface).run Try.prog W = .ok (.bool true) W := fun W => by kernel_rfl
  clear h hR
  refine callsIn_of_wp Try.func43 rfl trivial ?_ rfl
  simp only [Try.ntmps43, List.size_toArray, List.length_cons, List.length_nil, Nat.reduceAdd, Nat.reduceSub, Array.replicate_succ, Array.replicate_zero, List.push_toArray, List.append_toArray, List.nil_append, List.cons_append]
  gi_upto_region 6 with (first
    | (refine ⟨trivial, ?_⟩; gi_at_call 57; refine (callsIn_wide.2 (need_ok 23 _)).mono ?_; rintro e w1 ⟨rfl, hw9⟩; (have hw8 := hw9.symm); subst hw8; clear hw9)
    | (refine ⟨trivial, ?_⟩; gi_at_call 40; refine (callsIn_wide.2 (read_ok G A n b _ _ H.out hn1)).mono ?_; rintro e w1 ⟨g, rfl, hg, hB, hle⟩; (have HG := Lib.hid hg); (have HB1 := Lib.hid hB); (have HLE := Lib.hid hle); clear hg hB hle)
    | (refine ⟨trivial, ?_⟩; gi_at_call 67; refine (callsIn_wide.2 (must_ok _)).mono ?_; rintro e w1 ⟨rfl, hw9⟩; (have hw8 := hw9.symm); subst hw8; clear hw9)
    | (refine ⟨trivial, ?_⟩; gi_at_call 109; refine (callsIn_wide.2 (size_any G A n b _ (H.out.on HB1.out))).mono ?_; rintro e w1 ⟨rfl, hw9⟩; (have hw8 := hw9.symm); subst hw8; clear hw9)
    | (refine ⟨trivial, ?_⟩; gi_at_call 60; refine (callsIn_wide.2 (fits_any n _)).mono ?_; rintro e w1 ⟨rfl, hw9⟩; (have hw8 := hw9.symm); subst hw8; clear hw9; rw [hd1])
    | (refine ⟨trivial, ?_⟩; gi_at_call 57; refine (callsIn_wide.2 (need_ok 9 _)).mono ?_; rintro e w1 ⟨rfl, hw9⟩; (have hw8 := hw9.symm); subst hw8; clear hw9))
  gi_upto_region 9 with (first
    | (refine ⟨trivial, ?_⟩; gi_at_call 68; refine (from_in (m - 1) (by omega) g 468 b _ HG.out hlen).mono ?_; rintro e w2 ⟨g2, c2, rfl, hby, hB, hle⟩; simp only [bitsV]; (have HY2 := Lib.hid hby); (have HB2 := Lib.hid (below_then HB1.out HB1.out.size hB)); clear hby hB hle)
    | (refine ⟨trivial, ?_⟩; gi_at_call 57; refine (callsIn_wide.2 (need_ok 9 _)).mono ?_; rintro e w4 ⟨rfl, hw9⟩; (have hw8 := hw9.symm); subst hw8; clear hw9)
    | (refine ⟨trivial, ?_⟩; gi_at_call 69; refine (bitsruns_in (m - 1) (by omega) g2 c2 b _ (HY2.out.on (one_alloc w2 (.cells #[.int .i64 3744, .slice (some ⟨g2, 0, none⟩) 468 c2] 99))) HBY.out).mono ?_; rintro e w3 ⟨v, rfl, ho, hB⟩; rw [HR.out] at ho; obtain ⟨Av, cv, rfl, hcv⟩ := own_is_slice ho; simp only [List.length_nil]; (have hB0 := below_then (one_alloc w2 (.cells #[.int .i64 3744, .slice (some ⟨g2, 0, none⟩) 468 c2] 99)) (one_alloc w2 (.cells #[.int .i64 3744, .slice (some ⟨g2, 0, none⟩) 468 c2] 99)).size hB); (have HB3 := Lib.hid (below_then HB2.out HB2.out.size hB0)); (have HO := Lib.hid ho); clear ho hB hB0))
  gi_wp2_with (refine ⟨trivial, ?_⟩; gi_at_call 57; refine (callsIn_wide.2 (need_no 9 _)).mono ?_; rintro e w4 ⟨rfl, hw9⟩; (have hw8 := hw9.symm); subst hw8; clear hw9; simp only [gaveUp])
  exact ⟨rfl, rfl, HB3.out⟩

set_option maxHeartbeats 8000000 in
theorem open_late (m : Nat) (hm : 8 ≤ m) (G A n : Nat) (b : List Int) (tx : Nat) (w : World) (h : Sp w G A n b) (hn : 4 ≤ n) (hn2 : n ≤ 1536) (s k : Nat) (rest : List (Nat × Nat)) (hR : RR (bitB b) 0 3744 = (s, k) :: rest) (hs : s ≠ 0) :
    CallsIn Fence.wide m Try.prog 43 #[.iface 26 (.pointer (some ⟨G, 0, none⟩)), .int .i64 tx] w fun e w' => e = gaveUp 9 ∧ Below w.heap.size w w' := by
  have h1m : 1 ≤ m := by omega
  have hmr := meth_read G
  have hms := meth_size G
  have hlen := h.len
  have HBY := Lib.hid h.byt
  have HR := Lib.hid hR
  have H := Lib.hid h
  have hn1 : 1 < n := by omega
  have hd1 : (decide ((4 : Int) ≤ (n : Int)) && decide ((n : Int) ≤ 1536)) = true := by simp; omega
  have hne0 : ∀ W : World, (binOp .neq 74 (.iface 26 (.pointer (some ⟨G, 0, none⟩))) .nilIface).run Try.prog W = .ok (.bool true) W := fun W => by kernel_rfl
  clear h hR
  refine callsIn_of_wp Try.func43 rfl trivial ?_ rfl
  simp only [Try.ntmps43, List.size_toArray, List.length_cons, List.length_nil, Nat.reduceAdd, Nat.reduceSub, Array.replicate_succ, Array.replicate_zero, List.push_toArray, List.append_toArray, List.nil_append, List.cons_append]
  gi_upto_region 6 with (first
    | (refine ⟨trivial, ?_⟩; gi_at_call 57; refine (callsIn_wide.2 (need_ok 23 _)).mono ?_; rintro e w1 ⟨rfl, hw9⟩; (have hw8 := hw9.symm); subst hw8; clear hw9)
    | (refine ⟨trivial, ?_⟩; gi_at_call 40; refine (callsIn_wide.2 (read_ok G A n b _ _ H.out hn1)).mono ?_; rintro e w1 ⟨g, rfl, hg, hB, hle⟩; (have HG := Lib.hid hg); (have HB1 := Lib.hid hB); (have HLE := Lib.hid hle); clear hg hB hle)
    | (refine ⟨trivial, ?_⟩; gi_at_call 67; refine (callsIn_wide.2 (must_ok _)).mono ?_; rintro e w1 ⟨rfl, hw9⟩; (have hw8 := hw9.symm); subst hw8; clear hw9)
    | (refine ⟨trivial, ?_⟩; gi_at_call 109; refine (callsIn_wide.2 (size_any G A n b _ (H.out.on HB1.out))).mono ?_; rintro e w1 ⟨rfl, hw9⟩; (have hw8 := hw9.symm); subst hw8; clear hw9)
    | (refine ⟨trivial, ?_⟩; gi_at_call 60; refine (callsIn_wide.2 (fits_any n _)).mono ?_; rintro e w1 ⟨rfl, hw9⟩; (have hw8 := hw9.symm); subst hw8; clear hw9; rw [hd1])
    | (refine ⟨trivial, ?_⟩; gi_at_call 57; refine (callsIn_wide.2 (need_ok 9 _)).mono ?_; rintro e w1 ⟨rfl, hw9⟩; (have hw8 := hw9.symm); subst hw8; clear hw9))
  have hr1 : (0 : Int) < (rest.length : Int) + 1 := by omega
  have hs1 : ¬ ((s : Int) = 0) := by omega
  gi_upto_region 9 with (first
    | (refine ⟨trivial, ?_⟩; gi_at_call 68; refine (from_in (m - 1) (by omega) g 468 b _ HG.out hlen).mono ?_; rintro e w2 ⟨g2, c2, rfl, hby, hB, hle⟩; simp only [bitsV]; (have HY2 := Lib.hid hby); (have HB2 := Lib.hid (below_then HB1.out HB1.out.size hB)); clear hby hB hle)
    | (refine ⟨trivial, ?_⟩; gi_at_call 57; refine (callsIn_wide.2 (need_ok 9 _)).mono ?_; rintro e w4 ⟨rfl, hw9⟩; (have hw8 := hw9.symm); subst hw8; clear hw9)
    | (refine ⟨trivial, ?_⟩; gi_at_call 69; refine (bitsruns_in (m - 1) (by omega) g2 c2 b _ (HY2.out.on (one_alloc w2 (.cells #[.int .i64 3744, .slice (some ⟨g2, 0, none⟩) 468 c2] 99))) HBY.out).mono ?_; rintro e w3 ⟨v, rfl, ho, hB⟩; rw [HR.out] at ho; obtain ⟨gr, cr, rfl⟩ := ownsRow_succ (k := rest.length) ho; (have hB0 := below_then (one_alloc w2 (.cells #[.int .i64 3744, .slice (some ⟨g2, 0, none⟩) 468 c2] 99)) (one_alloc w2 (.cells #[.int .i64 3744, .slice (some ⟨g2, 0, none⟩) 468 c2] 99)).size hB); (have HB3 := Lib.hid (below_then HB2.out HB2.out.size hB0)); (have HO := Lib.hid ho); (have q0 : w3.cell? ⟨gr, 0, none⟩ = some (.int .i64 s) := ho.cellAt 0 (by show 0 < (rest.length + 1) * 2; omega)); (have q1 : w3.cell? ⟨gr, 1, none⟩ = some (.int .i64 k) := ho.cellAt 1 (by show 1 < (rest.length + 1) * 2; omega)); clear ho hB hB0))
  gi_wp2_with (refine ⟨trivial, ?_⟩; gi_at_call 57; refine (callsIn_wide.2 (need_no 9 _)).mono ?_; rintro e w4 ⟨rfl, hw9⟩; (have hw8 := hw9.symm); subst hw8; clear hw9; simp only [gaveUp])
  exact ⟨rfl, rfl, HB3.out⟩

end Go.Proofs.Ytibohhiebejbmaa
/- Walks: open, a first run that is too short. -/
namespace Go.Proofs.Ytibohhiebejbmaa
open Go.RowKit Go.Deep Go.Shelf
set_option linter.unusedVariables false
set_option linter.unusedSimpArgs false
set_option maxRecDepth 100000
attribute [local go_sem] Oper.semAt_some

theorem need_dec {p : Prop} {d : Decidable p} (h : ¬ p) (e : Int) (w : World) : Calls Try.prog 57 #[.bool (@decide p d), .int .i64 e] w fun x w' => x = gaveUp e ∧ w' = w := by
  rw [@decide_eq_false p d h]
  exact need_no e w

set_option maxHeartbeats 8000000 in
theorem open_short (m : Nat) (hm : 8 ≤ m) (G A n : Nat) (b : List Int) (tx : Nat) (w : World) (h : Sp w G A n b) (hn : 4 ≤ n) (hn2 : n ≤ 1536) (k : Nat) (rest : List (Nat × Nat)) (hR : RR (bitB b) 0 3744 = (0, k) :: rest) (hk : k < 3) :
    CallsIn Fence.wide m Try.prog 43 #[.iface 26 (.pointer (some ⟨G, 0, none⟩)), .int .i64 tx] w fun e w' => e = gaveUp 9 ∧ Below w.heap.size w w' := by
  have h1m : 1 ≤ m := by omega
  have hmr := meth_read G
  have hms := meth_size G
  have hlen := h.len
  have HBY := Lib.hid h.byt
  have HR := Lib.hid hR
  have H := Lib.hid h
  have hn1 : 1 < n := by omega
  have hd1 : (decide ((4 : Int) ≤ (n : Int)) && decide ((n : Int) ≤ 1536)) = true := by simp; omega
  have hne0 : ∀ W : World, (binOp .neq 74 (.iface 26 (.pointer (some ⟨G, 0, none⟩))) .nilIface).run Try.prog W = .ok (.bool true) W := fun W => by kernel_rfl
  clear h hR
  refine callsIn_of_wp Try.func43 rfl trivial ?_ rfl
  simp only [Try.ntmps43, List.size_toArray, List.length_cons, List.length_nil, Nat.reduceAdd, Nat.reduceSub, Array.replicate_succ, Array.replicate_zero, List.push_toArray, List.append_toArray, List.nil_append, List.cons_append]
  gi_upto_region 6 with (first
    | (refine ⟨trivial, ?_⟩; gi_at_call 57; refine (callsIn_wide.2 (need_ok 23 _)).mono ?_; rintro e w1 ⟨rfl, hw9⟩; (have hw8 := hw9.symm); subst hw8; clear hw9)
    | (refine ⟨trivial, ?_⟩; gi_at_call 40; refine (callsIn_wide.2 (read_ok G A n b _ _ H.out hn1)).mono ?_; rintro e w1 ⟨g, rfl, hg, hB, hle⟩; (have HG := Lib.hid hg); (have HB1 := Lib.hid hB); (have HLE := Lib.hid hle); clear hg hB hle)
    | (refine ⟨trivial, ?_⟩; gi_at_call 67; refine (callsIn_wide.2 (must_ok _)).mono ?_; rintro e w1 ⟨rfl, hw9⟩; (have hw8 := hw9.symm); subst hw8; clear hw9)
    | (refine ⟨trivial, ?_⟩; gi_at_call 109; refine (callsIn_wide.2 (size_any G A n b _ (H.out.on HB1.out))).mono ?_; rintro e w1 ⟨rfl, hw9⟩; (have hw8 := hw9.symm); subst hw8; clear hw9)
    | (refine ⟨trivial, ?_⟩; gi_at_call 60; refine (callsIn_wide.2 (fits_any n _)).mono ?_; rintro e w1 ⟨rfl, hw9⟩; (have hw8 := hw9.symm); subst hw8; clear hw9; rw [hd1])
    | (refine ⟨trivial, ?_⟩; gi_at_call 57; refine (callsIn_wide.2 (need_ok 9 _)).mono ?_; rintro e w1 ⟨rfl, hw9⟩; (have hw8 := hw9.symm); subst hw8; clear hw9))
  have hr1 : (0 : Int) < (rest.length : Int) + 1 := by omega
  have hk3 : ¬ ((3 : Int) ≤ (k : Int)) := by omega
  gi_upto_region 9 with (first
    | (refine ⟨trivial, ?_⟩; gi_at_call 68; refine (from_in (m - 1) (by omega) g 468 b _ HG.out hlen).mono ?_; rintro e w2 ⟨g2, c2, rfl, hby, hB, hle⟩; simp only [bitsV]; (have HY2 := Lib.hid hby); (have HB2 := Lib.hid (below_then HB1.out HB1.out.size hB)); clear hby hB hle)
    | (refine ⟨trivial, ?_⟩; gi_at_call 57; refine (callsIn_wide.2 (need_ok 9 _)).mono ?_; rintro e w4 ⟨rfl, hw9⟩; (have hw8 := hw9.symm); subst hw8; clear hw9)
    | (refine ⟨trivial, ?_⟩; gi_at_call 69; refine (bitsruns_in (m - 1) (by omega) g2 c2 b _ (HY2.out.on (one_alloc w2 (.cells #[.int .i64 3744, .slice (some ⟨g2, 0, none⟩) 468 c2] 99))) HBY.out).mono ?_; rintro e w3 ⟨v, rfl, ho, hB⟩; rw [HR.out] at ho; obtain ⟨gr, cr, rfl⟩ := ownsRow_succ (k := rest.length) ho; (have hB0 := below_then (one_alloc w2 (.cells #[.int .i64 3744, .slice (some ⟨g2, 0, none⟩) 468 c2] 99)) (one_alloc w2 (.cells #[.int .i64 3744, .slice (some ⟨g2, 0, none⟩) 468 c2] 99)).size hB); (have HB3 := Lib.hid (below_then HB2.out HB2.out.size hB0)); (have HO := Lib.hid ho); (have q0 : w3.cell? ⟨gr, 0, none⟩ = some (.int .i64 0) := ho.cellAt 0 (by show 0 < (rest.length + 1) * 2; omega)); (have q1 : w3.cell? ⟨gr, 1, none⟩ = some (.int .i64 k) := ho.cellAt 1 (by show 1 < (rest.length + 1) * 2; omega)); clear ho hB hB0))
  gi_wp2_with (fail)
  refine ⟨trivial, ?_⟩
  gi_at_call 57
  refine (callsIn_wide.2 (need_dec (show ¬ ((3 : Int) ≤ (k : Int)) by omega) 9 _)).mono ?_
  rintro e w4 ⟨rfl, hw9⟩
  have hw8 := hw9.symm
  subst hw8
  clear hw9
  simp only [gaveUp]
  gi_wp2
  exact ⟨rfl, rfl, HB3.out⟩


end Go.Proofs.Ytibohhiebejbmaa
/- Walks: open, where a run reaches beyond the Space. -/
namespace Go.Proofs.Ytibohhiebejbmaa
open Go.RowKit Go.Deep Go.Shelf
set_option linter.unusedVariables false
set_option linter.unusedSimpArgs false
set_option maxRecDepth 100000
attribute [local go_sem] Oper.semAt_some

set_option maxHeartbeats 8000000 in
theorem open_beyond (m : Nat) (hm : 8 ≤ m) (G A n : Nat) (b : List Int) (tx : Nat) (w : World) (h : Sp w G A n b) (hn : 4 ≤ n) (hn2 : n ≤ 1536) (k : Nat) (rest : List (Nat × Nat)) (hR : RR (bitB b) 0 3744 = (0, k) :: rest) (hk : 3 ≤ k)
    (hall : ∃ x ∈ (0, k) :: rest, n < x.1 + x.2) :
    CallsIn Fence.wide m Try.prog 43 #[.iface 26 (.pointer (some ⟨G, 0, none⟩)), .int .i64 tx] w fun e w' => e = gaveUp 9 ∧ Below w.heap.size w w' := by
  have h1m : 1 ≤ m := by omega
  have hmr := meth_read G
  have hms := meth_size G
  have hlen := h.len
  have HRL : Hid (((0, k) :: rest).length ≤ 3744) := Lib.hid (by rw [← hR]; exact RR_len _ _ _)
  have HBY := Lib.hid h.byt
  have HR := Lib.hid hR
  have HALL := Lib.hid hall
  have H := Lib.hid h
  have hn1 : 1 < n := by omega
  have hd1 : (decide ((4 : Int) ≤ (n : Int)) && decide ((n : Int) ≤ 1536)) = true := by simp; omega
  have hne0 : ∀ W : World, (binOp .neq 74 (.iface 26 (.pointer (some ⟨G, 0, none⟩))) .nilIface).run Try.prog W = .ok (.bool true) W := fun W => by kernel_rfl
  clear h hR hall
  refine callsIn_of_wp Try.func43 rfl trivial ?_ rfl
  simp only [Try.ntmps43, List.size_toArray, List.length_cons, List.length_nil, Nat.reduceAdd, Nat.reduceSub, Array.replicate_succ, Array.replicate_zero, List.push_toArray, List.append_toArray, List.nil_append, List.cons_append]
  gi_upto_region 6 with (first
    | (refine ⟨trivial, ?_⟩; gi_at_call 57; refine (callsIn_wide.2 (need_ok 23 _)).mono ?_; rintro e w1 ⟨rfl, hw9⟩; (have hw8 := hw9.symm); subst hw8; clear hw9)
    | (refine ⟨trivial, ?_⟩; gi_at_call 40; refine (callsIn_wide.2 (read_ok G A n b _ _ H.out hn1)).mono ?_; rintro e w1 ⟨g, rfl, hg, hB, hle⟩; (have HG := Lib.hid hg); (have HB1 := Lib.hid hB); (have HLE := Lib.hid hle); clear hg hB hle)
    | (refine ⟨trivial, ?_⟩; gi_at_call 67; refine (callsIn_wide.2 (must_ok _)).mono ?_; rintro e w1 ⟨rfl, hw9⟩; (have hw8 := hw9.symm); subst hw8; clear hw9)
    | (refine ⟨trivial, ?_⟩; gi_at_call 109; refine (callsIn_wide.2 (size_any G A n b _ (H.out.on HB1.out))).mono ?_; rintro e w1 ⟨rfl, hw9⟩; (have hw8 := hw9.symm); subst hw8; clear hw9)
    | (refine ⟨trivial, ?_⟩; gi_at_call 60; refine (callsIn_wide.2 (fits_any n _)).mono ?_; rintro e w1 ⟨rfl, hw9⟩; (have hw8 := hw9.symm); subst hw8; clear hw9; rw [hd1])
    | (refine ⟨trivial, ?_⟩; gi_at_call 57; refine (callsIn_wide.2 (need_ok 9 _)).mono ?_; rintro e w1 ⟨rfl, hw9⟩; (have hw8 := hw9.symm); subst hw8; clear hw9))
  obtain ⟨r, hr⟩ : ∃ r, rest.length = r := ⟨_, rfl⟩
  have HRr := Lib.hid hr
  have hrb : r ≤ 3743 := by have h9 := HRL.out; rw [List.length_cons, hr] at h9; omega
  have hk3 : (3 : Int) ≤ (k : Int) := by omega
  have hr1 : (0 : Int) < (rest.length : Int) + 1 := by omega
  gi_upto_region 9 with (first
    | (refine ⟨trivial, ?_⟩; gi_at_call 68; refine (from_in (m - 1) (by omega) g 468 b _ HG.out hlen).mono ?_; rintro e w2 ⟨g2, c2, rfl, hby, hB, hle⟩; simp only [bitsV]; (have HY2 := Lib.hid hby); (have HB2 := Lib.hid (below_then HB1.out HB1.out.size hB)); clear hby hB hle)
    | (refine ⟨trivial, ?_⟩; gi_at_call 57; refine (callsIn_wide.2 (need_ok 9 _)).mono ?_; rintro e w4 ⟨rfl, hw9⟩; (have hw8 := hw9.symm); subst hw8; clear hw9)
    | (refine ⟨trivial, ?_⟩; gi_at_call 69; refine (bitsruns_in (m - 1) (by omega) g2 c2 b _ (HY2.out.on (one_alloc w2 (.cells #[.int .i64 3744, .slice (some ⟨g2, 0, none⟩) 468 c2] 99))) HBY.out).mono ?_; rintro e w3 ⟨v, rfl, ho, hB⟩; rw [HR.out] at ho; obtain ⟨gr, cr, rfl⟩ := ownsRow_succ (k := rest.length) ho; (have hB0 := below_then (one_alloc w2 (.cells #[.int .i64 3744, .slice (some ⟨g2, 0, none⟩) 468 c2] 99)) (one_alloc w2 (.cells #[.int .i64 3744, .slice (some ⟨g2, 0, none⟩) 468 c2] 99)).size hB); (have HB3 := Lib.hid (below_then HB2.out HB2.out.size hB0)); (have HO := Lib.hid ho); (have q0 : w3.cell? ⟨gr, 0, none⟩ = some (.int .i64 0) := ho.cellAt 0 (by show 0 < (rest.length + 1) * 2; omega)); (have q1 : w3.cell? ⟨gr, 1, none⟩ = some (.int .i64 k) := ho.cellAt 1 (by show 1 < (rest.length + 1) * 2; omega)); clear ho hB hB0))
  gi_upto_region 10 with (refine ⟨trivial, ?_⟩; gi_at_call 57; refine (callsIn_wide.2 (need_ok 9 _)).mono ?_; rintro e w4 ⟨rfl, hw9⟩; (have hw8 := hw9.symm); subst hw8; clear hw9)
  clear q0 q1
  refine wpIn_wide.2 ?_
  obtain ⟨i4, h4i, h4z, h41, h4b⟩ := info_parts info4
  go_wp2_with (refine wpList_make_full _ rfl _ _ 28 rfl w3.heap.size 4 i4 _ 1 Try.underlying28 h4i h4z h41 .i64 .i64 _ _ n rfl rfl (by omega) (by omega) (by rw [h4b]; omega) (by simp only [maxLen]; omega) (Nat.le_refl _) ?_; intro w4 hown4 hgrow4; (have HO4 := Lib.hid hown4); (have HB4 := Lib.hid ((Below.refl w3.heap.size w3).grown hgrow4 (Nat.le_refl _) (fun k e => by cases e))); clear hown4 hgrow4)
  have hown := HO4.out
  rw [Nat.mul_one, show (Value.bool false).cells = #[.bool false] from rfl, toList_madeCells_one] at hown
  obtain ⟨hb4, -⟩ := Blk.of_own hown
  have hgl : gr < w3.heap.size := (HO.out.lt gr rfl).2
  obtain ⟨L, hL⟩ : ∃ L, (0, k) :: rest = L := ⟨_, rfl⟩
  have HLL : Hid (L.length = r + 1) := Lib.hid (by rw [← hL, ← HRr.out]; rfl)
  have HRL2 : Hid (RR (bitB b) 0 3744 = L) := Lib.hid (by rw [HR.out, hL])
  have HALL2 : Hid (∃ x ∈ L, n < x.1 + x.2) := Lib.hid (by rw [← hL]; exact HALL.out)
  have HS3 : Hid (w3.ownsRow 0 106 2 (.slice (some ⟨gr, 0, none⟩) (r + 1) cr) (r + 1) (rngV L)) := Lib.hid (by rw [← hL, ← HRr.out]; exact own_weak HO.out (Nat.zero_le _))
  obtain ⟨R, hRe⟩ : ∃ R, w4.heap.size = R := ⟨_, rfl⟩
  obtain ⟨U, hUe⟩ : ∃ U, w3.heap.size = U := ⟨_, rfl⟩
  obtain ⟨W5, hW5⟩ : ∃ W, w4.alloc (.cells #[.iface 26 (.pointer (some ⟨G, 0, none⟩)), .int .i64 tx, .slice (some ⟨w3.heap.size, 0, none⟩) n n] 88) = W := ⟨_, rfl⟩
  have hbl : boolsV (List.replicate n false) = List.replicate n (.bool false) := by simp [boolsV]
  have HRm : Hid (Rm W5 R U n G (.int .i64 tx) (fillR (List.replicate n false) (L.take 0))) := Lib.hid ⟨by rw [← hW5, ← hRe, ← hUe]; exact Blk.new w4 [_, _, _] 88, by rw [← hW5, ← hUe]; show Blk _ _ (boolsV (List.replicate n false)) 4; rw [hbl]; exact hb4.alloc _, by rw [fillR_len, List.length_replicate]⟩
  have hB34 := below_then HB3.out HB3.out.size HB4.out
  have HB5 : Hid (Below w.heap.size w W5) := Lib.hid (by rw [← hW5]; exact below_al hB34 _)
  have HS5 : Hid (W5.ownsRow 0 106 2 (.slice (some ⟨gr, 0, none⟩) (r + 1) cr) (r + 1) (rngV L)) := Lib.hid (by rw [← hW5]; exact World.ownsRow.alloc (own_keep HS3.out HB4.out) _)
  have HgU : Hid (gr < U) := Lib.hid (by rw [← hUe]; exact hgl)
  have HwU : Hid (w.heap.size ≤ U) := Lib.hid (by rw [← hUe]; exact HB3.out.size)
  have HwR : Hid (w.heap.size ≤ R) := Lib.hid (by rw [← hRe]; exact hB34.size)
  rw [hW5, hRe]
  clear hown hb4 hgl hL HS3 hRe hUe hW5 hbl hB34 HB4 HO4 HO HB3 HB2 HY2 HG HLE HB1 h4i h4z h41 h4b HALL HR hr1 hk3 hr HRr hd1 hmr hms hne0 HRL
  gi_wp2
  gi_loopg [75] (r + 2) (fun kq v W => ∃ i : Nat, v = .int .i64 i ∧ i ≤ r + 1 ∧ r + 1 - i < kq ∧ Hid (Rm W R U n G (.int .i64 tx) (fillR (List.replicate n false) (L.take i))) ∧ Hid (Below w.heap.size w W) ∧ Hid (W.ownsRow 0 106 2 (.slice (some ⟨gr, 0, none⟩) (r + 1) cr) (r + 1) (rngV L)) ∧ Hid (∀ x ∈ L.take i, x.1 + x.2 ≤ n))
  case atStart => exact ⟨0, by simp, by omega, by omega, HRm, HB5, HS5, Lib.hid (by simp)⟩
  case round =>
    clear HRm HB5 HS5
    obtain ⟨i, rfl, hi, hkq, HRm, HB5, HS5, HF⟩ := hrel
    by_cases hlt : i < r + 1
    · have hlti : (i : Int) < (r : Int) + 1 := by omega
      obtain ⟨⟨x1, x2⟩, hx⟩ : ∃ x, L[i]? = some x := ⟨_, List.getElem?_eq_getElem (by rw [HLL.out]; exact hlt)⟩
      have hxb : x1 + x2 ≤ 3744 := (RR_in (bitB b) 0 3744 (x1, x2) (by rw [HRL2.out]; exact List.mem_of_getElem? hx)).2.2 (by omega)
      have HTK : Hid (fillR (List.replicate n false) (L.take (i + 1)) = setR (fillR (List.replicate n false) (L.take i)) x1 x2 true) := Lib.hid (by rw [List.take_add_one, hx]; simp [fillR])
      have q0 : wr.cell? ⟨gr, i * 2, none⟩ = some (.int .i64 x1) := by rw [HS5.out.cellAt (i * 2) (by omega), Nat.mul_comm]; exact (rngV_get L i _ hx).1
      have q1 : wr.cell? ⟨gr, i * 2 + 1, none⟩ = some (.int .i64 x2) := by rw [HS5.out.cellAt (i * 2 + 1) (by omega), Nat.mul_comm]; exact (rngV_get L i _ hx).2
      have HTX : Hid (L.take (i + 1) = L.take i ++ [(x1, x2)]) := Lib.hid (by rw [List.take_add_one, hx]; rfl)
      clear hx
      by_cases hxn : x1 + x2 ≤ n
      · have hxi : (x1 : Int) + (x2 : Int) ≤ (n : Int) := by omega
        have HF2 : Hid (∀ x ∈ L.take (i + 1), x.1 + x.2 ≤ n) := Lib.hid (by
          intro x hx9
          rw [HTX.out, List.mem_append, List.mem_singleton] at hx9
          rcases hx9 with h9 | rfl
          · exact HF.out x h9
          · exact hxn)
        gi_wp2_with (first
          | (refine ⟨trivial, ?_⟩; gi_at_call 57; refine (callsIn_wide.2 (need_ok 9 _)).mono ?_; rintro e w5 ⟨rfl, hw9⟩; (have hw8 := hw9.symm); subst hw8; clear hw9)
          | (refine ⟨trivial, ?_⟩; gi_at_call 65; refine (callsIn_wide.2 (set_any R U n G x1 x2 _ _ true _ (HRm.out.on (one_alloc wr (.cells #[.int .i64 x1, .int .i64 x2] 106))) (by omega) hxn)).mono ?_; rintro e w6 ⟨rfl, hRm6, hG6⟩; (have HRm6 := Lib.hid hRm6); (have HG6 := Lib.hid hG6); clear hRm6 hG6))
        have HB6 : Hid (Below w.heap.size w w6) := Lib.hid ((below_al HB5.out (.cells #[.int .i64 x1, .int .i64 x2] 106)).grown HG6.out (below_al HB5.out (.cells #[.int .i64 x1, .int .i64 x2] 106)).size (fun k e => by cases e; exact HwU.out))
        have HS6 : Hid (w6.ownsRow 0 106 2 (.slice (some ⟨gr, 0, none⟩) (r + 1) cr) (r + 1) (rngV L)) := Lib.hid ((World.ownsRow.alloc HS5.out _).kept HG6.out (.inr (fun e => by cases e; exact absurd HgU.out (Nat.lt_irrefl _))))
        gi_roundg (r + 1 - i)
        case measure => omega
        case rel => exact ⟨i + 1, by simp, by omega, by omega, Lib.hid (by rw [HTK.out]; exact HRm6.out), HB6, HS6, HF2⟩
      · gi_wp2_with (fail)
        refine ⟨trivial, ?_⟩
        gi_at_call 57
        refine (callsIn_wide.2 (need_dec (show ¬ ((x1 : Int) + (x2 : Int) ≤ (n : Int)) by omega) 9 _)).mono ?_
        rintro e w5 ⟨rfl, hw9⟩
        have hw8 := hw9.symm
        subst hw8
        clear hw9
        simp only [gaveUp]
        gi_wp2
        exact ⟨rfl, rfl, below_al HB5.out _⟩
    · exfalso
      obtain ⟨x, hx1, hx2⟩ := HALL2.out
      have := HF.out x (by rw [List.take_of_length_le (by rw [HLL.out]; omega)]; exact hx1)
      omega
end Go.Proofs.Ytibohhiebejbmaa
