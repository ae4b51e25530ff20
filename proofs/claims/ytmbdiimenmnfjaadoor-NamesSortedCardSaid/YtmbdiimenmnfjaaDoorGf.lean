/- A round of a range over a function that goes on, or leaves the function. -/
import Derived.Test.YtmbdiimenmnfjaaDoorGa
import Derived.Test.YtmbdiimenmnfjaaDoorGe
import Derived.Test.YtmbdiimenmnfjaaDoorGd
import Derived.Test.YtmbdiimenmnfjaaDoorGc
import Derived.Test.YtmbdiimenmnfjaaDoorPNamesNamesx42
import Derived.Deep.DeepCutAuto
import Derived.Test.YtmbdiimenmnfjaaDoorPNamesNamesx1
namespace Go.Proofs.YtmbdiimenmnfjaaDoor
open Go.RowKit
set_option linter.unusedVariables false
variable {F : Fence} {n : Nat} {P : Program}

theorem yield_X2 {l D : Nat} {fn : FuncId} {tmps : Array Value} {ps : Array Tmp} {assign body : Code} {encs : Array Value} {a₁ : Act} {W : World} {m : Nat} {rd : Loop} {K' Kx : World → Prop} (hfn : F.fn fn)
    (hrd : rd = recX fn tmps ps assign body D .ready none) (hl : W.heap[l]? = some (.loop rd)) (hps : encs.size = ps.size)
    (hassign : ∀ (K : Act → World → Prop), K a₁ W → assign.wpIn (F.inRound l) m P (Exit.then K (fun _ _ _ => False)) { tmps := (ps.zip encs).foldl (fun t (p, v) => t.setIfInBounds p v) tmps, defers := [] } W)
    (hbody : ∀ rb : Loop, rb = recX fn tmps ps assign body D .busy none → body.wpIn (F.inRound l) m P (fun e _ W3 => W3.heap[l]? = some (.loop rb) ∧ ((e = .normal ∧ K' (W3.putObj l (.loop rd))) ∨ (e = .ret ∧ Kx (W3.putObj l (.loop (recX fn tmps ps assign body D .done (some .ret))))))) a₁ (W.putObj l (.loop rb))) :
    YieldAt F m P l encs W fun e W' => ∃ bb, e = .returned (.bool bb) ∧ ((bb = true ∧ K' W') ∨ (bb = false ∧ Kx W')) := by
  subst hrd
  have hy := run_yield (P := P) (args := encs) hl hps
  refine ⟨fn, _, assign, body, hy, roundIn_of_wpIn hfn (hassign _ ⟨_, run_beginRound hl rfl, ?_⟩)⟩
  refine wpIn_mono (hbody _ rfl) ?_
  rintro e a3 W3 ⟨hl3, ⟨rfl, hk⟩ | ⟨rfl, hk⟩⟩
  · have := run_endRound (P := P) none hl3
    exact ⟨_, _, this, true, rfl, Or.inl ⟨rfl, hk⟩⟩
  · have := run_endRound (P := P) (some .ret) hl3
    exact ⟨_, _, this, false, rfl, Or.inr ⟨rfl, hk⟩⟩
end Go.Proofs.YtmbdiimenmnfjaaDoor
/- Walk: Short. -/
namespace Go.Proofs.YtmbdiimenmnfjaaDoor
open Go.RowKit Go.Deep
set_option linter.unusedVariables false
set_option linter.unusedSimpArgs false
attribute [local go_sem] Oper.semAt_some

theorem BM.mono {α : Type} [DecidableEq α] {k : TypeId} {mk : α → Lit} {b N N' : Nat} {xs : List α} {W : World} (h : BM k mk b N xs W) (hN : N ≤ N') : BM k mk b N' xs W := by
  obtain ⟨n, D, h1, h2, h3⟩ := h
  exact ⟨n, D, by omega, h2, h3⟩

theorem look_met {b N : Nat} {ups : List ByteArray} {W : World} {x : ByteArray} (h : BM 9 litS b N ups W) (hx : x.size ≤ 1000000) : (Instr.lookup 81 (.map (some b)) (.string x) false).run Tryd.prog W = .ok (.bool (metB ups x)) W := by
  rw [h.look str_keyed Tryd.underlying81 (str_key x hx)]
  have : ∀ (d : Decidable (x ∈ ups)), @decide (x ∈ ups) d = metB ups x := fun d => by
    cases hm : metB ups x with
    | true => exact @decide_eq_true _ d (metB_iff.1 hm)
    | false => exact @decide_eq_false _ d (metB_not.1 hm)
  rw [this]
/-- What holds of the world while names are tried. -/
structure SW (w : World) (B b N : Nat) (ups : List ByteArray) (W : World) : Prop where
  c4 : W.heap[B]? = some (.cells #[.string ByteArray.empty] 9 (0, 0))
  c5 : W.heap[B + 1]? = some (.cells #[.int .i64 0] 24 (0, 0))
  box : W.heap[b + 1]? = some (.cells #[.map (some b)] 81 (0, 0))
  map : BM 9 litS b N ups W
  lt : B + 1 < b
  below : Below B w W
theorem SW.size {w : World} {B b N : Nat} {ups : List ByteArray} {W : World} (h : SW w B b N ups W) : b + 1 < W.heap.size := (Array.getElem?_eq_some_iff.1 h.box).1
theorem SW.on {w : World} {B b N : Nat} {ups : List ByteArray} {W W' : World} (h : SW w B b N ups W) (hb : Below W.heap.size W W') : SW w B b N ups W' :=
  ⟨below_heap h.c4 hb, below_heap h.c5 hb, below_heap h.box hb, h.map.below hb, h.lt, below_then h.below (by have := h.size; have := h.lt; omega) hb⟩
theorem SW.upd {w : World} {B b N : Nat} {ups ups' : List ByteArray} {W W' : World} {N' : Nat} (h : SW w B b N ups W) (hm : BM 9 litS b N' ups' W') (hg : W.grownBy W' (some b)) : SW w B b N' ups' W' := by
  have h1 := h.lt
  have h2 := h.size
  exact ⟨grown_keep hg h.c4 (fun k e => by cases e; omega), grown_keep hg h.c5 (fun k e => by cases e; omega), grown_keep hg h.box (fun k e => by cases e; omega), hm, h.lt,
    h.below.grown hg (by omega) (fun k e => by cases e; omega)⟩
theorem SW.put {w : World} {B b N l : Nat} {ups : List ByteArray} {W : World} {o : Obj} (h : SW w B b N ups W) (hl : b + 1 < l) : SW w B b N ups (W.putObj l o) := by
  have h1 := h.lt
  have h2 := h.size
  exact ⟨(putObj_block (by omega)).trans h.c4, (putObj_block (by omega)).trans h.c5, (putObj_block (by omega)).trans h.box, h.map.kept (grownBy_putObj' _ _ _) (by simp; omega), h.lt, putObj_below h.below (by omega) (by omega)⟩
/-- Between two names. -/
structure JW (w : World) (B b N D : Nat) (ups : List ByteArray) (rd : Loop) (pre : List ByteArray) (W : World) : Prop where
  rec_ : W.heap[D + 2]? = some (.loop rd)
  def_ : W.heap[D + 1]? = some (.deferred (some []))
  sw : SW w B b N ups W
  all : ∀ t ∈ pre, t ∈ ups
/-- Behind the name that was chosen. -/
structure JX (w : World) (B D : Nat) (ups : List ByteArray) (pre : List ByteArray) (W : World) : Prop where
  rec_ : ∃ rx : Loop, W.heap[D + 2]? = some (.loop rx) ∧ rx.state ≠ .busy ∧ rx.pending = some .ret
  def_ : W.heap[D + 1]? = some (.deferred (some []))
  got : ∃ p x, pre = p ++ [x] ∧ (∀ t ∈ p, t ∈ ups) ∧ x ∉ ups ∧ W.heap[B]? = some (.cells #[.string x] 9 (0, 0))
  c5 : W.heap[B + 1]? = some (.cells #[.int .i64 0] 24 (0, 0))
  below : Below B w W

theorem two_new (w : World) (o1 o2 : Obj) : ((w.alloc o1).alloc o2).heap[w.heap.size]? = some o1 ∧ ((w.alloc o1).alloc o2).heap[w.heap.size + 1]? = some o2 := by
  refine ⟨heap_al (heap_alloc_new _ _), ?_⟩
  have := heap_alloc_new (w.alloc o1) o2
  rw [World.size_alloc] at this
  exact this

set_option maxRecDepth 100000 in
set_option maxHeartbeats 4000000 in
theorem short_no (s : ByteArray) (hs : s.size ≤ 40000) (v : Value) (w : World) (hc : checkM s ≠ 0) :
    Calls Tryd.prog 27 #[.string s, v] w fun e w' => e = .returned (.tuple #[.string ByteArray.empty, .int .i64 (checkM s)]) ∧ Below w.heap.size w w' := by
  obtain ⟨C, hC⟩ : ∃ C, checkM s = C := ⟨_, rfl⟩
  rw [hC] at hc ⊢
  have HC := Lib.hid hC
  clear hC
  go_enter Tryd.func27, Tryd.ntmps27
  go_wp2_with (go_at_call 20; refine (check_any s (by omega) _).mono ?_; rintro e w1 ⟨rfl, hB⟩; rw [HC.out]; (have hn := two_new w (.cells #[.string ⟨#[]⟩] 9) (.cells #[.int .i64 0] 24)); (have HA := Lib.hid (below_heap hn.1 hB)); (have HA2 := Lib.hid (below_heap hn.2 hB)); obtain ⟨c0, z0, l0⟩ := one_cell HA.out; obtain ⟨c1, z1, l1⟩ := one_cell HA2.out; (have HB := Lib.hid (below_then (below_al (one_alloc w (.cells #[.string ⟨#[]⟩] 9)) (.cells #[.int .i64 0] 24)) (below_al (one_alloc w (.cells #[.string ⟨#[]⟩] 9)) (.cells #[.int .i64 0] 24)).size hB)); clear hB hn)
  have k1 := heap_far (b := w.heap.size + 1) (u := .int .i64 C) (one_put (u := .string ⟨#[]⟩) HA.out) (by omega)
  have k2 := one_put (u := .int .i64 C) (heap_far (b := w.heap.size) (u := .string ⟨#[]⟩) HA2.out (by omega))
  obtain ⟨d0, -, -⟩ := one_cell k1
  obtain ⟨d1, -, -⟩ := one_cell k2
  exact bodyPost_ret (v := .tuple #[.string ⟨#[]⟩, .int .i64 C]) (by simp [results, Tryd.results27, go_sem, d0, d1]) rfl ⟨rfl, below_st (below_st HB.out (by simp)) (by simp)⟩

set_option maxRecDepth 100000 in
set_option maxHeartbeats 8000000 in
theorem short_in (m : Nat) (hm : 4 ≤ m) (s : ByteArray) (hs : s.size ≤ 1000) (A : Option Addr) (n c : Nat) (hnc : n ≤ c) (taken : List ByteArray) (hn : n ≤ 1000) (ht : ∀ t ∈ taken, t.size ≤ 1000) (w : World) (hR : RdS w A n taken) (hT : Tab w) (hc : checkM s = 0) (l : List Int) (hl : getU s = some l) :
    CallsIn Fence.wide m Tryd.prog 27 #[.string s, .slice A n c] w fun e w' => e = .returned (.tuple #[.string (shortOf l (upsM taken)).1, .int .i64 (shortOf l (upsM taken)).2]) ∧ Below w.heap.size w w' := by
  have hmf : ∀ (fn : Fn) (first cap : Array Value) (w : World), (Instr.makeFunc fn first cap).run Tryd.prog w = .ok (.func fn first cap) w := fun _ _ _ _ => rfl
  have hmk : ∀ w : World, (Instr.makeMap 81 none).run Tryd.prog w = .ok (.map (some w.heap.size)) (w.alloc (.map #[] 0)) := fun w => rfl
  have h1m : 1 ≤ m := by omega
  obtain ⟨l', hl', hl1, -⟩ := check_units hc
  rw [hl] at hl'
  cases hl'
  have HC := Lib.hid hc
  have HL := Lib.hid hl
  have HR := Lib.hid hR
  have HT := Lib.hid hT
  have HTZ := Lib.hid ht
  have hlen := hR.len
  clear hc hl hR hT ht
  obtain ⟨res, hres⟩ : ∃ res, shortOf l (upsM taken) = res := ⟨_, rfl⟩
  rw [hres]
  have HRES := Lib.hid hres
  clear hres
  refine callsIn_of_wp_marks Tryd.func27 rfl trivial ?_ rfl
  simp only [Tryd.ntmps27, List.size_toArray, List.length_cons, List.length_nil, Nat.reduceAdd, Nat.reduceSub, Array.replicate_succ, Array.replicate_zero, List.push_toArray, List.append_toArray, List.nil_append, List.cons_append]
  gi_wp2_with (refine ⟨trivial, ?_⟩; gi_at_call 20; refine (callsIn_wide.2 (check_any s (by omega) _)).mono ?_; rintro e w1 ⟨rfl, hB⟩; rw [HC.out]; (have hn2 := two_new w (.cells #[.string ⟨#[]⟩] 9) (.cells #[.int .i64 0] 24)); (have HA := Lib.hid (below_heap hn2.1 hB)); (have HA2 := Lib.hid (below_heap hn2.2 hB)); (have HB := Lib.hid (below_then (below_al (one_alloc w (.cells #[.string ⟨#[]⟩] 9)) (.cells #[.int .i64 0] 24)) (below_al (one_alloc w (.cells #[.string ⟨#[]⟩] 9)) (.cells #[.int .i64 0] 24)).size hB)); clear hB hn2)
  obtain ⟨B, hBe⟩ : ∃ B, w.heap.size = B := ⟨_, rfl⟩
  obtain ⟨b, hbe⟩ : ∃ b, w1.heap.size = b := ⟨_, rfl⟩
  obtain ⟨W0, hW0⟩ : ∃ W0, (w1.alloc (.map #[] 0)).alloc (.cells #[.map (some w1.heap.size)] 81) = W0 := ⟨_, rfl⟩
  have hsw : SW w B b 0 (upsM (taken.take 0)) W0 := by
    have hn2 := two_new w1 (.map #[] 0) (.cells #[.map (some w1.heap.size)] 81)
    have hlt := (Array.getElem?_eq_some_iff.1 HA2.out).1
    rw [← hW0, ← hBe, ← hbe]
    exact ⟨heap_al (heap_al HA.out), heap_al (heap_al HA2.out), hn2.2, (BM.made w1 9 litS).below (one_alloc _ _), by omega, (HB.out.alloc (by omega) _).alloc (by simp; omega) _⟩
  rw [hW0, hBe, hbe]
  have HSW := Lib.hid hsw
  have HBE := Lib.hid hBe
  clear hW0 hBe hbe hsw HA HA2 HB
  gi_loopg [21] n (fun kq v21 W => ∃ i : Nat, v21 = .int .i64 i ∧ i ≤ n ∧ kq = n - i ∧ Hid (SW w B b i (upsM (taken.take i)) W))
  case atStart => exact ⟨0, rfl, by omega, by omega, HSW⟩
  case round =>
    clear HSW
    obtain ⟨i, rfl, hin, hkq, HSW⟩ := hrel
    have hlt0 := HSW.out.lt
    have hsz0 := HSW.out.size
    have HBw : Hid (Below w.heap.size w wr) := Lib.hid (by rw [HBE.out]; exact HSW.out.below)
    by_cases hlt : i < n
    · have hlti : (i : Int) < n := by omega
      obtain ⟨ad, hA, hcl⟩ := (HR.out.below HBw.out).at_ i hlt
      subst hA
      obtain ⟨t, htt⟩ : ∃ t, taken.getD i ByteArray.empty = t := ⟨_, rfl⟩
      rw [htt] at hcl
      have htk : taken.take (i + 1) = taken.take i ++ [t] := by rw [List.take_add_one, ← htt, List.getD_eq_getElem?_getD, List.getElem?_eq_getElem (by omega)]; rfl
      have htz : t.size ≤ 1000 := by
        rw [← htt, List.getD_eq_getElem?_getD, List.getElem?_eq_getElem (show i < taken.length by omega)]
        exact HTZ.out _ (List.getElem_mem _)
      obtain ⟨ups, hups⟩ : ∃ ups, upsM (taken.take i) = ups := ⟨_, rfl⟩
      rw [hups] at HSW
      have HTK : Hid (upsM (taken.take (i + 1)) = ups ++ upOf t) := Lib.hid (by rw [htk, upsM_snoc, hups])
      clear htt htk hups
      cases hg : getU t with
      | none =>
        have HG := Lib.hid hg
        clear hg
        gi_wp2_with (refine ⟨trivial, ?_⟩; gi_at_call 32; refine (callsIn_wide.2 (upper_no t (by omega) _ HG.out)).mono ?_; rintro e w2 ⟨rfl, hB⟩; (have HSW2 := Lib.hid (HSW.out.on hB)); clear hB)
        gi_roundg (n - (i + 1))
        case measure => omega
        case rel =>
          refine ⟨i + 1, by simp, by omega, rfl, Lib.hid ?_⟩
          have e : upOf t = [] := by unfold upOf; rw [HG.out]
          rw [HTK.out, e, List.append_nil]
          have := HSW2.out
          exact ⟨this.c4, this.c5, this.box, this.map.mono (by omega), this.lt, this.below⟩
      | some r =>
        have HG := Lib.hid hg
        obtain ⟨U, hU⟩ : ∃ U, mkB (textM (r.map upM)) = U := ⟨_, rfl⟩
        have hUz : U.size ≤ 1000000 := by
          have h1 := textM_len (r.map upM)
          have h2 := (getU_props hg).2.2
          rw [List.length_map] at h1
          rw [← hU, mkB_size]; omega
        have HU := Lib.hid hU
        have HUP : Hid (upOf t = [U]) := Lib.hid (by unfold upOf; rw [hg, ← hU]; rfl)
        clear hg hU
        gi_upto_region 10 with (refine ⟨trivial, ?_⟩; gi_at_call 32; refine (callsIn_wide.2 (upper_ok t (by omega) _ r HG.out)).mono ?_; rintro e w2 ⟨rfl, hB⟩; rw [HU.out]; (have HSW2 := Lib.hid (HSW.out.on hB)); clear hB)
        obtain ⟨cb, zb, lb⟩ := one_cell HSW2.out.box
        refine wpIn_wide.2 ?_
        go_wp2_with (at_mapUpdate; refine wpList_upd rfl _ _ _ rfl HSW2.out.map str_keyed Tryd.underlying81 rfl rfl rfl (str_key U hUz) (by omega) litS_inj trivial ?_; intro W' hbm hg; (have HSW3 := Lib.hid (HSW2.out.upd hbm hg)); clear hbm hg)
        gi_wp2
        gi_roundg (n - (i + 1))
        case measure => omega
        case rel =>
          refine ⟨i + 1, by simp, by omega, rfl, ?_⟩
          rw [HTK.out, HUP.out]
          exact HSW3
    · have hie : i = n := by omega
      subst hie
      have hlti : ¬ ((i : Int) < i) := by omega
      obtain ⟨ups, hups⟩ : ∃ ups, upsM taken = ups := ⟨_, rfl⟩
      rw [List.take_of_length_le (by omega), hups] at HSW
      rw [hups] at HRES
      clear hups
      obtain ⟨D, hD⟩ : ∃ D, wr.heap.size = D := ⟨_, rfl⟩
      gi_wp2_with (refine ⟨trivial, ?_⟩; gi_at_call 58; refine (callsIn_wide.2 (tries_any s _)).mono ?_; rintro e w3 ⟨rfl, rfl⟩)
      have hbx : (wr.alloc (.cells #[.string s] 9)).heap[D]? = some (.cells #[.string s] 9 (0, 0)) := by rw [← hD]; exact heap_alloc_new _ _
      have HSW1 : Hid (SW w B b i ups (wr.alloc (.cells #[.string s] 9))) := Lib.hid (HSW.out.on (one_alloc _ _))
      obtain ⟨W1, hW1⟩ : ∃ W1, wr.alloc (.cells #[.string s] 9) = W1 := ⟨_, rfl⟩
      have hsz1 : W1.heap.size = D + 1 := by rw [← hW1, World.size_alloc, hD]
      rw [hW1] at hbx HSW1 ⊢
      rw [hD] at hsz0
      have HBX := Lib.hid hbx
      have HSZ := Lib.hid hsz1
      clear hW1 hbx hD hsz1
      refine wpIn_rangeFunc_X rfl h1m (gf := 76) (lb := #[.pointer (some ⟨D, 0, none⟩)]) rfl trivial (enters_of Tryd.func76 (by kernel_rfl) rfl) (D + 2) (by rw [HSZ.out]) ?_
      intro fn rd _ hrd
      rw [HSZ.out] at hrd
      have HRD := Lib.hid hrd
      clear hrd
      obtain ⟨W2, hW2⟩ : ∃ W2, (W1.alloc (.deferred (some []))).alloc (.loop rd) = W2 := ⟨_, rfl⟩
      have hJ0 : JW w B b i D ups rd [] W2 := by
        have hn2 := two_new W1 (.deferred (some [])) (.loop rd)
        rw [HSZ.out] at hn2
        rw [← hW2]
        exact ⟨hn2.2, hn2.1, HSW1.out.on (below_al (one_alloc _ _) _), fun t h => by cases h⟩
      have hbx2 : W2.heap[D]? = some (.cells #[.string s] 9 (0, 0)) := by rw [← hW2]; exact heap_al (heap_al HBX.out)
      rw [HSZ.out, hW2]
      clear hW2
      refine (tries1_in (m - 1) (by omega) (D + 2) D s hs l HL.out hl1 (JW w B b i D ups rd) (JX w B D ups)
        (fun pre W W' h hb => ⟨below_heap h.rec_ hb, below_heap h.def_ hb, h.sw.on hb, h.all⟩) (fun pre W h => HT.out.below (by rw [HBE.out]; exact h.sw.below)) ?_ W2 hbx2 hJ0).mono ?_
      · intro pre x W hxz hJ
        have HJ := Lib.hid hJ
        clear hJ
        refine yield_X2 (l := D + 2) (a₁ := ?a1) (K' := fun W' => JW w B b i D ups rd (pre ++ [x]) W' ∧ Keeps W W') (Kx := fun W' => JX w B D ups (pre ++ [x]) W') trivial HRD.out HJ.out.rec_ rfl ?assign ?body
        case assign =>
          intro K hK
          have HK := Lib.hid hK
          clear hK
          gi_wp2
          exact HK.out
        case body =>
          intro rb hrb
          obtain ⟨h1, h2, h3, h4⟩ := HJ.out
          have hbsz := h3.size
          have hblt := h3.lt
          obtain ⟨W3, hW3⟩ : ∃ W3, W.putObj (D + 2) (.loop rb) = W3 := ⟨_, rfl⟩
          have g1 : W3.heap[D + 2]? = some (.loop rb) := by rw [← hW3]; exact World.putObj_heap_same (Array.getElem?_eq_some_iff.1 h1).1
          have g2 : W3.heap[D + 1]? = some (.deferred (some [])) := by rw [← hW3]; exact (putObj_block (by omega)).trans h2
          have g3 : SW w B b i ups W3 := by rw [← hW3]; exact h3.put (by omega)
          have hsz3 : W3.heap.size = W.heap.size := by rw [← hW3]; simp [World.putObj]
          have hkeep : ∀ rz : Loop, Keeps W (W3.putObj (D + 2) (.loop rz)) := fun rz => by
            refine ⟨by simp [World.putObj, hsz3], fun k cs ty z hk => ?_⟩
            have hne : k ≠ D + 2 := by rintro rfl; rw [h1] at hk; cases hk
            rw [putObj_block hne, ← hW3, putObj_block hne]
            exact hk
          rw [hW3]
          obtain ⟨c7, z7, l7⟩ := one_cell g3.box
          obtain ⟨c4, z4, l4⟩ := one_cell g3.c4
          obtain ⟨c5, z5, l5⟩ := one_cell g3.c5
          have hlk := look_met g3.map hxz
          have G1 := Lib.hid g1
          have G2 := Lib.hid g2
          have G3 := Lib.hid g3
          have H4 := Lib.hid h4
          have HKP := Lib.hid hkeep
          have HRB := Lib.hid hrb
          clear hW3 h1 h2 h3 h4 g1 g2 g3 hkeep hsz3 hrb
          by_cases hx : x ∈ ups
          · rw [metB_iff.2 hx] at hlk
            gi_wp2
            refine ⟨G1.out, ⟨?_, ?_, G3.out.put (by omega), fun t ht => ?_⟩, HKP.out _⟩
            · exact World.putObj_heap_same (Array.getElem?_eq_some_iff.1 G1.out).1
            · exact (putObj_block (by omega)).trans G2.out
            · rcases List.mem_append.1 ht with h | h
              · exact H4.out t h
              · rw [List.mem_singleton.1 h]; exact hx
          · rw [metB_not.2 hx] at hlk
            gi_wp2
            have f1 := heap_far (b := B + 1) (u := .int .i64 0) (heap_far (b := B) (u := .string x) G1.out (by omega)) (by omega)
            have f2 := heap_far (b := B + 1) (u := .int .i64 0) (heap_far (b := B) (u := .string x) G2.out (by omega)) (by omega)
            have f4 := heap_far (b := B + 1) (u := .int .i64 0) (one_put (u := .string x) G3.out.c4) (by omega)
            have f5 := one_put (u := .int .i64 0) (heap_far (b := B) (u := .string x) G3.out.c5 (by omega))
            refine ⟨f1, ⟨⟨_, World.putObj_heap_same (Array.getElem?_eq_some_iff.1 f1).1, by simp [recX], by simp [recX]⟩, (putObj_block (by omega)).trans f2, ⟨pre, x, rfl, H4.out, hx, (putObj_block (by omega)).trans f4⟩, (putObj_block (by omega)).trans f5, ?_⟩⟩
            exact putObj_below (below_st' (below_st' G3.out.below (Nat.le_refl _)) (by simp)) (by omega) (by rw [World.size_setCell, World.size_setCell]; omega)
      · intro e W3 hU
        obtain ⟨⟨v, rfl⟩, hJ | ⟨pre, x, hp, hX⟩⟩ := hU
        · have hend := run_endLoop (P := Tryd.prog) hJ.rec_ (by rw [HRD.out]; simp [recX])
          have hpd : rd.pending = none := by rw [HRD.out]; rfl
          have hrs := short_all hJ.all
          rw [HRES.out] at hrs
          obtain ⟨h1, h2, h3, -⟩ := hJ
          have hblt := h3.lt
          obtain ⟨W4, hW4⟩ : ∃ W4, W3.putObj (D + 2) (.loop { rd with state := .exhausted }) = W4 := ⟨_, rfl⟩
          have g2 : W4.heap[D + 1]? = some (.deferred (some [])) := by rw [← hW4]; exact (putObj_block (by omega)).trans h2
          have g3 : SW w B b i ups W4 := by rw [← hW4]; exact h3.put (by omega)
          refine ⟨none, W4, by rw [hend, hW4, hpd], ?_⟩
          have G2 := Lib.hid g2
          have G3 := Lib.hid g3
          obtain ⟨c4, z4, l4⟩ := one_cell g3.c4
          obtain ⟨c5, z5, l5⟩ := one_cell g3.c5
          clear hW4 h1 h2 h3 g2 g3 hend hpd hJ0 hbx2
          simp only
          gi_wp2
          have f4 := heap_far (b := B + 1) (u := .int .i64 5) (one_put (u := .string ⟨#[]⟩) G3.out.c4) (by omega)
          have f5 := one_put (u := .int .i64 5) (heap_far (b := B) (u := .string ⟨#[]⟩) G3.out.c5 (by omega))
          have f2 := heap_far (b := B + 1) (u := .int .i64 5) (heap_far (b := B) (u := .string ⟨#[]⟩) G2.out (by omega)) (by omega)
          have f7 : Below B w ((W4.setCell ⟨B, 0, none⟩ (.string ⟨#[]⟩)).setCell ⟨B + 1, 0, none⟩ (.int .i64 5)) := below_st' (below_st' G3.out.below (Nat.le_refl _)) (by simp)
          obtain ⟨W6, hW6⟩ : ∃ W6, (W4.setCell ⟨B, 0, none⟩ (.string ⟨#[]⟩)).setCell ⟨B + 1, 0, none⟩ (.int .i64 5) = W6 := ⟨_, rfl⟩
          rw [hW6] at f4 f5 f2 f7
          refine ⟨by simp, .inl ⟨D + 1, W6.putObj (D + 1) (.deferred none), rfl, by rw [← hW6]; exact run_takeDeferred (by rw [hW6]; exact f2), ?_⟩⟩
          obtain ⟨d0, -, -⟩ := one_cell ((putObj_block (W := W6) (o := .deferred none) (show B ≠ D + 1 by omega)).trans f4)
          obtain ⟨d1, -, -⟩ := one_cell ((putObj_block (W := W6) (o := .deferred none) (show B + 1 ≠ D + 1 by omega)).trans f5)
          simp [LeavesInM, LeavesIn, settle, results, Tryd.results27, go_sem, d0, d1]
          have f8 := putObj_below (o := .deferred none) (l := D + 1) f7 (by omega) (by have := (one_cell f5).2.2; omega)
          first
            | (rw [HBE.out]; exact f8)
            | (refine ⟨rfl, ?_⟩; rw [HBE.out]; exact f8)
            | trace_state
        · obtain ⟨⟨rx, hr1, hr2, hr3⟩, h2, ⟨p, x', he, hall, hx, h4⟩, h5, h6⟩ := hX
          have e := List.append_inj' he rfl
          have e1 : pre = p := e.1
          have e2 : x = x' := by simpa using e.2
          subst e1 e2
          have hrs := short_one hp hall hx
          rw [HRES.out] at hrs
          have hend := run_endLoop (P := Tryd.prog) hr1 hr2
          obtain ⟨W4, hW4⟩ : ∃ W4, W3.putObj (D + 2) (.loop { rx with state := .exhausted }) = W4 := ⟨_, rfl⟩
          have g2 : W4.heap[D + 1]? = some (.deferred (some [])) := by rw [← hW4]; exact (putObj_block (by omega)).trans h2
          have g4 : W4.heap[B]? = some (.cells #[.string x] 9 (0, 0)) := by rw [← hW4]; exact (putObj_block (by omega)).trans h4
          have g5 : W4.heap[B + 1]? = some (.cells #[.int .i64 0] 24 (0, 0)) := by rw [← hW4]; exact (putObj_block (by omega)).trans h5
          have g6 : Below B w W4 := by rw [← hW4]; exact putObj_below h6 (by omega) (by have := (one_cell h5).2.2; omega)
          refine ⟨some .ret, W4, by rw [hend, hW4, hr3], ?_⟩
          have G2 := Lib.hid g2
          have G4 := Lib.hid g4
          have G5 := Lib.hid g5
          have G6 := Lib.hid g6
          obtain ⟨c4, z4, l4⟩ := one_cell g4
          obtain ⟨c5, z5, l5⟩ := one_cell g5
          clear hW4 hr1 hr2 hr3 h2 h4 h5 h6 g2 g4 g5 g6 hend hJ0 hbx2
          simp only
          gi_wp2
          refine ⟨by simp, .inl ⟨D + 1, W4.putObj (D + 1) (.deferred none), rfl, run_takeDeferred G2.out, ?_⟩⟩
          obtain ⟨d0, -, -⟩ := one_cell ((putObj_block (W := W4) (o := .deferred none) (show B ≠ D + 1 by omega)).trans G4.out)
          obtain ⟨d1, -, -⟩ := one_cell ((putObj_block (W := W4) (o := .deferred none) (show B + 1 ≠ D + 1 by omega)).trans G5.out)
          simp [LeavesInM, LeavesIn, settle, results, Tryd.results27, go_sem, d0, d1]
          have f8 := putObj_below (o := .deferred none) (l := D + 1) G6.out (by omega) (by omega)
          first
            | (rw [HBE.out]; exact f8)
            | trace_state

theorem short_any (s : ByteArray) (hs : s.size ≤ 1000) (A : Option Addr) (n c : Nat) (hnc : n ≤ c) (taken : List ByteArray) (hn : n ≤ 1000) (ht : ∀ t ∈ taken, t.size ≤ 1000) (w : World) (hR : RdS w A n taken) (hT : Tab w) :
    Calls Tryd.prog 27 #[.string s, .slice A n c] w fun e w' => e = .returned (.tuple #[.string (shortM s taken).1, .int .i64 (shortM s taken).2]) ∧ Below w.heap.size w w' := by
  unfold shortM
  by_cases hc : checkM s = 0
  · rw [if_neg (by simp [hc])]
    obtain ⟨l, hg, -⟩ := check_units hc
    rw [hg]
    exact callsIn_wide.1 (short_in 4 (by omega) s hs A n c hnc taken hn ht w hR hT hc l hg)
  · rw [if_pos hc]
    exact short_no s (by omega) _ w hc
end Go.Proofs.YtmbdiimenmnfjaaDoor
/- Walk: sanity: the examples that each law looks at. -/
namespace Go.Proofs.YtmbdiimenmnfjaaDoor
open Go.RowKit Go.Deep
open Go.Proofs.YtmbdiimenmnfjaaDoor.PNamesNames
set_option linter.unusedVariables false
set_option linter.unusedSimpArgs false
set_option maxRecDepth 100000

theorem fix_u1 (w : World) : Calls Tryd.prog 33 #[.string ⟨#[240, 159, 152, 128]⟩] w fun e w' => ∃ A c, e = .returned (.tuple #[.slice A 2 c, .int .i64 0]) ∧ 2 ≤ c ∧ Rd w' .u16 A 2 [55357, 56832] ∧ Below w.heap.size w w' :=
  (units_ok ⟨#[240, 159, 152, 128]⟩ (by decide) w [55357, 56832] (by kernel_rfl)).mono fun e w' ⟨v, he, hO, hB⟩ => by
    obtain ⟨A, c, rfl, hc, hRd, -⟩ := own_nums hO (by decide)
    exact ⟨A, c, he, hc, hRd, hB⟩
theorem fix_u2 (w : World) : Calls Tryd.prog 33 #[.string ⟨#[237, 160, 128, 237, 176, 128]⟩] w fun e w' => e = .returned (.tuple #[.slice none 0 0, .int .i64 4]) ∧ Below w.heap.size w w' :=
  units_no ⟨#[237, 160, 128, 237, 176, 128]⟩ (by decide) w (by kernel_rfl)
theorem fix_su (A : Option Addr) (c n : Nat) (w : World) (h : Rd w .u16 A 2 [55357, 56832]) (hc : 2 ≤ c) (hn : n = w.heap.size) :
    Calls Tryd.prog 35 #[.slice A 2 c, .slice (some ⟨n, 0, none⟩) 2 2] (w.alloc (.cells #[.int .u16 55357, .int .u16 56832] 46)) fun e w' => e = .returned (.bool true) ∧ Below w.heap.size w w' := by
  have hb := one_alloc w (.cells #[.int .u16 55357, .int .u16 56832] 46)
  have h2 : Rd (w.alloc (.cells #[.int .u16 55357, .int .u16 56832] 46)) .u16 (some ⟨n, 0, none⟩) 2 [55357, 56832] := ⟨rfl, by decide, fun j hj => ⟨_, rfl, cells_new w n hn [.int .u16 55357, .int .u16 56832] 46 j _ (by rcases (show j = 0 ∨ j = 1 by omega) with rfl | rfl <;> rfl)⟩⟩
  exact (archivoltref05_SameUnits.calls 10 A c [55357, 56832] (some ⟨n, 0, none⟩) 2 [55357, 56832] true _ (rdC (h.below hb)) hc (rdC h2) (by decide) (by kernel_rfl)).mono fun e w' q => ⟨q.1, below_drawn hb (drawn0 q.2)⟩
theorem fix_up (w : World) : Calls Tryd.prog 31 #[.int .u16 962] w fun e w' => e = .returned (.int .u16 931) ∧ Below w.heap.size w w' := by
  have := up_any w 962 (by decide) (by decide)
  rwa [show upM 962 = 931 by kernel_rfl] at this
theorem fix_check (w : World) : Calls Tryd.prog 20 #[.string ⟨#[97, 47, 98]⟩] w fun e w' => e = .returned (.int .i64 19) ∧ Below w.heap.size w w' := by
  have := check_any ⟨#[97, 47, 98]⟩ (by decide) w
  rwa [show checkM ⟨#[97, 47, 98]⟩ = 19 by kernel_rfl] at this
theorem fix_valid (w : World) : Calls Tryd.prog 19 #[.string ⟨#[97, 98]⟩] w fun e w' => e = .returned (.bool true) ∧ Below w.heap.size w w' := by
  have := valid_any ⟨#[97, 98]⟩ (by decide) w
  rwa [show (checkM ⟨#[97, 98]⟩ == 0) = true by kernel_rfl] at this
theorem fix_cmp1 (w : World) : Calls Tryd.prog 21 #[.string ⟨#[97]⟩, .string ⟨#[66]⟩] w fun e w' => e = .returned (.int .i64 (-1)) ∧ Below w.heap.size w w' := by
  have := compare_any ⟨#[97]⟩ ⟨#[66]⟩ (by decide) (by decide) w
  rwa [show compareM ⟨#[97]⟩ ⟨#[66]⟩ = -1 by kernel_rfl] at this
theorem fix_cmp2 (w : World) : Calls Tryd.prog 21 #[.string ⟨#[97]⟩, .string ⟨#[65]⟩] w fun e w' => e = .returned (.int .i64 1) ∧ Below w.heap.size w w' := by
  have := compare_any ⟨#[97]⟩ ⟨#[65]⟩ (by decide) (by decide) w
  rwa [show compareM ⟨#[97]⟩ ⟨#[65]⟩ = 1 by kernel_rfl] at this
theorem fix_same (w : World) : Calls Tryd.prog 23 #[.string ⟨#[114, 101, 97, 100, 109, 101]⟩, .string ⟨#[82, 101, 97, 100, 77, 101]⟩] w fun e w' => e = .returned (.bool true) ∧ Below w.heap.size w w' := by
  have := same_any ⟨#[114, 101, 97, 100, 109, 101]⟩ ⟨#[82, 101, 97, 100, 77, 101]⟩ (by decide) (by decide) w
  rwa [show sameM ⟨#[114, 101, 97, 100, 109, 101]⟩ ⟨#[82, 101, 97, 100, 77, 101]⟩ = true by kernel_rfl] at this
theorem fix_key (w : World) : Calls Tryd.prog 17 #[.string ⟨#[97]⟩] w fun e w' => ∃ A c, e = .returned (.tuple #[.slice A 6 c, .int .i64 0]) ∧ Rd w' .u8 A 6 [0, 65, 0, 0, 0, 97] ∧ Below w.heap.size w w' :=
  (key_ok ⟨#[97]⟩ (by decide) w (by kernel_rfl) [97] (by kernel_rfl)).mono fun e w' ⟨v, he, hO, hB⟩ => by
    have e1 : keyM [97] = [0, 65, 0, 0, 0, 97] := by kernel_rfl
    rw [e1] at hO
    obtain ⟨A, c, rfl, hc, hRd, -⟩ := own_nums hO (by decide)
    exact ⟨A, c, he, hRd, hB⟩
theorem fix_conv (w : World) (A : Option Addr) (c : Nat) (h : Rd w .u8 A 6 [0, 65, 0, 0, 0, 97]) : (convert 26 9 (.slice A 6 c)).run Tryd.prog w = .ok (.string ⟨#[0, 65, 0, 0, 0, 97]⟩) w := by
  rw [conv_rd w A c _ 6 h, show mkB [0, 65, 0, 0, 0, 97] = ⟨#[0, 65, 0, 0, 0, 97]⟩ by kernel_rfl]
theorem fix_m1 (w : World) : Calls Tryd.prog 29 #[.string ⟨#[42, 46, 116, 63, 116]⟩, .string ⟨#[114, 101, 97, 100, 109, 101, 46, 116, 120, 116]⟩] w fun e w' => e = .returned (.tuple #[.bool true, .int .i64 0]) ∧ Below w.heap.size w w' := by
  have := match_any ⟨#[42, 46, 116, 63, 116]⟩ ⟨#[114, 101, 97, 100, 109, 101, 46, 116, 120, 116]⟩ (by decide) (by decide) w
  rwa [show matchM ⟨#[42, 46, 116, 63, 116]⟩ ⟨#[114, 101, 97, 100, 109, 101, 46, 116, 120, 116]⟩ = (true, 0) by kernel_rfl] at this
theorem fix_m2 (w : World) : Calls Tryd.prog 29 #[.string ⟨#[97, 42, 97]⟩, .string ⟨#[97]⟩] w fun e w' => e = .returned (.tuple #[.bool false, .int .i64 0]) ∧ Below w.heap.size w w' := by
  have := match_any ⟨#[97, 42, 97]⟩ ⟨#[97]⟩ (by decide) (by decide) w
  rwa [show matchM ⟨#[97, 42, 97]⟩ ⟨#[97]⟩ = (false, 0) by kernel_rfl] at this
theorem fix_is1 (w : World) : Calls Tryd.prog 25 #[.string ⟨#[65, 126, 49, 46, 66]⟩] w fun e w' => e = .returned (.bool true) ∧ Below w.heap.size w w' := by
  have := isShort_any ⟨#[65, 126, 49, 46, 66]⟩ (by decide) w
  rwa [show isShortM ⟨#[65, 126, 49, 46, 66]⟩ = true by kernel_rfl] at this
theorem fix_is2 (w : World) : Calls Tryd.prog 25 #[.string ⟨#[97]⟩] w fun e w' => e = .returned (.bool false) ∧ Below w.heap.size w w' := by
  have := isShort_any ⟨#[97]⟩ (by decide) w
  rwa [show isShortM ⟨#[97]⟩ = false by kernel_rfl] at this
theorem dec_one (d : Nat) (h : d < 10) : decS d = ⟨#[UInt8.ofNat (48 + d)]⟩ := by
  unfold decS Lib.itoa
  rw [if_neg (by omega), Int.toNat_natCast, Lib.decDigits, dif_pos h]

theorem fix_sh1m : shortM ⟨#[109, 121, 32, 108, 111, 110, 103, 32, 110, 97, 109, 101, 46, 116, 101, 120, 116]⟩ [⟨#[77, 89, 76, 79, 78, 71, 126, 49, 46, 84, 69, 88]⟩, ⟨#[109, 121, 108, 111, 110, 103, 126, 50, 46, 116, 101, 120]⟩] = (⟨#[77, 89, 76, 79, 78, 71, 126, 51, 46, 84, 69, 88]⟩, 0) := by
  have hc : checkM ⟨#[109, 121, 32, 108, 111, 110, 103, 32, 110, 97, 109, 101, 46, 116, 101, 120, 116]⟩ = 0 := by kernel_rfl
  have hg : getU ⟨#[109, 121, 32, 108, 111, 110, 103, 32, 110, 97, 109, 101, 46, 116, 101, 120, 116]⟩ = some [109, 121, 32, 108, 111, 110, 103, 32, 110, 97, 109, 101, 46, 116, 101, 120, 116] := by kernel_rfl
  have hu : upsM [⟨#[77, 89, 76, 79, 78, 71, 126, 49, 46, 84, 69, 88]⟩, ⟨#[109, 121, 108, 111, 110, 103, 126, 50, 46, 116, 101, 120]⟩] = [⟨#[77, 89, 76, 79, 78, 71, 126, 49, 46, 84, 69, 88]⟩, ⟨#[77, 89, 76, 79, 78, 71, 126, 50, 46, 84, 69, 88]⟩] := by kernel_rfl
  unfold shortM
  rw [if_neg (by rw [hc]; decide), hg, hu]
  simp only
  obtain ⟨l, hl⟩ : ∃ l : List Int, [109, 121, 32, 108, 111, 110, 103, 32, 110, 97, 109, 101, 46, 116, 101, 120, 116] = l := ⟨_, rfl⟩
  have hs : isShortM (upS l) = false := by rw [← hl]; kernel_rfl
  have ht : ∀ d : Nat, d < 10 → tryN l d = firstS (baseS l) 6 ++ ⟨#[126]⟩ ++ ⟨#[UInt8.ofNat (48 + d)]⟩ ++ endS l := fun d hd => by
    unfold tryN
    rw [dec_one d hd]
    rfl
  have hb : firstS (baseS l) 6 = ⟨#[77, 89, 76, 79, 78, 71]⟩ := by rw [← hl]; kernel_rfl
  have he : endS l = ⟨#[46, 84, 69, 88]⟩ := by rw [← hl]; kernel_rfl
  have t1 : tryN l 1 = ⟨#[77, 89, 76, 79, 78, 71, 126, 49, 46, 84, 69, 88]⟩ := by rw [ht 1 (by decide), hb, he]; kernel_rfl
  have t2 : tryN l 2 = ⟨#[77, 89, 76, 79, 78, 71, 126, 50, 46, 84, 69, 88]⟩ := by rw [ht 2 (by decide), hb, he]; kernel_rfl
  have t3 : tryN l 3 = ⟨#[77, 89, 76, 79, 78, 71, 126, 51, 46, 84, 69, 88]⟩ := by rw [ht 3 (by decide), hb, he]; kernel_rfl
  have hp := tries_upto (tries_pre rfl hs rfl) 3 (by decide)
  have hn : numsT l 3 = [tryN l 1, tryN l 2, tryN l 3] := rfl
  rw [hl]
  refine short_one (pre := [tryN l 1, tryN l 2]) ?_ ?_ ?_
  · rw [← t3]
    simpa [hn] using hp
  · rw [t1, t2]
    intro t ht
    exact ht
  · intro h
    have : (⟨#[77, 89, 76, 79, 78, 71, 126, 51, 46, 84, 69, 88]⟩ : ByteArray) = ⟨#[77, 89, 76, 79, 78, 71, 126, 49, 46, 84, 69, 88]⟩ ∨ (⟨#[77, 89, 76, 79, 78, 71, 126, 51, 46, 84, 69, 88]⟩ : ByteArray) = ⟨#[77, 89, 76, 79, 78, 71, 126, 50, 46, 84, 69, 88]⟩ := by
      rcases List.mem_cons.1 h with h | h
      · exact Or.inl h
      · exact Or.inr (List.mem_singleton.1 h)
    rcases this with h | h
    · exact absurd (congrArg bts h) (by decide)
    · exact absurd (congrArg bts h) (by decide)
theorem fix_sh2m : shortM ⟨#[114, 101, 97, 100, 109, 101, 46, 116, 120, 116]⟩ [] = (⟨#[82, 69, 65, 68, 77, 69, 46, 84, 88, 84]⟩, 0) := by
  have hc : checkM ⟨#[114, 101, 97, 100, 109, 101, 46, 116, 120, 116]⟩ = 0 := by kernel_rfl
  have hg : getU ⟨#[114, 101, 97, 100, 109, 101, 46, 116, 120, 116]⟩ = some [114, 101, 97, 100, 109, 101, 46, 116, 120, 116] := by kernel_rfl
  unfold shortM
  rw [if_neg (by rw [hc]; decide), hg]
  simp only
  have hup : upS [114, 101, 97, 100, 109, 101, 46, 116, 120, 116] = ⟨#[82, 69, 65, 68, 77, 69, 46, 84, 88, 84]⟩ := by kernel_rfl
  have := tries_head (l := [114, 101, 97, 100, 109, 101, 46, 116, 120, 116]) (by rw [hup]; kernel_rfl)
  rw [hup] at this
  exact short_one (pre := []) (by simpa using this) (fun t h => by cases h) (by simp [upsM])

theorem fix_sh1 (n : Nat) (w : World) (hn : n = w.heap.size) (ht : Tab w) : Calls Tryd.prog 27 #[.string ⟨#[109, 121, 32, 108, 111, 110, 103, 32, 110, 97, 109, 101, 46, 116, 101, 120, 116]⟩, .slice (some ⟨n, 0, none⟩) 2 2] (w.alloc (.cells #[.string ⟨#[77, 89, 76, 79, 78, 71, 126, 49, 46, 84, 69, 88]⟩, .string ⟨#[109, 121, 108, 111, 110, 103, 126, 50, 46, 116, 101, 120]⟩] 9)) fun e w' =>
    e = .returned (.tuple #[.string ⟨#[77, 89, 76, 79, 78, 71, 126, 51, 46, 84, 69, 88]⟩, .int .i64 0]) ∧ Below w.heap.size w w' := by
  have hb := one_alloc w (.cells #[.string ⟨#[77, 89, 76, 79, 78, 71, 126, 49, 46, 84, 69, 88]⟩, .string ⟨#[109, 121, 108, 111, 110, 103, 126, 50, 46, 116, 101, 120]⟩] 9)
  have := short_any ⟨#[109, 121, 32, 108, 111, 110, 103, 32, 110, 97, 109, 101, 46, 116, 101, 120, 116]⟩ (by decide) (some ⟨n, 0, none⟩) 2 2 (by decide) [⟨#[77, 89, 76, 79, 78, 71, 126, 49, 46, 84, 69, 88]⟩, ⟨#[109, 121, 108, 111, 110, 103, 126, 50, 46, 116, 101, 120]⟩] (by decide) (by decide) _ ⟨rfl, by decide, fun j hj => ⟨_, rfl, cells_new w n hn [.string ⟨#[77, 89, 76, 79, 78, 71, 126, 49, 46, 84, 69, 88]⟩, .string ⟨#[109, 121, 108, 111, 110, 103, 126, 50, 46, 116, 101, 120]⟩] 9 j _ (by rcases (show j = 0 ∨ j = 1 by omega) with rfl | rfl <;> rfl)⟩⟩ (ht.below hb)
  rw [fix_sh1m] at this
  exact this.mono fun e w' q => ⟨q.1, below_then hb hb.size q.2⟩
theorem fix_sh2 (w : World) (ht : Tab w) : Calls Tryd.prog 27 #[.string ⟨#[114, 101, 97, 100, 109, 101, 46, 116, 120, 116]⟩, .slice none 0 0] w fun e w' =>
    e = .returned (.tuple #[.string ⟨#[82, 69, 65, 68, 77, 69, 46, 84, 88, 84]⟩, .int .i64 0]) ∧ Below w.heap.size w w' := by
  have := short_any ⟨#[114, 101, 97, 100, 109, 101, 46, 116, 120, 116]⟩ (by decide) none 0 0 (by decide) [] (by decide) (by decide) w ⟨rfl, by decide, fun j hj => absurd hj (by omega)⟩ ht
  rw [fix_sh2m] at this
  exact this

end Go.Proofs.YtmbdiimenmnfjaaDoor
/- Walk: sanity, whole. -/
namespace Go.Proofs.YtmbdiimenmnfjaaDoor
open Go.RowKit Go.Deep
set_option linter.unusedVariables false
set_option linter.unusedSimpArgs false
set_option maxRecDepth 100000

set_option maxHeartbeats 1000000 in
theorem sanity_any (w : World) (ht : Tab w) : Calls Tryd.prog 15 #[] w fun e w' => e = .returned (.bool true) ∧ Below w.heap.size w w' := by
  have HT := Lib.hid ht
  clear ht
  go_enter Tryd.func15, Tryd.ntmps15
  go_upto_region 3 with (first
    | ((have hgd := HB1); clear hgd; go_at_call 33; refine (fix_u2 _).mono ?_; rintro e w2 ⟨rfl, hB⟩; (have HR1 := Lib.hid (HR1.out.below hB)); (have HB2 := Lib.hid (below_then HB1.out HB1.out.size hB)); clear hB)
    | (go_at_call 33; refine (fix_u1 _).mono ?_; rintro e w1 ⟨A1, c1, rfl, hc1, hR, hB⟩; (have HR1 := Lib.hid hR); (have HB1 := Lib.hid hB); clear hR hB))
  go_cut [56] (fun v56 wc => v56 = .bool false ∧ Hid (Below w.heap.size w wc))
  case first =>
    go_wp2_with (first
      | (go_at_call 35; refine (fix_su A1 c1 _ _ HR1.out hc1 rfl).mono ?_; rintro e w3 ⟨rfl, hB⟩; (have HB3 := Lib.hid (below_then HB2.out HB2.out.size hB)); clear hB)
      | (go_at_call 31; refine (fix_up _).mono ?_; rintro e w4 ⟨rfl, hB⟩; (have HB4 := Lib.hid (below_then HB3.out HB3.out.size hB)); clear hB)
      | (go_at_call 20; refine (fix_check _).mono ?_; rintro e w5 ⟨rfl, hB⟩; (have HB5 := Lib.hid (below_then HB4.out HB4.out.size hB)); clear hB)
      | (go_at_call 19; refine (fix_valid _).mono ?_; rintro e w6 ⟨rfl, hB⟩; (have HB6 := Lib.hid (below_then HB5.out HB5.out.size hB)); clear hB)
      | ((have hgd := HB7); clear hgd; go_at_call 21; refine (fix_cmp2 _).mono ?_; rintro e w8 ⟨rfl, hB⟩; (have HB8 := Lib.hid (below_then HB7.out HB7.out.size hB)); clear hB)
      | (go_at_call 21; refine (fix_cmp1 _).mono ?_; rintro e w7 ⟨rfl, hB⟩; (have HB7 := Lib.hid (below_then HB6.out HB6.out.size hB)); clear hB)
      | (go_at_call 23; refine (fix_same _).mono ?_; rintro e w9 ⟨rfl, hB⟩; (have HB9 := Lib.hid (below_then HB8.out HB8.out.size hB)); clear hB))
    go_meet
    case rel => exact ⟨rfl, HB9⟩
  case rest =>
    obtain ⟨rfl, HB9⟩ := hcut
    go_upto_region 10 with (first
      | (go_at_call 17; refine (fix_key _).mono ?_; rintro e w10 ⟨Ak, ck, rfl, hK, hB⟩; (have HK := Lib.hid hK); (have HB10 := Lib.hid (below_then HB9.out HB9.out.size hB)); clear hK hB)
      | ((have hgd := HB11); clear hgd; go_at_call 27; refine (fix_sh2 _ (HT.out.below HB11.out)).mono ?_; rintro e w12 ⟨rfl, hB⟩; (have HK := Lib.hid (HK.out.below hB)); (have HB12 := Lib.hid (below_then HB11.out HB11.out.size hB)); clear hB)
      | (go_at_call 27; refine (fix_sh1 _ _ rfl (HT.out.below HB10.out)).mono ?_; rintro e w11 ⟨rfl, hB⟩; (have HK := Lib.hid (HK.out.below hB)); (have HB11 := Lib.hid (below_then HB10.out HB10.out.size hB)); clear hB)
      | ((have hgd := HB13); clear hgd; go_at_call 29; refine (fix_m2 _).mono ?_; rintro e w14 ⟨rfl, hB⟩; (have hcv := fix_conv _ Ak ck (HK.out.below hB)); (have HB14 := Lib.hid (below_then HB13.out HB13.out.size hB)); clear hB)
      | (go_at_call 29; refine (fix_m1 _).mono ?_; rintro e w13 ⟨rfl, hB⟩; (have HK := Lib.hid (HK.out.below hB)); (have HB13 := Lib.hid (below_then HB12.out HB12.out.size hB)); clear hB))
    go_wp2_with (first
      | ((have hgd := HB15); clear hgd; go_at_call 25; refine (fix_is2 _).mono ?_; rintro e w16 ⟨rfl, hB⟩; (have HB16 := Lib.hid (below_then HB15.out HB15.out.size hB)); clear hB)
      | (go_at_call 25; refine (fix_is1 _).mono ?_; rintro e w15 ⟨rfl, hB⟩; (have HB15 := Lib.hid (below_then HB14.out HB14.out.size hB)); clear hB))
    go_ret
    exact ⟨rfl, HB16.out⟩
end Go.Proofs.YtmbdiimenmnfjaaDoor
/- few: strings that are short enough to be looked at. -/
namespace Go.Proofs.YtmbdiimenmnfjaaDoor
open Go.RowKit Go.Deep
open Go.Proofs.YtmbdiimenmnfjaaDoor.PNamesNames
open Go.Proofs.YtmbdiimenmnfjaaDoorW.PrintWords (rd rdOf Drawn0)
set_option linter.unusedVariables false
set_option linter.unusedSimpArgs false

def fewM (l : List ByteArray) : Bool := (l.all fun s => decide (s.size ≤ 400)) && decide (l.length ≤ 30)
theorem drop_consS {xs : List ByteArray} {i : Nat} (h : i < xs.length) : xs.drop i = xs.getD i ByteArray.empty :: xs.drop (i + 1) := by
  rw [List.drop_eq_getElem_cons h, List.getD_eq_getElem?_getD, List.getElem?_eq_getElem h]; rfl
theorem few_l (l : List ByteArray) (hl : l.length ≤ 9223372036854775806) : ∀ (k i : Nat), i ≤ l.length → l.length < i + k → archivoltlaw05_few.l0 k l (i : Int) = some (((l.drop i).all fun s => decide (s.size ≤ 400)) && decide (l.length ≤ 30))
  | 0, i, h1, h3 => by omega
  | k + 1, i, h1, h3 => by
    unfold archivoltlaw05_few.l0
    by_cases hi : i < l.length
    · rw [if_pos (by omega), if_pos (by omega)]
      have ex : rdOf ByteArray.empty l (i : Int) = l.getD i ByteArray.empty := rfl
      rw [ex, drop_consS hi, List.all_cons]
      by_cases q : (l.getD i ByteArray.empty).size ≤ 400
      · rw [if_neg (by omega), decide_eq_true q, Bool.true_and]
        have ew : wrap64 ((i : Int) + 1) = ((i + 1 : Nat) : Int) := by unfold wrap64; omega
        rw [ew]
        exact few_l l hl k (i + 1) (by omega) (by omega)
      · rw [if_pos (by omega), decide_eq_false q]; rfl
    · rw [if_neg (by omega), List.drop_eq_nil_of_le (by omega), List.all_nil, Bool.true_and]
      congr 1
      rw [decide_eq_decide]
      omega
theorem rdS {w : World} {A : Option Addr} {n : Nat} {xs : List ByteArray} (h : RdS w A n xs) : Go.Proofs.YtmbdiimenmnfjaaDoorW.PrintWords.Kd.C Go.Proofs.YtmbdiimenmnfjaaDoorW.PrintWords.Kd.string w A n xs := by
  refine ⟨h.len, h.max, fun hn => ?_⟩
  obtain ⟨ad, hA, -⟩ := h.at_ 0 hn
  refine ⟨ad, hA, fun j p hp => ?_⟩
  obtain ⟨hj, hpj⟩ := List.getElem?_eq_some_iff.1 hp
  refine ⟨[.string p], rfl, rfl, fun i u hu => ?_⟩
  cases i with
  | succ i => simp at hu
  | zero =>
    have : u = .string p := by simpa using hu.symm
    subst this
    obtain ⟨ad', e, hc⟩ := h.at_ j (by have := h.len; omega)
    rw [hA] at e
    cases e
    rw [List.getD_eq_getElem?_getD, hp] at hc
    simpa [Go.Proofs.YtmbdiimenmnfjaaDoorW.PrintWords.Kd.string, Go.Proofs.YtmbdiimenmnfjaaDoorW.PrintWords.Kd.scalar] using hc
theorem few_any (A : Option Addr) (c : Nat) (l : List ByteArray) (w : World) (h : RdS w A l.length l) (hc : l.length ≤ c) (hl : l.length ≤ 9223372036854775806) :
    Calls Tryd.prog 14 #[.slice A l.length c] w fun e w' => e = .returned (.bool (fewM l)) ∧ Drawn w w' :=
  (archivoltlaw05_few.calls (l.length + 1) A c l (fewM l) w (rdS h) hc (by
    unfold archivoltlaw05_few.f
    have := few_l l hl (l.length + 1) 0 (by omega) (by omega)
    exact this)).mono fun e w' h => ⟨h.1, drawn0 h.2⟩
/-- few at a list that was just made. -/
theorem few_lit (l : List ByteArray) (hl : l.length ≤ 1000) (n : Nat) (w : World) (hn : n = w.heap.size) :
    Calls Tryd.prog 14 #[.slice (some ⟨n, 0, none⟩) l.length l.length] (w.alloc (.cells (l.map Value.string).toArray 9)) fun e w' => e = .returned (.bool (fewM l)) ∧ Below w.heap.size w w' := by
  have hb := one_alloc w (.cells (l.map Value.string).toArray 9)
  refine (few_any (some ⟨n, 0, none⟩) l.length l _ ⟨rfl, by omega, fun j hj => ⟨_, rfl, cells_new w n hn (l.map Value.string) 9 j _ ?_⟩⟩ (Nat.le_refl _) (by omega)).mono fun e w' q => ⟨q.1, below_drawn hb q.2⟩
  rw [List.getElem?_map, List.getD_eq_getElem?_getD, List.getElem?_eq_getElem hj]
  rfl
theorem few_one (a : ByteArray) (n : Nat) (w : World) (hn : n = w.heap.size) :
    Calls Tryd.prog 14 #[.slice (some ⟨n, 0, none⟩) 1 1] (w.alloc (.cells #[.string a] 9)) fun e w' => e = .returned (.bool (fewM [a])) ∧ Below w.heap.size w w' := few_lit [a] (by decide : (1 : Nat) ≤ 1000) n w hn
theorem few_two (a b : ByteArray) (n : Nat) (w : World) (hn : n = w.heap.size) :
    Calls Tryd.prog 14 #[.slice (some ⟨n, 0, none⟩) 2 2] (w.alloc (.cells #[.string a, .string b] 9)) fun e w' => e = .returned (.bool (fewM [a, b])) ∧ Below w.heap.size w w' := few_lit [a, b] (by decide : (2 : Nat) ≤ 1000) n w hn
theorem few_three (a b c : ByteArray) (n : Nat) (w : World) (hn : n = w.heap.size) :
    Calls Tryd.prog 14 #[.slice (some ⟨n, 0, none⟩) 3 3] (w.alloc (.cells #[.string a, .string b, .string c] 9)) fun e w' => e = .returned (.bool (fewM [a, b, c])) ∧ Below w.heap.size w w' := few_lit [a, b, c] (by decide : (3 : Nat) ≤ 1000) n w hn
theorem few_is {l : List ByteArray} (h : fewM l = true) : (∀ s ∈ l, s.size ≤ 400) ∧ l.length ≤ 30 := by
  unfold fewM at h
  simp only [Bool.and_eq_true, List.all_eq_true, decide_eq_true_eq] at h
  exact h
end Go.Proofs.YtmbdiimenmnfjaaDoor
