/- Walks: SameTokens of equal lists. -/
import Derived.Test.YtmlgjilflpdffaaWalkM
import Derived.Laws.StructEq
namespace Go.Proofs.Ytmlgjilflpdffaa
open Go.RowKit Go.Deep
set_option linter.unusedVariables false
set_option linter.unusedSimpArgs false

section
variable {P : Program} {d : Nat} {xs ys : Array Value} {f : Field} {fs : List Field} {a b : Value} {w : World}
theorem eqf_same (hn : (f.name == "_") = false) (ha : (part f.type xs f.offset).run P w = .ok a w) (hb : (part f.type ys f.offset).run P w = .ok b w) (he : (Op.equalIn d f.type a b).run P w = .ok true w) (hr : (Op.eqFields d xs ys fs).run P w = .ok true w) : (Op.eqFields d xs ys (f :: fs)).run P w = .ok true w := by
  have hn' : f.name ≠ "_" := by simpa using hn
  rw [Op.eqFields]
  simp only [if_pos hn', Sem.run_bind, ha, hb, he, Result.andThen_ok]
  simpa using hr
end

theorem eqTok (w : World) (x0 : Bool) (x1 x2 x3 : Int) :
    (Op.equalIn 10000 35 (.agg #[.bool x0, .int .u8 x1, .int .i64 x2, .int .i64 x3]) (.agg #[.bool x0, .int .u8 x1, .int .i64 x2, .int .i64 x3])).run Try.prog w = .ok true w := by
  have hf : ∃ fs, Try.prog.underlying 35 = some (.struct fs) := ⟨_, Try.underlying35⟩
  have h35 : Try.prog.underlying 35 = some (.struct (Try.prog.fieldsOf 35)) := by
    obtain ⟨fs, hfs⟩ := hf
    simp [Program.fieldsOf, hfs]
  rw [run_equalIn_struct (P := Try.prog) w 9999 35 _ _ h35 (by kernel_rfl)]
  simp only [Program.fieldsOf, Try.underlying35]
  refine eqf_same (a := .bool x0) (b := .bool x0) (by rfl) (by go_simp) (by go_simp) (by go_simp) ?_
  refine eqf_same (a := .int .u8 x1) (b := .int .u8 x1) (by rfl) (by go_simp) (by go_simp) (by go_simp) ?_
  refine eqf_same (a := .int .i64 x2) (b := .int .i64 x2) (by rfl) (by go_simp) (by go_simp) (by go_simp) ?_
  refine eqf_same (a := .int .i64 x3) (b := .int .i64 x3) (by rfl) (by go_simp) (by go_simp) (by go_simp) ?_
  simp [Op.eqFields]

set_option maxRecDepth 100000 in
set_option maxHeartbeats 2000000 in
theorem Same_refl (A B : Option Addr) (c d : Nat) (ts : List Tok) (w : World) (hA : RdT w A ts.length ts) (hB : RdT w B ts.length ts) :
    Calls Try.prog 23 #[.slice A ts.length c, .slice B ts.length d] w fun e W' => e = .returned (.bool true) ∧ Drawn w W' := by
  have HA := Lib.hid hA
  have HB := Lib.hid hB
  have hmx := hA.max
  have heq := eqTok
  clear hA hB
  go_enter Try.func23, Try.ntmps23
  go_wp2
  go_loopg [5] ts.length (fun kq v5 W => ∃ j : Nat, v5 = .int .i64 j ∧ j ≤ ts.length ∧ kq = ts.length - j ∧ Hid (∃ k, W = w.drewN k))
  case atStart => exact ⟨0, rfl, by omega, rfl, Lib.hid ⟨0, rfl⟩⟩
  case round =>
    obtain ⟨j, rfl, hj, hkq, HD⟩ := hrel
    obtain ⟨k, hk⟩ := HD.out
    subst hk
    by_cases hlt : j < ts.length
    · have hli : (j : Int) < ts.length := by omega
      obtain ⟨ad, e, -⟩ := HA.out.at_ j hlt
      subst e
      obtain ⟨ae, e, -⟩ := HB.out.at_ j hlt
      subst e
      obtain ⟨t, htj⟩ : ∃ t, ts[j] = t := ⟨_, rfl⟩
      obtain ⟨h0, h1, h2, h3⟩ := HA.out.tok j hlt t htj
      obtain ⟨g0, g1, g2, g3⟩ := HB.out.tok j hlt t htj
      clear htj
      go_wp2
      go_quiet (fail)
      go_wp2
      go_roundg (ts.length - (j + 1))
      case measure => omega
      case rel => exact ⟨j + 1, by go_num, by omega, rfl, Lib.hid ⟨_, rfl⟩⟩
    · obtain rfl : j = ts.length := by omega
      go_wp2
      go_ret
      exact ⟨rfl, ⟨_, rfl⟩⟩
end Go.Proofs.Ytmlgjilflpdffaa
