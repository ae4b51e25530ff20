-- PRINTED BY print.sh 35421559b90ae4d0a3588c463048766b98c2df88dd9212a6774a882060cdf62d: not written by this session
import Derived.Test.YtmbdiimenmnfjaaDoorPNamesNamesx0
import Derived.Test.YtmbdiimenmnfjaaDoorPNamesNamesx49
namespace Go.Proofs.YtmbdiimenmnfjaaDoor.PNamesNames
open Go.RowKit Go.Proofs.YtmbdiimenmnfjaaDoorW.PrintWords Go.Proofs.YtmbdiimenmnfjaaDoorW.PrintLast Go.Proofs.YtmbdiimenmnfjaaDoorW.PrintMore
attribute [local go_sem] max2_int min2_int max_two min_two max_three min_three max_four min_four   -- for this text's walks alone
set_option linter.unusedVariables false
set_option linter.unusedSimpArgs false

/-! ### archivoltref05_character: function 57 -/
def archivoltref05_character.f (k : Nat) (a0 : Int) : Option (Bool) := if a0 ≥ 65 then (if a0 ≤ 90 then (some true) else (if a0 ≥ 48 then (if a0 ≤ 57 then (some true) else ((archivoltref05_in.f k a0 (⟨#[33, 35, 36, 37, 38, 39, 40, 41, 45, 64, 94, 95, 123, 125, 126]⟩ : ByteArray)).bind fun t223 => (some t223))) else ((archivoltref05_in.f k a0 (⟨#[33, 35, 36, 37, 38, 39, 40, 41, 45, 64, 94, 95, 123, 125, 126]⟩ : ByteArray)).bind fun t224 => (some t224)))) else (if a0 ≥ 48 then (if a0 ≤ 57 then (some true) else ((archivoltref05_in.f k a0 (⟨#[33, 35, 36, 37, 38, 39, 40, 41, 45, 64, 94, 95, 123, 125, 126]⟩ : ByteArray)).bind fun t225 => (some t225))) else ((archivoltref05_in.f k a0 (⟨#[33, 35, 36, 37, 38, 39, 40, 41, 45, 64, 94, 95, 123, 125, 126]⟩ : ByteArray)).bind fun t226 => (some t226)))
theorem archivoltref05_character.mono : ∀ a0 k, LeO (archivoltref05_character.f k a0) (archivoltref05_character.f (k + 1) a0) := by
  intro a0 k
  unfold archivoltref05_character.f
  repeat' first
      | (with_reducible exact archivoltref05_in.mono _ _ _)
      | (with_reducible exact LeO.refl _)
      | (with_reducible exact LeO.none _)
      | (with_reducible refine LeO.ite ?_ ?_)
      | (with_reducible refine LeO.bind ?_ (fun _ => ?_))
      | exact archivoltref05_in.mono _ _ _
      | exact LeO.none _
      | refine LeO.ite ?_ ?_
      | refine LeO.bind ?_ (fun _ => ?_)
set_option maxHeartbeats 8000000 in
set_option maxRecDepth 100000 in
theorem archivoltref05_character.calls (k : Nat) (a0 : Int) (r : Bool) (w : World) (h : archivoltref05_character.f k a0 = some r) :
    Calls Tryd.prog 57 #[.int .u16 a0] w fun e w' => e = .returned (.bool r) ∧ Drawn0 w w' := by
  have H : (if a0 ≥ 65 then (if a0 ≤ 90 then (some true) else (if a0 ≥ 48 then (if a0 ≤ 57 then (some true) else ((archivoltref05_in.f k a0 (⟨#[33, 35, 36, 37, 38, 39, 40, 41, 45, 64, 94, 95, 123, 125, 126]⟩ : ByteArray)).bind fun t223 => (some t223))) else ((archivoltref05_in.f k a0 (⟨#[33, 35, 36, 37, 38, 39, 40, 41, 45, 64, 94, 95, 123, 125, 126]⟩ : ByteArray)).bind fun t224 => (some t224)))) else (if a0 ≥ 48 then (if a0 ≤ 57 then (some true) else ((archivoltref05_in.f k a0 (⟨#[33, 35, 36, 37, 38, 39, 40, 41, 45, 64, 94, 95, 123, 125, 126]⟩ : ByteArray)).bind fun t225 => (some t225))) else ((archivoltref05_in.f k a0 (⟨#[33, 35, 36, 37, 38, 39, 40, 41, 45, 64, 94, 95, 123, 125, 126]⟩ : ByteArray)).bind fun t226 => (some t226)))) = some r := h
  clear h
  by_cases c2 : a0 ≥ 65
  · rw [if_pos c2] at H
    have c2b0 : decide (65 ≤ a0) = true := decide_eq_true c2
    clear c2
    by_cases c3 : a0 ≤ 90
    · rw [if_pos c3] at H
      have c3b0 : decide (a0 ≤ 90) = true := decide_eq_true c3
      clear c3
      obtain rfl := Option.some.inj H
      go_enter Tryd.func57, Tryd.ntmps57
      go_wp2
      go_ret
      exact ⟨by first | rfl | (simp; done) | (simp [*]; done), by repeat (first | exact Drawn0.refl _ | apply Drawn0.step)⟩
    · rw [if_neg c3] at H
      have c3b0 : decide (a0 ≤ 90) = false := decide_eq_false c3
      clear c3
      by_cases c4 : a0 ≥ 48
      · rw [if_pos c4] at H
        have c4b0 : decide (48 ≤ a0) = true := decide_eq_true c4
        clear c4
        by_cases c5 : a0 ≤ 57
        · rw [if_pos c5] at H
          have c5b0 : decide (a0 ≤ 57) = true := decide_eq_true c5
          clear c5
          obtain rfl := Option.some.inj H
          go_enter Tryd.func57, Tryd.ntmps57
          go_wp2
          go_ret
          exact ⟨by first | rfl | (simp; done) | (simp [*]; done), by repeat (first | exact Drawn0.refl _ | apply Drawn0.step)⟩
        · rw [if_neg c5] at H
          have c5b0 : decide (a0 ≤ 57) = false := decide_eq_false c5
          clear c5
          replace H := Option.bind_eq_some_iff.mp H
          obtain ⟨t223, A60, H⟩ := H
          replace H : (some t223) = some r := H
          have A6 := Aside0.mk A60
          clear A60
          obtain rfl := Option.some.inj H
          go_enter Tryd.func57, Tryd.ntmps57
          go_wp2_with (first | (go_at_call 44; (with_reducible refine (archivoltref05_in.calls k a0 (⟨#[33, 35, 36, 37, 38, 39, 40, 41, 45, 64, 94, 95, 123, 125, 126]⟩ : ByteArray) t223 _ A6.out).mono ?_); rintro e w' ⟨rfl, ⟨nd, rfl⟩⟩))
          go_ret
          exact ⟨by first | rfl | (simp; done) | (simp [*]; done), by repeat (first | exact Drawn0.refl _ | apply Drawn0.step)⟩
      · rw [if_neg c4] at H
        have c4b0 : decide (48 ≤ a0) = false := decide_eq_false c4
        clear c4
        replace H := Option.bind_eq_some_iff.mp H
        obtain ⟨t224, A70, H⟩ := H
        replace H : (some t224) = some r := H
        have A7 := Aside0.mk A70
        clear A70
        obtain rfl := Option.some.inj H
        go_enter Tryd.func57, Tryd.ntmps57
        go_wp2_with (first | (go_at_call 44; (with_reducible refine (archivoltref05_in.calls k a0 (⟨#[33, 35, 36, 37, 38, 39, 40, 41, 45, 64, 94, 95, 123, 125, 126]⟩ : ByteArray) t224 _ A7.out).mono ?_); rintro e w' ⟨rfl, ⟨nd, rfl⟩⟩))
        go_ret
        exact ⟨by first | rfl | (simp; done) | (simp [*]; done), by repeat (first | exact Drawn0.refl _ | apply Drawn0.step)⟩
  · rw [if_neg c2] at H
    have c2b0 : decide (65 ≤ a0) = false := decide_eq_false c2
    clear c2
    by_cases c8 : a0 ≥ 48
    · rw [if_pos c8] at H
      have c8b0 : decide (48 ≤ a0) = true := decide_eq_true c8
      clear c8
      by_cases c9 : a0 ≤ 57
      · rw [if_pos c9] at H
        have c9b0 : decide (a0 ≤ 57) = true := decide_eq_true c9
        clear c9
        obtain rfl := Option.some.inj H
        go_enter Tryd.func57, Tryd.ntmps57
        go_wp2
        go_ret
        exact ⟨by first | rfl | (simp; done) | (simp [*]; done), by repeat (first | exact Drawn0.refl _ | apply Drawn0.step)⟩
      · rw [if_neg c9] at H
        have c9b0 : decide (a0 ≤ 57) = false := decide_eq_false c9
        clear c9
        replace H := Option.bind_eq_some_iff.mp H
        obtain ⟨t225, A100, H⟩ := H
        replace H : (some t225) = some r := H
        have A10 := Aside0.mk A100
        clear A100
        obtain rfl := Option.some.inj H
        go_enter Tryd.func57, Tryd.ntmps57
        go_wp2_with (first | (go_at_call 44; (with_reducible refine (archivoltref05_in.calls k a0 (⟨#[33, 35, 36, 37, 38, 39, 40, 41, 45, 64, 94, 95, 123, 125, 126]⟩ : ByteArray) t225 _ A10.out).mono ?_); rintro e w' ⟨rfl, ⟨nd, rfl⟩⟩))
        go_ret
        exact ⟨by first | rfl | (simp; done) | (simp [*]; done), by repeat (first | exact Drawn0.refl _ | apply Drawn0.step)⟩
    · rw [if_neg c8] at H
      have c8b0 : decide (48 ≤ a0) = false := decide_eq_false c8
      clear c8
      replace H := Option.bind_eq_some_iff.mp H
      obtain ⟨t226, A110, H⟩ := H
      replace H : (some t226) = some r := H
      have A11 := Aside0.mk A110
      clear A110
      obtain rfl := Option.some.inj H
      go_enter Tryd.func57, Tryd.ntmps57
      go_wp2_with (first | (go_at_call 44; (with_reducible refine (archivoltref05_in.calls k a0 (⟨#[33, 35, 36, 37, 38, 39, 40, 41, 45, 64, 94, 95, 123, 125, 126]⟩ : ByteArray) t226 _ A11.out).mono ?_); rintro e w' ⟨rfl, ⟨nd, rfl⟩⟩))
      go_ret
      exact ⟨by first | rfl | (simp; done) | (simp [*]; done), by repeat (first | exact Drawn0.refl _ | apply Drawn0.step)⟩

end Go.Proofs.YtmbdiimenmnfjaaDoor.PNamesNames
