/- Walk: the document's Up, one range of units after the other. -/
import Derived.Test.YtmbdiimenmnfjaaDoorGg
import Derived.Test.YtmbdiimenmnfjaaDoorGa
import Derived.Test.YtmbdiimenmnfjaaDoorGh
import Derived.Test.YtmbdiimenmnfjaaDoorGc
import Derived.Test.YtmbdiimenmnfjaaDoorGd
import Derived.Test.YtmbdiimenmnfjaaDoorPNamesNamesx41
namespace Go.Proofs.YtmbdiimenmnfjaaDoor
open Go.RowKit Go.Deep
set_option linter.unusedVariables false
set_option linter.unusedSimpArgs false
set_option maxRecDepth 100000

theorem u16_in (x : Int) (h0 : 0 ≤ x) (h1 : x ≤ 65535) : IntKind.u16.wrap x = x := by simp [IntKind.wrap, IntKind.bits, IntKind.signed]; omega

theorem rup_0 (u : Int) (h0 : 0 ≤ u) (h1 : u ≤ 96) (w : World) : Calls Tryd.prog 36 #[.int .u16 u] w fun e w' => e = .returned (.int .u16 (upM u)) ∧ w' = w := by
  have hm : upM u = u := by
    unfold upM
    simp only [rowsL, upL]
    rw [if_neg (by simp only [hitR]; omega), if_neg (by simp only [hitR]; omega), if_neg (by simp only [hitR]; omega), if_neg (by simp only [hitR]; omega), if_neg (by simp only [hitR]; omega), if_neg (by simp only [hitR]; omega), if_neg (by simp only [hitR]; omega), if_neg (by simp only [hitR]; omega), if_neg (by simp only [hitR]; omega), if_neg (by simp only [hitR]; omega), if_neg (by simp only [hitR]; omega), if_neg (by simp only [hitR]; omega), if_neg (by simp only [hitR]; omega)]
  rw [hm]
  have g97 : ¬ 97 ≤ u := by omega
  have g224 : ¬ 224 ≤ u := by omega
  have g248 : ¬ 248 ≤ u := by omega
  have g945 : ¬ 945 ≤ u := by omega
  have g963 : ¬ 963 ≤ u := by omega
  have g1072 : ¬ 1072 ≤ u := by omega
  have g257 : ¬ 257 ≤ u := by omega
  have g331 : ¬ 331 ≤ u := by omega
  have g1121 : ¬ 1121 ≤ u := by omega
  have g314 : ¬ 314 ≤ u := by omega
  have g1104 : ¬ 1104 ≤ u := by omega
  have l122 : u ≤ 122 := by omega
  have l246 : u ≤ 246 := by omega
  have l254 : u ≤ 254 := by omega
  have l961 : u ≤ 961 := by omega
  have l969 : u ≤ 969 := by omega
  have l1103 : u ≤ 1103 := by omega
  have l311 : u ≤ 311 := by omega
  have l375 : u ≤ 375 := by omega
  have l1153 : u ≤ 1153 := by omega
  have l328 : u ≤ 328 := by omega
  have l1119 : u ≤ 1119 := by omega
  have e255 : ¬ u = 255 := by omega
  have e962 : ¬ u = 962 := by omega
  obtain ⟨q, hq⟩ : ∃ q : Bool, decide (u % 2 = 1) = q := ⟨_, rfl⟩
  clear h0 h1 hm
  go_enter Tryd.func36, Tryd.ntmps36
  go_wp2
  all_goals (go_ret; exact ⟨rfl, rfl⟩)

theorem rup_1 (u : Int) (h0 : 97 ≤ u) (h1 : u ≤ 122) (w : World) : Calls Tryd.prog 36 #[.int .u16 u] w fun e w' => e = .returned (.int .u16 (upM u)) ∧ w' = w := by
  have hm : upM u = u - 32 := by
    unfold upM
    simp only [rowsL, upL]
    rw [if_pos (by simp only [hitR]; omega)]
    rfl
  rw [hm]
  have g97 : 97 ≤ u := by omega
  have g224 : ¬ 224 ≤ u := by omega
  have g248 : ¬ 248 ≤ u := by omega
  have g945 : ¬ 945 ≤ u := by omega
  have g963 : ¬ 963 ≤ u := by omega
  have g1072 : ¬ 1072 ≤ u := by omega
  have g257 : ¬ 257 ≤ u := by omega
  have g331 : ¬ 331 ≤ u := by omega
  have g1121 : ¬ 1121 ≤ u := by omega
  have g314 : ¬ 314 ≤ u := by omega
  have g1104 : ¬ 1104 ≤ u := by omega
  have l122 : u ≤ 122 := by omega
  have l246 : u ≤ 246 := by omega
  have l254 : u ≤ 254 := by omega
  have l961 : u ≤ 961 := by omega
  have l969 : u ≤ 969 := by omega
  have l1103 : u ≤ 1103 := by omega
  have l311 : u ≤ 311 := by omega
  have l375 : u ≤ 375 := by omega
  have l1153 : u ≤ 1153 := by omega
  have l328 : u ≤ 328 := by omega
  have l1119 : u ≤ 1119 := by omega
  have e255 : ¬ u = 255 := by omega
  have e962 : ¬ u = 962 := by omega
  obtain ⟨q, hq⟩ : ∃ q : Bool, decide (u % 2 = 1) = q := ⟨_, rfl⟩
  have hw : IntKind.u16.wrap (u - 32) = u - 32 := u16_in _ (by omega) (by omega)
  clear h0 h1 hm
  go_enter Tryd.func36, Tryd.ntmps36
  go_wp2
  all_goals (go_ret; exact ⟨rfl, rfl⟩)

theorem rup_2 (u : Int) (h0 : 123 ≤ u) (h1 : u ≤ 223) (w : World) : Calls Tryd.prog 36 #[.int .u16 u] w fun e w' => e = .returned (.int .u16 (upM u)) ∧ w' = w := by
  have hm : upM u = u := by
    unfold upM
    simp only [rowsL, upL]
    rw [if_neg (by simp only [hitR]; omega), if_neg (by simp only [hitR]; omega), if_neg (by simp only [hitR]; omega), if_neg (by simp only [hitR]; omega), if_neg (by simp only [hitR]; omega), if_neg (by simp only [hitR]; omega), if_neg (by simp only [hitR]; omega), if_neg (by simp only [hitR]; omega), if_neg (by simp only [hitR]; omega), if_neg (by simp only [hitR]; omega), if_neg (by simp only [hitR]; omega), if_neg (by simp only [hitR]; omega), if_neg (by simp only [hitR]; omega)]
  rw [hm]
  have g97 : 97 ≤ u := by omega
  have g224 : ¬ 224 ≤ u := by omega
  have g248 : ¬ 248 ≤ u := by omega
  have g945 : ¬ 945 ≤ u := by omega
  have g963 : ¬ 963 ≤ u := by omega
  have g1072 : ¬ 1072 ≤ u := by omega
  have g257 : ¬ 257 ≤ u := by omega
  have g331 : ¬ 331 ≤ u := by omega
  have g1121 : ¬ 1121 ≤ u := by omega
  have g314 : ¬ 314 ≤ u := by omega
  have g1104 : ¬ 1104 ≤ u := by omega
  have l122 : ¬ u ≤ 122 := by omega
  have l246 : u ≤ 246 := by omega
  have l254 : u ≤ 254 := by omega
  have l961 : u ≤ 961 := by omega
  have l969 : u ≤ 969 := by omega
  have l1103 : u ≤ 1103 := by omega
  have l311 : u ≤ 311 := by omega
  have l375 : u ≤ 375 := by omega
  have l1153 : u ≤ 1153 := by omega
  have l328 : u ≤ 328 := by omega
  have l1119 : u ≤ 1119 := by omega
  have e255 : ¬ u = 255 := by omega
  have e962 : ¬ u = 962 := by omega
  obtain ⟨q, hq⟩ : ∃ q : Bool, decide (u % 2 = 1) = q := ⟨_, rfl⟩
  clear h0 h1 hm
  go_enter Tryd.func36, Tryd.ntmps36
  go_wp2
  all_goals (go_ret; exact ⟨rfl, rfl⟩)

theorem rup_3 (u : Int) (h0 : 224 ≤ u) (h1 : u ≤ 246) (w : World) : Calls Tryd.prog 36 #[.int .u16 u] w fun e w' => e = .returned (.int .u16 (upM u)) ∧ w' = w := by
  have hm : upM u = u - 32 := by
    unfold upM
    simp only [rowsL, upL]
    rw [if_neg (by simp only [hitR]; omega), if_pos (by simp only [hitR]; omega)]
    rfl
  rw [hm]
  have g97 : 97 ≤ u := by omega
  have g224 : 224 ≤ u := by omega
  have g248 : ¬ 248 ≤ u := by omega
  have g945 : ¬ 945 ≤ u := by omega
  have g963 : ¬ 963 ≤ u := by omega
  have g1072 : ¬ 1072 ≤ u := by omega
  have g257 : ¬ 257 ≤ u := by omega
  have g331 : ¬ 331 ≤ u := by omega
  have g1121 : ¬ 1121 ≤ u := by omega
  have g314 : ¬ 314 ≤ u := by omega
  have g1104 : ¬ 1104 ≤ u := by omega
  have l122 : ¬ u ≤ 122 := by omega
  have l246 : u ≤ 246 := by omega
  have l254 : u ≤ 254 := by omega
  have l961 : u ≤ 961 := by omega
  have l969 : u ≤ 969 := by omega
  have l1103 : u ≤ 1103 := by omega
  have l311 : u ≤ 311 := by omega
  have l375 : u ≤ 375 := by omega
  have l1153 : u ≤ 1153 := by omega
  have l328 : u ≤ 328 := by omega
  have l1119 : u ≤ 1119 := by omega
  have e255 : ¬ u = 255 := by omega
  have e962 : ¬ u = 962 := by omega
  obtain ⟨q, hq⟩ : ∃ q : Bool, decide (u % 2 = 1) = q := ⟨_, rfl⟩
  have hw : IntKind.u16.wrap (u - 32) = u - 32 := u16_in _ (by omega) (by omega)
  clear h0 h1 hm
  go_enter Tryd.func36, Tryd.ntmps36
  go_wp2
  all_goals (go_ret; exact ⟨rfl, rfl⟩)

theorem rup_4 (u : Int) (h0 : 247 ≤ u) (h1 : u ≤ 247) (w : World) : Calls Tryd.prog 36 #[.int .u16 u] w fun e w' => e = .returned (.int .u16 (upM u)) ∧ w' = w := by
  have hm : upM u = u := by
    unfold upM
    simp only [rowsL, upL]
    rw [if_neg (by simp only [hitR]; omega), if_neg (by simp only [hitR]; omega), if_neg (by simp only [hitR]; omega), if_neg (by simp only [hitR]; omega), if_neg (by simp only [hitR]; omega), if_neg (by simp only [hitR]; omega), if_neg (by simp only [hitR]; omega), if_neg (by simp only [hitR]; omega), if_neg (by simp only [hitR]; omega), if_neg (by simp only [hitR]; omega), if_neg (by simp only [hitR]; omega), if_neg (by simp only [hitR]; omega), if_neg (by simp only [hitR]; omega)]
  rw [hm]
  have g97 : 97 ≤ u := by omega
  have g224 : 224 ≤ u := by omega
  have g248 : ¬ 248 ≤ u := by omega
  have g945 : ¬ 945 ≤ u := by omega
  have g963 : ¬ 963 ≤ u := by omega
  have g1072 : ¬ 1072 ≤ u := by omega
  have g257 : ¬ 257 ≤ u := by omega
  have g331 : ¬ 331 ≤ u := by omega
  have g1121 : ¬ 1121 ≤ u := by omega
  have g314 : ¬ 314 ≤ u := by omega
  have g1104 : ¬ 1104 ≤ u := by omega
  have l122 : ¬ u ≤ 122 := by omega
  have l246 : ¬ u ≤ 246 := by omega
  have l254 : u ≤ 254 := by omega
  have l961 : u ≤ 961 := by omega
  have l969 : u ≤ 969 := by omega
  have l1103 : u ≤ 1103 := by omega
  have l311 : u ≤ 311 := by omega
  have l375 : u ≤ 375 := by omega
  have l1153 : u ≤ 1153 := by omega
  have l328 : u ≤ 328 := by omega
  have l1119 : u ≤ 1119 := by omega
  have e255 : ¬ u = 255 := by omega
  have e962 : ¬ u = 962 := by omega
  obtain ⟨q, hq⟩ : ∃ q : Bool, decide (u % 2 = 1) = q := ⟨_, rfl⟩
  clear h0 h1 hm
  go_enter Tryd.func36, Tryd.ntmps36
  go_wp2
  all_goals (go_ret; exact ⟨rfl, rfl⟩)

theorem rup_5 (u : Int) (h0 : 248 ≤ u) (h1 : u ≤ 254) (w : World) : Calls Tryd.prog 36 #[.int .u16 u] w fun e w' => e = .returned (.int .u16 (upM u)) ∧ w' = w := by
  have hm : upM u = u - 32 := by
    unfold upM
    simp only [rowsL, upL]
    rw [if_neg (by simp only [hitR]; omega), if_neg (by simp only [hitR]; omega), if_pos (by simp only [hitR]; omega)]
    rfl
  rw [hm]
  have g97 : 97 ≤ u := by omega
  have g224 : 224 ≤ u := by omega
  have g248 : 248 ≤ u := by omega
  have g945 : ¬ 945 ≤ u := by omega
  have g963 : ¬ 963 ≤ u := by omega
  have g1072 : ¬ 1072 ≤ u := by omega
  have g257 : ¬ 257 ≤ u := by omega
  have g331 : ¬ 331 ≤ u := by omega
  have g1121 : ¬ 1121 ≤ u := by omega
  have g314 : ¬ 314 ≤ u := by omega
  have g1104 : ¬ 1104 ≤ u := by omega
  have l122 : ¬ u ≤ 122 := by omega
  have l246 : ¬ u ≤ 246 := by omega
  have l254 : u ≤ 254 := by omega
  have l961 : u ≤ 961 := by omega
  have l969 : u ≤ 969 := by omega
  have l1103 : u ≤ 1103 := by omega
  have l311 : u ≤ 311 := by omega
  have l375 : u ≤ 375 := by omega
  have l1153 : u ≤ 1153 := by omega
  have l328 : u ≤ 328 := by omega
  have l1119 : u ≤ 1119 := by omega
  have e255 : ¬ u = 255 := by omega
  have e962 : ¬ u = 962 := by omega
  obtain ⟨q, hq⟩ : ∃ q : Bool, decide (u % 2 = 1) = q := ⟨_, rfl⟩
  have hw : IntKind.u16.wrap (u - 32) = u - 32 := u16_in _ (by omega) (by omega)
  clear h0 h1 hm
  go_enter Tryd.func36, Tryd.ntmps36
  go_wp2
  all_goals (go_ret; exact ⟨rfl, rfl⟩)

theorem rup_6 (u : Int) (h0 : 255 ≤ u) (h1 : u ≤ 255) (w : World) : Calls Tryd.prog 36 #[.int .u16 u] w fun e w' => e = .returned (.int .u16 (upM u)) ∧ w' = w := by
  have hm : upM u = 376 := by
    unfold upM
    simp only [rowsL, upL]
    rw [if_neg (by simp only [hitR]; omega), if_neg (by simp only [hitR]; omega), if_neg (by simp only [hitR]; omega), if_pos (by simp only [hitR]; omega)]
    omega
  rw [hm]
  have g97 : 97 ≤ u := by omega
  have g224 : 224 ≤ u := by omega
  have g248 : 248 ≤ u := by omega
  have g945 : ¬ 945 ≤ u := by omega
  have g963 : ¬ 963 ≤ u := by omega
  have g1072 : ¬ 1072 ≤ u := by omega
  have g257 : ¬ 257 ≤ u := by omega
  have g331 : ¬ 331 ≤ u := by omega
  have g1121 : ¬ 1121 ≤ u := by omega
  have g314 : ¬ 314 ≤ u := by omega
  have g1104 : ¬ 1104 ≤ u := by omega
  have l122 : ¬ u ≤ 122 := by omega
  have l246 : ¬ u ≤ 246 := by omega
  have l254 : ¬ u ≤ 254 := by omega
  have l961 : u ≤ 961 := by omega
  have l969 : u ≤ 969 := by omega
  have l1103 : u ≤ 1103 := by omega
  have l311 : u ≤ 311 := by omega
  have l375 : u ≤ 375 := by omega
  have l1153 : u ≤ 1153 := by omega
  have l328 : u ≤ 328 := by omega
  have l1119 : u ≤ 1119 := by omega
  have e255 : u = 255 := by omega
  have e962 : ¬ u = 962 := by omega
  obtain ⟨q, hq⟩ : ∃ q : Bool, decide (u % 2 = 1) = q := ⟨_, rfl⟩
  clear h0 h1 hm
  go_enter Tryd.func36, Tryd.ntmps36
  go_wp2
  all_goals (go_ret; exact ⟨rfl, rfl⟩)

theorem rup_7 (u : Int) (h0 : 256 ≤ u) (h1 : u ≤ 256) (w : World) : Calls Tryd.prog 36 #[.int .u16 u] w fun e w' => e = .returned (.int .u16 (upM u)) ∧ w' = w := by
  have hm : upM u = u := by
    unfold upM
    simp only [rowsL, upL]
    rw [if_neg (by simp only [hitR]; omega), if_neg (by simp only [hitR]; omega), if_neg (by simp only [hitR]; omega), if_neg (by simp only [hitR]; omega), if_neg (by simp only [hitR]; omega), if_neg (by simp only [hitR]; omega), if_neg (by simp only [hitR]; omega), if_neg (by simp only [hitR]; omega), if_neg (by simp only [hitR]; omega), if_neg (by simp only [hitR]; omega), if_neg (by simp only [hitR]; omega), if_neg (by simp only [hitR]; omega), if_neg (by simp only [hitR]; omega)]
  rw [hm]
  have g97 : 97 ≤ u := by omega
  have g224 : 224 ≤ u := by omega
  have g248 : 248 ≤ u := by omega
  have g945 : ¬ 945 ≤ u := by omega
  have g963 : ¬ 963 ≤ u := by omega
  have g1072 : ¬ 1072 ≤ u := by omega
  have g257 : ¬ 257 ≤ u := by omega
  have g331 : ¬ 331 ≤ u := by omega
  have g1121 : ¬ 1121 ≤ u := by omega
  have g314 : ¬ 314 ≤ u := by omega
  have g1104 : ¬ 1104 ≤ u := by omega
  have l122 : ¬ u ≤ 122 := by omega
  have l246 : ¬ u ≤ 246 := by omega
  have l254 : ¬ u ≤ 254 := by omega
  have l961 : u ≤ 961 := by omega
  have l969 : u ≤ 969 := by omega
  have l1103 : u ≤ 1103 := by omega
  have l311 : u ≤ 311 := by omega
  have l375 : u ≤ 375 := by omega
  have l1153 : u ≤ 1153 := by omega
  have l328 : u ≤ 328 := by omega
  have l1119 : u ≤ 1119 := by omega
  have e255 : ¬ u = 255 := by omega
  have e962 : ¬ u = 962 := by omega
  obtain ⟨q, hq⟩ : ∃ q : Bool, decide (u % 2 = 1) = q := ⟨_, rfl⟩
  clear h0 h1 hm
  go_enter Tryd.func36, Tryd.ntmps36
  go_wp2
  all_goals (go_ret; exact ⟨rfl, rfl⟩)

theorem rup_8 (u : Int) (h0 : 257 ≤ u) (h1 : u ≤ 311) (hp : u % 2 = 1) (w : World) : Calls Tryd.prog 36 #[.int .u16 u] w fun e w' => e = .returned (.int .u16 (upM u)) ∧ w' = w := by
  have hm : upM u = u - 1 := by
    unfold upM
    simp only [rowsL, upL]
    rw [if_neg (by simp only [hitR]; omega), if_neg (by simp only [hitR]; omega), if_neg (by simp only [hitR]; omega), if_neg (by simp only [hitR]; omega), if_pos (by simp only [hitR]; omega)]
    rfl
  rw [hm]
  have g97 : 97 ≤ u := by omega
  have g224 : 224 ≤ u := by omega
  have g248 : 248 ≤ u := by omega
  have g945 : ¬ 945 ≤ u := by omega
  have g963 : ¬ 963 ≤ u := by omega
  have g1072 : ¬ 1072 ≤ u := by omega
  have g257 : 257 ≤ u := by omega
  have g331 : ¬ 331 ≤ u := by omega
  have g1121 : ¬ 1121 ≤ u := by omega
  have g314 : ¬ 314 ≤ u := by omega
  have g1104 : ¬ 1104 ≤ u := by omega
  have l122 : ¬ u ≤ 122 := by omega
  have l246 : ¬ u ≤ 246 := by omega
  have l254 : ¬ u ≤ 254 := by omega
  have l961 : u ≤ 961 := by omega
  have l969 : u ≤ 969 := by omega
  have l1103 : u ≤ 1103 := by omega
  have l311 : u ≤ 311 := by omega
  have l375 : u ≤ 375 := by omega
  have l1153 : u ≤ 1153 := by omega
  have l328 : u ≤ 328 := by omega
  have l1119 : u ≤ 1119 := by omega
  have e255 : ¬ u = 255 := by omega
  have e962 : ¬ u = 962 := by omega
  have hpar : u % 2 = 1 := by omega
  have hw : IntKind.u16.wrap (u - 1) = u - 1 := u16_in _ (by omega) (by omega)
  clear h0 h1 hm
  go_enter Tryd.func36, Tryd.ntmps36
  go_wp2
  all_goals (go_ret; exact ⟨rfl, rfl⟩)

theorem rup_9 (u : Int) (h0 : 257 ≤ u) (h1 : u ≤ 311) (hp : u % 2 = 0) (w : World) : Calls Tryd.prog 36 #[.int .u16 u] w fun e w' => e = .returned (.int .u16 (upM u)) ∧ w' = w := by
  have hm : upM u = u := by
    unfold upM
    simp only [rowsL, upL]
    rw [if_neg (by simp only [hitR]; omega), if_neg (by simp only [hitR]; omega), if_neg (by simp only [hitR]; omega), if_neg (by simp only [hitR]; omega), if_neg (by simp only [hitR]; omega), if_neg (by simp only [hitR]; omega), if_neg (by simp only [hitR]; omega), if_neg (by simp only [hitR]; omega), if_neg (by simp only [hitR]; omega), if_neg (by simp only [hitR]; omega), if_neg (by simp only [hitR]; omega), if_neg (by simp only [hitR]; omega), if_neg (by simp only [hitR]; omega)]
  rw [hm]
  have g97 : 97 ≤ u := by omega
  have g224 : 224 ≤ u := by omega
  have g248 : 248 ≤ u := by omega
  have g945 : ¬ 945 ≤ u := by omega
  have g963 : ¬ 963 ≤ u := by omega
  have g1072 : ¬ 1072 ≤ u := by omega
  have g257 : 257 ≤ u := by omega
  have g331 : ¬ 331 ≤ u := by omega
  have g1121 : ¬ 1121 ≤ u := by omega
  have g314 : ¬ 314 ≤ u := by omega
  have g1104 : ¬ 1104 ≤ u := by omega
  have l122 : ¬ u ≤ 122 := by omega
  have l246 : ¬ u ≤ 246 := by omega
  have l254 : ¬ u ≤ 254 := by omega
  have l961 : u ≤ 961 := by omega
  have l969 : u ≤ 969 := by omega
  have l1103 : u ≤ 1103 := by omega
  have l311 : u ≤ 311 := by omega
  have l375 : u ≤ 375 := by omega
  have l1153 : u ≤ 1153 := by omega
  have l328 : u ≤ 328 := by omega
  have l1119 : u ≤ 1119 := by omega
  have e255 : ¬ u = 255 := by omega
  have e962 : ¬ u = 962 := by omega
  have hpar : ¬ u % 2 = 1 := by omega
  clear h0 h1 hm
  go_enter Tryd.func36, Tryd.ntmps36
  go_wp2
  all_goals (go_ret; exact ⟨rfl, rfl⟩)

theorem rup_10 (u : Int) (h0 : 312 ≤ u) (h1 : u ≤ 313) (w : World) : Calls Tryd.prog 36 #[.int .u16 u] w fun e w' => e = .returned (.int .u16 (upM u)) ∧ w' = w := by
  have hm : upM u = u := by
    unfold upM
    simp only [rowsL, upL]
    rw [if_neg (by simp only [hitR]; omega), if_neg (by simp only [hitR]; omega), if_neg (by simp only [hitR]; omega), if_neg (by simp only [hitR]; omega), if_neg (by simp only [hitR]; omega), if_neg (by simp only [hitR]; omega), if_neg (by simp only [hitR]; omega), if_neg (by simp only [hitR]; omega), if_neg (by simp only [hitR]; omega), if_neg (by simp only [hitR]; omega), if_neg (by simp only [hitR]; omega), if_neg (by simp only [hitR]; omega), if_neg (by simp only [hitR]; omega)]
  rw [hm]
  have g97 : 97 ≤ u := by omega
  have g224 : 224 ≤ u := by omega
  have g248 : 248 ≤ u := by omega
  have g945 : ¬ 945 ≤ u := by omega
  have g963 : ¬ 963 ≤ u := by omega
  have g1072 : ¬ 1072 ≤ u := by omega
  have g257 : 257 ≤ u := by omega
  have g331 : ¬ 331 ≤ u := by omega
  have g1121 : ¬ 1121 ≤ u := by omega
  have g314 : ¬ 314 ≤ u := by omega
  have g1104 : ¬ 1104 ≤ u := by omega
  have l122 : ¬ u ≤ 122 := by omega
  have l246 : ¬ u ≤ 246 := by omega
  have l254 : ¬ u ≤ 254 := by omega
  have l961 : u ≤ 961 := by omega
  have l969 : u ≤ 969 := by omega
  have l1103 : u ≤ 1103 := by omega
  have l311 : ¬ u ≤ 311 := by omega
  have l375 : u ≤ 375 := by omega
  have l1153 : u ≤ 1153 := by omega
  have l328 : u ≤ 328 := by omega
  have l1119 : u ≤ 1119 := by omega
  have e255 : ¬ u = 255 := by omega
  have e962 : ¬ u = 962 := by omega
  obtain ⟨q, hq⟩ : ∃ q : Bool, decide (u % 2 = 1) = q := ⟨_, rfl⟩
  clear h0 h1 hm
  go_enter Tryd.func36, Tryd.ntmps36
  go_wp2
  all_goals (go_ret; exact ⟨rfl, rfl⟩)

theorem rup_11 (u : Int) (h0 : 314 ≤ u) (h1 : u ≤ 328) (hp : u % 2 = 1) (w : World) : Calls Tryd.prog 36 #[.int .u16 u] w fun e w' => e = .returned (.int .u16 (upM u)) ∧ w' = w := by
  have hm : upM u = u := by
    unfold upM
    simp only [rowsL, upL]
    rw [if_neg (by simp only [hitR]; omega), if_neg (by simp only [hitR]; omega), if_neg (by simp only [hitR]; omega), if_neg (by simp only [hitR]; omega), if_neg (by simp only [hitR]; omega), if_neg (by simp only [hitR]; omega), if_neg (by simp only [hitR]; omega), if_neg (by simp only [hitR]; omega), if_neg (by simp only [hitR]; omega), if_neg (by simp only [hitR]; omega), if_neg (by simp only [hitR]; omega), if_neg (by simp only [hitR]; omega), if_neg (by simp only [hitR]; omega)]
  rw [hm]
  have g97 : 97 ≤ u := by omega
  have g224 : 224 ≤ u := by omega
  have g248 : 248 ≤ u := by omega
  have g945 : ¬ 945 ≤ u := by omega
  have g963 : ¬ 963 ≤ u := by omega
  have g1072 : ¬ 1072 ≤ u := by omega
  have g257 : 257 ≤ u := by omega
  have g331 : ¬ 331 ≤ u := by omega
  have g1121 : ¬ 1121 ≤ u := by omega
  have g314 : 314 ≤ u := by omega
  have g1104 : ¬ 1104 ≤ u := by omega
  have l122 : ¬ u ≤ 122 := by omega
  have l246 : ¬ u ≤ 246 := by omega
  have l254 : ¬ u ≤ 254 := by omega
  have l961 : u ≤ 961 := by omega
  have l969 : u ≤ 969 := by omega
  have l1103 : u ≤ 1103 := by omega
  have l311 : ¬ u ≤ 311 := by omega
  have l375 : u ≤ 375 := by omega
  have l1153 : u ≤ 1153 := by omega
  have l328 : u ≤ 328 := by omega
  have l1119 : u ≤ 1119 := by omega
  have e255 : ¬ u = 255 := by omega
  have e962 : ¬ u = 962 := by omega
  have hpar : u % 2 = 1 := by omega
  clear h0 h1 hm
  go_enter Tryd.func36, Tryd.ntmps36
  go_wp2
  all_goals (go_ret; exact ⟨rfl, rfl⟩)

theorem rup_12 (u : Int) (h0 : 314 ≤ u) (h1 : u ≤ 328) (hp : u % 2 = 0) (w : World) : Calls Tryd.prog 36 #[.int .u16 u] w fun e w' => e = .returned (.int .u16 (upM u)) ∧ w' = w := by
  have hm : upM u = u - 1 := by
    unfold upM
    simp only [rowsL, upL]
    rw [if_neg (by simp only [hitR]; omega), if_neg (by simp only [hitR]; omega), if_neg (by simp only [hitR]; omega), if_neg (by simp only [hitR]; omega), if_neg (by simp only [hitR]; omega), if_pos (by simp only [hitR]; omega)]
    rfl
  rw [hm]
  have g97 : 97 ≤ u := by omega
  have g224 : 224 ≤ u := by omega
  have g248 : 248 ≤ u := by omega
  have g945 : ¬ 945 ≤ u := by omega
  have g963 : ¬ 963 ≤ u := by omega
  have g1072 : ¬ 1072 ≤ u := by omega
  have g257 : 257 ≤ u := by omega
  have g331 : ¬ 331 ≤ u := by omega
  have g1121 : ¬ 1121 ≤ u := by omega
  have g314 : 314 ≤ u := by omega
  have g1104 : ¬ 1104 ≤ u := by omega
  have l122 : ¬ u ≤ 122 := by omega
  have l246 : ¬ u ≤ 246 := by omega
  have l254 : ¬ u ≤ 254 := by omega
  have l961 : u ≤ 961 := by omega
  have l969 : u ≤ 969 := by omega
  have l1103 : u ≤ 1103 := by omega
  have l311 : ¬ u ≤ 311 := by omega
  have l375 : u ≤ 375 := by omega
  have l1153 : u ≤ 1153 := by omega
  have l328 : u ≤ 328 := by omega
  have l1119 : u ≤ 1119 := by omega
  have e255 : ¬ u = 255 := by omega
  have e962 : ¬ u = 962 := by omega
  have hpar : ¬ u % 2 = 1 := by omega
  have hw : IntKind.u16.wrap (u - 1) = u - 1 := u16_in _ (by omega) (by omega)
  clear h0 h1 hm
  go_enter Tryd.func36, Tryd.ntmps36
  go_wp2
  all_goals (go_ret; exact ⟨rfl, rfl⟩)

theorem rup_13 (u : Int) (h0 : 329 ≤ u) (h1 : u ≤ 330) (w : World) : Calls Tryd.prog 36 #[.int .u16 u] w fun e w' => e = .returned (.int .u16 (upM u)) ∧ w' = w := by
  have hm : upM u = u := by
    unfold upM
    simp only [rowsL, upL]
    rw [if_neg (by simp only [hitR]; omega), if_neg (by simp only [hitR]; omega), if_neg (by simp only [hitR]; omega), if_neg (by simp only [hitR]; omega), if_neg (by simp only [hitR]; omega), if_neg (by simp only [hitR]; omega), if_neg (by simp only [hitR]; omega), if_neg (by simp only [hitR]; omega), if_neg (by simp only [hitR]; omega), if_neg (by simp only [hitR]; omega), if_neg (by simp only [hitR]; omega), if_neg (by simp only [hitR]; omega), if_neg (by simp only [hitR]; omega)]
  rw [hm]
  have g97 : 97 ≤ u := by omega
  have g224 : 224 ≤ u := by omega
  have g248 : 248 ≤ u := by omega
  have g945 : ¬ 945 ≤ u := by omega
  have g963 : ¬ 963 ≤ u := by omega
  have g1072 : ¬ 1072 ≤ u := by omega
  have g257 : 257 ≤ u := by omega
  have g331 : ¬ 331 ≤ u := by omega
  have g1121 : ¬ 1121 ≤ u := by omega
  have g314 : 314 ≤ u := by omega
  have g1104 : ¬ 1104 ≤ u := by omega
  have l122 : ¬ u ≤ 122 := by omega
  have l246 : ¬ u ≤ 246 := by omega
  have l254 : ¬ u ≤ 254 := by omega
  have l961 : u ≤ 961 := by omega
  have l969 : u ≤ 969 := by omega
  have l1103 : u ≤ 1103 := by omega
  have l311 : ¬ u ≤ 311 := by omega
  have l375 : u ≤ 375 := by omega
  have l1153 : u ≤ 1153 := by omega
  have l328 : ¬ u ≤ 328 := by omega
  have l1119 : u ≤ 1119 := by omega
  have e255 : ¬ u = 255 := by omega
  have e962 : ¬ u = 962 := by omega
  obtain ⟨q, hq⟩ : ∃ q : Bool, decide (u % 2 = 1) = q := ⟨_, rfl⟩
  clear h0 h1 hm
  go_enter Tryd.func36, Tryd.ntmps36
  go_wp2
  all_goals (go_ret; exact ⟨rfl, rfl⟩)

theorem rup_14 (u : Int) (h0 : 331 ≤ u) (h1 : u ≤ 375) (hp : u % 2 = 1) (w : World) : Calls Tryd.prog 36 #[.int .u16 u] w fun e w' => e = .returned (.int .u16 (upM u)) ∧ w' = w := by
  have hm : upM u = u - 1 := by
    unfold upM
    simp only [rowsL, upL]
    rw [if_neg (by simp only [hitR]; omega), if_neg (by simp only [hitR]; omega), if_neg (by simp only [hitR]; omega), if_neg (by simp only [hitR]; omega), if_neg (by simp only [hitR]; omega), if_neg (by simp only [hitR]; omega), if_pos (by simp only [hitR]; omega)]
    rfl
  rw [hm]
  have g97 : 97 ≤ u := by omega
  have g224 : 224 ≤ u := by omega
  have g248 : 248 ≤ u := by omega
  have g945 : ¬ 945 ≤ u := by omega
  have g963 : ¬ 963 ≤ u := by omega
  have g1072 : ¬ 1072 ≤ u := by omega
  have g257 : 257 ≤ u := by omega
  have g331 : 331 ≤ u := by omega
  have g1121 : ¬ 1121 ≤ u := by omega
  have g314 : 314 ≤ u := by omega
  have g1104 : ¬ 1104 ≤ u := by omega
  have l122 : ¬ u ≤ 122 := by omega
  have l246 : ¬ u ≤ 246 := by omega
  have l254 : ¬ u ≤ 254 := by omega
  have l961 : u ≤ 961 := by omega
  have l969 : u ≤ 969 := by omega
  have l1103 : u ≤ 1103 := by omega
  have l311 : ¬ u ≤ 311 := by omega
  have l375 : u ≤ 375 := by omega
  have l1153 : u ≤ 1153 := by omega
  have l328 : ¬ u ≤ 328 := by omega
  have l1119 : u ≤ 1119 := by omega
  have e255 : ¬ u = 255 := by omega
  have e962 : ¬ u = 962 := by omega
  have hpar : u % 2 = 1 := by omega
  have hw : IntKind.u16.wrap (u - 1) = u - 1 := u16_in _ (by omega) (by omega)
  clear h0 h1 hm
  go_enter Tryd.func36, Tryd.ntmps36
  go_wp2
  all_goals (go_ret; exact ⟨rfl, rfl⟩)

theorem rup_15 (u : Int) (h0 : 331 ≤ u) (h1 : u ≤ 375) (hp : u % 2 = 0) (w : World) : Calls Tryd.prog 36 #[.int .u16 u] w fun e w' => e = .returned (.int .u16 (upM u)) ∧ w' = w := by
  have hm : upM u = u := by
    unfold upM
    simp only [rowsL, upL]
    rw [if_neg (by simp only [hitR]; omega), if_neg (by simp only [hitR]; omega), if_neg (by simp only [hitR]; omega), if_neg (by simp only [hitR]; omega), if_neg (by simp only [hitR]; omega), if_neg (by simp only [hitR]; omega), if_neg (by simp only [hitR]; omega), if_neg (by simp only [hitR]; omega), if_neg (by simp only [hitR]; omega), if_neg (by simp only [hitR]; omega), if_neg (by simp only [hitR]; omega), if_neg (by simp only [hitR]; omega), if_neg (by simp only [hitR]; omega)]
  rw [hm]
  have g97 : 97 ≤ u := by omega
  have g224 : 224 ≤ u := by omega
  have g248 : 248 ≤ u := by omega
  have g945 : ¬ 945 ≤ u := by omega
  have g963 : ¬ 963 ≤ u := by omega
  have g1072 : ¬ 1072 ≤ u := by omega
  have g257 : 257 ≤ u := by omega
  have g331 : 331 ≤ u := by omega
  have g1121 : ¬ 1121 ≤ u := by omega
  have g314 : 314 ≤ u := by omega
  have g1104 : ¬ 1104 ≤ u := by omega
  have l122 : ¬ u ≤ 122 := by omega
  have l246 : ¬ u ≤ 246 := by omega
  have l254 : ¬ u ≤ 254 := by omega
  have l961 : u ≤ 961 := by omega
  have l969 : u ≤ 969 := by omega
  have l1103 : u ≤ 1103 := by omega
  have l311 : ¬ u ≤ 311 := by omega
  have l375 : u ≤ 375 := by omega
  have l1153 : u ≤ 1153 := by omega
  have l328 : ¬ u ≤ 328 := by omega
  have l1119 : u ≤ 1119 := by omega
  have e255 : ¬ u = 255 := by omega
  have e962 : ¬ u = 962 := by omega
  have hpar : ¬ u % 2 = 1 := by omega
  clear h0 h1 hm
  go_enter Tryd.func36, Tryd.ntmps36
  go_wp2
  all_goals (go_ret; exact ⟨rfl, rfl⟩)

theorem rup_16 (u : Int) (h0 : 376 ≤ u) (h1 : u ≤ 944) (w : World) : Calls Tryd.prog 36 #[.int .u16 u] w fun e w' => e = .returned (.int .u16 (upM u)) ∧ w' = w := by
  have hm : upM u = u := by
    unfold upM
    simp only [rowsL, upL]
    rw [if_neg (by simp only [hitR]; omega), if_neg (by simp only [hitR]; omega), if_neg (by simp only [hitR]; omega), if_neg (by simp only [hitR]; omega), if_neg (by simp only [hitR]; omega), if_neg (by simp only [hitR]; omega), if_neg (by simp only [hitR]; omega), if_neg (by simp only [hitR]; omega), if_neg (by simp only [hitR]; omega), if_neg (by simp only [hitR]; omega), if_neg (by simp only [hitR]; omega), if_neg (by simp only [hitR]; omega), if_neg (by simp only [hitR]; omega)]
  rw [hm]
  have g97 : 97 ≤ u := by omega
  have g224 : 224 ≤ u := by omega
  have g248 : 248 ≤ u := by omega
  have g945 : ¬ 945 ≤ u := by omega
  have g963 : ¬ 963 ≤ u := by omega
  have g1072 : ¬ 1072 ≤ u := by omega
  have g257 : 257 ≤ u := by omega
  have g331 : 331 ≤ u := by omega
  have g1121 : ¬ 1121 ≤ u := by omega
  have g314 : 314 ≤ u := by omega
  have g1104 : ¬ 1104 ≤ u := by omega
  have l122 : ¬ u ≤ 122 := by omega
  have l246 : ¬ u ≤ 246 := by omega
  have l254 : ¬ u ≤ 254 := by omega
  have l961 : u ≤ 961 := by omega
  have l969 : u ≤ 969 := by omega
  have l1103 : u ≤ 1103 := by omega
  have l311 : ¬ u ≤ 311 := by omega
  have l375 : ¬ u ≤ 375 := by omega
  have l1153 : u ≤ 1153 := by omega
  have l328 : ¬ u ≤ 328 := by omega
  have l1119 : u ≤ 1119 := by omega
  have e255 : ¬ u = 255 := by omega
  have e962 : ¬ u = 962 := by omega
  obtain ⟨q, hq⟩ : ∃ q : Bool, decide (u % 2 = 1) = q := ⟨_, rfl⟩
  clear h0 h1 hm
  go_enter Tryd.func36, Tryd.ntmps36
  go_wp2
  all_goals (go_ret; exact ⟨rfl, rfl⟩)

theorem rup_17 (u : Int) (h0 : 945 ≤ u) (h1 : u ≤ 961) (w : World) : Calls Tryd.prog 36 #[.int .u16 u] w fun e w' => e = .returned (.int .u16 (upM u)) ∧ w' = w := by
  have hm : upM u = u - 32 := by
    unfold upM
    simp only [rowsL, upL]
    rw [if_neg (by simp only [hitR]; omega), if_neg (by simp only [hitR]; omega), if_neg (by simp only [hitR]; omega), if_neg (by simp only [hitR]; omega), if_neg (by simp only [hitR]; omega), if_neg (by simp only [hitR]; omega), if_neg (by simp only [hitR]; omega), if_pos (by simp only [hitR]; omega)]
    rfl
  rw [hm]
  have g97 : 97 ≤ u := by omega
  have g224 : 224 ≤ u := by omega
  have g248 : 248 ≤ u := by omega
  have g945 : 945 ≤ u := by omega
  have g963 : ¬ 963 ≤ u := by omega
  have g1072 : ¬ 1072 ≤ u := by omega
  have g257 : 257 ≤ u := by omega
  have g331 : 331 ≤ u := by omega
  have g1121 : ¬ 1121 ≤ u := by omega
  have g314 : 314 ≤ u := by omega
  have g1104 : ¬ 1104 ≤ u := by omega
  have l122 : ¬ u ≤ 122 := by omega
  have l246 : ¬ u ≤ 246 := by omega
  have l254 : ¬ u ≤ 254 := by omega
  have l961 : u ≤ 961 := by omega
  have l969 : u ≤ 969 := by omega
  have l1103 : u ≤ 1103 := by omega
  have l311 : ¬ u ≤ 311 := by omega
  have l375 : ¬ u ≤ 375 := by omega
  have l1153 : u ≤ 1153 := by omega
  have l328 : ¬ u ≤ 328 := by omega
  have l1119 : u ≤ 1119 := by omega
  have e255 : ¬ u = 255 := by omega
  have e962 : ¬ u = 962 := by omega
  obtain ⟨q, hq⟩ : ∃ q : Bool, decide (u % 2 = 1) = q := ⟨_, rfl⟩
  have hw : IntKind.u16.wrap (u - 32) = u - 32 := u16_in _ (by omega) (by omega)
  clear h0 h1 hm
  go_enter Tryd.func36, Tryd.ntmps36
  go_wp2
  all_goals (go_ret; exact ⟨rfl, rfl⟩)

theorem rup_18 (u : Int) (h0 : 962 ≤ u) (h1 : u ≤ 962) (w : World) : Calls Tryd.prog 36 #[.int .u16 u] w fun e w' => e = .returned (.int .u16 (upM u)) ∧ w' = w := by
  have hm : upM u = 931 := by
    unfold upM
    simp only [rowsL, upL]
    rw [if_neg (by simp only [hitR]; omega), if_neg (by simp only [hitR]; omega), if_neg (by simp only [hitR]; omega), if_neg (by simp only [hitR]; omega), if_neg (by simp only [hitR]; omega), if_neg (by simp only [hitR]; omega), if_neg (by simp only [hitR]; omega), if_neg (by simp only [hitR]; omega), if_pos (by simp only [hitR]; omega)]
    omega
  rw [hm]
  have g97 : 97 ≤ u := by omega
  have g224 : 224 ≤ u := by omega
  have g248 : 248 ≤ u := by omega
  have g945 : 945 ≤ u := by omega
  have g963 : ¬ 963 ≤ u := by omega
  have g1072 : ¬ 1072 ≤ u := by omega
  have g257 : 257 ≤ u := by omega
  have g331 : 331 ≤ u := by omega
  have g1121 : ¬ 1121 ≤ u := by omega
  have g314 : 314 ≤ u := by omega
  have g1104 : ¬ 1104 ≤ u := by omega
  have l122 : ¬ u ≤ 122 := by omega
  have l246 : ¬ u ≤ 246 := by omega
  have l254 : ¬ u ≤ 254 := by omega
  have l961 : ¬ u ≤ 961 := by omega
  have l969 : u ≤ 969 := by omega
  have l1103 : u ≤ 1103 := by omega
  have l311 : ¬ u ≤ 311 := by omega
  have l375 : ¬ u ≤ 375 := by omega
  have l1153 : u ≤ 1153 := by omega
  have l328 : ¬ u ≤ 328 := by omega
  have l1119 : u ≤ 1119 := by omega
  have e255 : ¬ u = 255 := by omega
  have e962 : u = 962 := by omega
  obtain ⟨q, hq⟩ : ∃ q : Bool, decide (u % 2 = 1) = q := ⟨_, rfl⟩
  clear h0 h1 hm
  go_enter Tryd.func36, Tryd.ntmps36
  go_wp2
  all_goals (go_ret; exact ⟨rfl, rfl⟩)

theorem rup_19 (u : Int) (h0 : 963 ≤ u) (h1 : u ≤ 969) (w : World) : Calls Tryd.prog 36 #[.int .u16 u] w fun e w' => e = .returned (.int .u16 (upM u)) ∧ w' = w := by
  have hm : upM u = u - 32 := by
    unfold upM
    simp only [rowsL, upL]
    rw [if_neg (by simp only [hitR]; omega), if_neg (by simp only [hitR]; omega), if_neg (by simp only [hitR]; omega), if_neg (by simp only [hitR]; omega), if_neg (by simp only [hitR]; omega), if_neg (by simp only [hitR]; omega), if_neg (by simp only [hitR]; omega), if_neg (by simp only [hitR]; omega), if_neg (by simp only [hitR]; omega), if_pos (by simp only [hitR]; omega)]
    rfl
  rw [hm]
  have g97 : 97 ≤ u := by omega
  have g224 : 224 ≤ u := by omega
  have g248 : 248 ≤ u := by omega
  have g945 : 945 ≤ u := by omega
  have g963 : 963 ≤ u := by omega
  have g1072 : ¬ 1072 ≤ u := by omega
  have g257 : 257 ≤ u := by omega
  have g331 : 331 ≤ u := by omega
  have g1121 : ¬ 1121 ≤ u := by omega
  have g314 : 314 ≤ u := by omega
  have g1104 : ¬ 1104 ≤ u := by omega
  have l122 : ¬ u ≤ 122 := by omega
  have l246 : ¬ u ≤ 246 := by omega
  have l254 : ¬ u ≤ 254 := by omega
  have l961 : ¬ u ≤ 961 := by omega
  have l969 : u ≤ 969 := by omega
  have l1103 : u ≤ 1103 := by omega
  have l311 : ¬ u ≤ 311 := by omega
  have l375 : ¬ u ≤ 375 := by omega
  have l1153 : u ≤ 1153 := by omega
  have l328 : ¬ u ≤ 328 := by omega
  have l1119 : u ≤ 1119 := by omega
  have e255 : ¬ u = 255 := by omega
  have e962 : ¬ u = 962 := by omega
  obtain ⟨q, hq⟩ : ∃ q : Bool, decide (u % 2 = 1) = q := ⟨_, rfl⟩
  have hw : IntKind.u16.wrap (u - 32) = u - 32 := u16_in _ (by omega) (by omega)
  clear h0 h1 hm
  go_enter Tryd.func36, Tryd.ntmps36
  go_wp2
  all_goals (go_ret; exact ⟨rfl, rfl⟩)

theorem rup_20 (u : Int) (h0 : 970 ≤ u) (h1 : u ≤ 1071) (w : World) : Calls Tryd.prog 36 #[.int .u16 u] w fun e w' => e = .returned (.int .u16 (upM u)) ∧ w' = w := by
  have hm : upM u = u := by
    unfold upM
    simp only [rowsL, upL]
    rw [if_neg (by simp only [hitR]; omega), if_neg (by simp only [hitR]; omega), if_neg (by simp only [hitR]; omega), if_neg (by simp only [hitR]; omega), if_neg (by simp only [hitR]; omega), if_neg (by simp only [hitR]; omega), if_neg (by simp only [hitR]; omega), if_neg (by simp only [hitR]; omega), if_neg (by simp only [hitR]; omega), if_neg (by simp only [hitR]; omega), if_neg (by simp only [hitR]; omega), if_neg (by simp only [hitR]; omega), if_neg (by simp only [hitR]; omega)]
  rw [hm]
  have g97 : 97 ≤ u := by omega
  have g224 : 224 ≤ u := by omega
  have g248 : 248 ≤ u := by omega
  have g945 : 945 ≤ u := by omega
  have g963 : 963 ≤ u := by omega
  have g1072 : ¬ 1072 ≤ u := by omega
  have g257 : 257 ≤ u := by omega
  have g331 : 331 ≤ u := by omega
  have g1121 : ¬ 1121 ≤ u := by omega
  have g314 : 314 ≤ u := by omega
  have g1104 : ¬ 1104 ≤ u := by omega
  have l122 : ¬ u ≤ 122 := by omega
  have l246 : ¬ u ≤ 246 := by omega
  have l254 : ¬ u ≤ 254 := by omega
  have l961 : ¬ u ≤ 961 := by omega
  have l969 : ¬ u ≤ 969 := by omega
  have l1103 : u ≤ 1103 := by omega
  have l311 : ¬ u ≤ 311 := by omega
  have l375 : ¬ u ≤ 375 := by omega
  have l1153 : u ≤ 1153 := by omega
  have l328 : ¬ u ≤ 328 := by omega
  have l1119 : u ≤ 1119 := by omega
  have e255 : ¬ u = 255 := by omega
  have e962 : ¬ u = 962 := by omega
  obtain ⟨q, hq⟩ : ∃ q : Bool, decide (u % 2 = 1) = q := ⟨_, rfl⟩
  clear h0 h1 hm
  go_enter Tryd.func36, Tryd.ntmps36
  go_wp2
  all_goals (go_ret; exact ⟨rfl, rfl⟩)

theorem rup_21 (u : Int) (h0 : 1072 ≤ u) (h1 : u ≤ 1103) (w : World) : Calls Tryd.prog 36 #[.int .u16 u] w fun e w' => e = .returned (.int .u16 (upM u)) ∧ w' = w := by
  have hm : upM u = u - 32 := by
    unfold upM
    simp only [rowsL, upL]
    rw [if_neg (by simp only [hitR]; omega), if_neg (by simp only [hitR]; omega), if_neg (by simp only [hitR]; omega), if_neg (by simp only [hitR]; omega), if_neg (by simp only [hitR]; omega), if_neg (by simp only [hitR]; omega), if_neg (by simp only [hitR]; omega), if_neg (by simp only [hitR]; omega), if_neg (by simp only [hitR]; omega), if_neg (by simp only [hitR]; omega), if_pos (by simp only [hitR]; omega)]
    rfl
  rw [hm]
  have g97 : 97 ≤ u := by omega
  have g224 : 224 ≤ u := by omega
  have g248 : 248 ≤ u := by omega
  have g945 : 945 ≤ u := by omega
  have g963 : 963 ≤ u := by omega
  have g1072 : 1072 ≤ u := by omega
  have g257 : 257 ≤ u := by omega
  have g331 : 331 ≤ u := by omega
  have g1121 : ¬ 1121 ≤ u := by omega
  have g314 : 314 ≤ u := by omega
  have g1104 : ¬ 1104 ≤ u := by omega
  have l122 : ¬ u ≤ 122 := by omega
  have l246 : ¬ u ≤ 246 := by omega
  have l254 : ¬ u ≤ 254 := by omega
  have l961 : ¬ u ≤ 961 := by omega
  have l969 : ¬ u ≤ 969 := by omega
  have l1103 : u ≤ 1103 := by omega
  have l311 : ¬ u ≤ 311 := by omega
  have l375 : ¬ u ≤ 375 := by omega
  have l1153 : u ≤ 1153 := by omega
  have l328 : ¬ u ≤ 328 := by omega
  have l1119 : u ≤ 1119 := by omega
  have e255 : ¬ u = 255 := by omega
  have e962 : ¬ u = 962 := by omega
  obtain ⟨q, hq⟩ : ∃ q : Bool, decide (u % 2 = 1) = q := ⟨_, rfl⟩
  have hw : IntKind.u16.wrap (u - 32) = u - 32 := u16_in _ (by omega) (by omega)
  clear h0 h1 hm
  go_enter Tryd.func36, Tryd.ntmps36
  go_wp2
  all_goals (go_ret; exact ⟨rfl, rfl⟩)

theorem rup_22 (u : Int) (h0 : 1104 ≤ u) (h1 : u ≤ 1119) (w : World) : Calls Tryd.prog 36 #[.int .u16 u] w fun e w' => e = .returned (.int .u16 (upM u)) ∧ w' = w := by
  have hm : upM u = u - 80 := by
    unfold upM
    simp only [rowsL, upL]
    rw [if_neg (by simp only [hitR]; omega), if_neg (by simp only [hitR]; omega), if_neg (by simp only [hitR]; omega), if_neg (by simp only [hitR]; omega), if_neg (by simp only [hitR]; omega), if_neg (by simp only [hitR]; omega), if_neg (by simp only [hitR]; omega), if_neg (by simp only [hitR]; omega), if_neg (by simp only [hitR]; omega), if_neg (by simp only [hitR]; omega), if_neg (by simp only [hitR]; omega), if_pos (by simp only [hitR]; omega)]
    rfl
  rw [hm]
  have g97 : 97 ≤ u := by omega
  have g224 : 224 ≤ u := by omega
  have g248 : 248 ≤ u := by omega
  have g945 : 945 ≤ u := by omega
  have g963 : 963 ≤ u := by omega
  have g1072 : 1072 ≤ u := by omega
  have g257 : 257 ≤ u := by omega
  have g331 : 331 ≤ u := by omega
  have g1121 : ¬ 1121 ≤ u := by omega
  have g314 : 314 ≤ u := by omega
  have g1104 : 1104 ≤ u := by omega
  have l122 : ¬ u ≤ 122 := by omega
  have l246 : ¬ u ≤ 246 := by omega
  have l254 : ¬ u ≤ 254 := by omega
  have l961 : ¬ u ≤ 961 := by omega
  have l969 : ¬ u ≤ 969 := by omega
  have l1103 : ¬ u ≤ 1103 := by omega
  have l311 : ¬ u ≤ 311 := by omega
  have l375 : ¬ u ≤ 375 := by omega
  have l1153 : u ≤ 1153 := by omega
  have l328 : ¬ u ≤ 328 := by omega
  have l1119 : u ≤ 1119 := by omega
  have e255 : ¬ u = 255 := by omega
  have e962 : ¬ u = 962 := by omega
  obtain ⟨q, hq⟩ : ∃ q : Bool, decide (u % 2 = 1) = q := ⟨_, rfl⟩
  have hw : IntKind.u16.wrap (u - 80) = u - 80 := u16_in _ (by omega) (by omega)
  clear h0 h1 hm
  go_enter Tryd.func36, Tryd.ntmps36
  go_wp2
  all_goals (go_ret; exact ⟨rfl, rfl⟩)

theorem rup_23 (u : Int) (h0 : 1120 ≤ u) (h1 : u ≤ 1120) (w : World) : Calls Tryd.prog 36 #[.int .u16 u] w fun e w' => e = .returned (.int .u16 (upM u)) ∧ w' = w := by
  have hm : upM u = u := by
    unfold upM
    simp only [rowsL, upL]
    rw [if_neg (by simp only [hitR]; omega), if_neg (by simp only [hitR]; omega), if_neg (by simp only [hitR]; omega), if_neg (by simp only [hitR]; omega), if_neg (by simp only [hitR]; omega), if_neg (by simp only [hitR]; omega), if_neg (by simp only [hitR]; omega), if_neg (by simp only [hitR]; omega), if_neg (by simp only [hitR]; omega), if_neg (by simp only [hitR]; omega), if_neg (by simp only [hitR]; omega), if_neg (by simp only [hitR]; omega), if_neg (by simp only [hitR]; omega)]
  rw [hm]
  have g97 : 97 ≤ u := by omega
  have g224 : 224 ≤ u := by omega
  have g248 : 248 ≤ u := by omega
  have g945 : 945 ≤ u := by omega
  have g963 : 963 ≤ u := by omega
  have g1072 : 1072 ≤ u := by omega
  have g257 : 257 ≤ u := by omega
  have g331 : 331 ≤ u := by omega
  have g1121 : ¬ 1121 ≤ u := by omega
  have g314 : 314 ≤ u := by omega
  have g1104 : 1104 ≤ u := by omega
  have l122 : ¬ u ≤ 122 := by omega
  have l246 : ¬ u ≤ 246 := by omega
  have l254 : ¬ u ≤ 254 := by omega
  have l961 : ¬ u ≤ 961 := by omega
  have l969 : ¬ u ≤ 969 := by omega
  have l1103 : ¬ u ≤ 1103 := by omega
  have l311 : ¬ u ≤ 311 := by omega
  have l375 : ¬ u ≤ 375 := by omega
  have l1153 : u ≤ 1153 := by omega
  have l328 : ¬ u ≤ 328 := by omega
  have l1119 : ¬ u ≤ 1119 := by omega
  have e255 : ¬ u = 255 := by omega
  have e962 : ¬ u = 962 := by omega
  obtain ⟨q, hq⟩ : ∃ q : Bool, decide (u % 2 = 1) = q := ⟨_, rfl⟩
  clear h0 h1 hm
  go_enter Tryd.func36, Tryd.ntmps36
  go_wp2
  all_goals (go_ret; exact ⟨rfl, rfl⟩)

theorem rup_24 (u : Int) (h0 : 1121 ≤ u) (h1 : u ≤ 1153) (hp : u % 2 = 1) (w : World) : Calls Tryd.prog 36 #[.int .u16 u] w fun e w' => e = .returned (.int .u16 (upM u)) ∧ w' = w := by
  have hm : upM u = u - 1 := by
    unfold upM
    simp only [rowsL, upL]
    rw [if_neg (by simp only [hitR]; omega), if_neg (by simp only [hitR]; omega), if_neg (by simp only [hitR]; omega), if_neg (by simp only [hitR]; omega), if_neg (by simp only [hitR]; omega), if_neg (by simp only [hitR]; omega), if_neg (by simp only [hitR]; omega), if_neg (by simp only [hitR]; omega), if_neg (by simp only [hitR]; omega), if_neg (by simp only [hitR]; omega), if_neg (by simp only [hitR]; omega), if_neg (by simp only [hitR]; omega), if_pos (by simp only [hitR]; omega)]
    rfl
  rw [hm]
  have g97 : 97 ≤ u := by omega
  have g224 : 224 ≤ u := by omega
  have g248 : 248 ≤ u := by omega
  have g945 : 945 ≤ u := by omega
  have g963 : 963 ≤ u := by omega
  have g1072 : 1072 ≤ u := by omega
  have g257 : 257 ≤ u := by omega
  have g331 : 331 ≤ u := by omega
  have g1121 : 1121 ≤ u := by omega
  have g314 : 314 ≤ u := by omega
  have g1104 : 1104 ≤ u := by omega
  have l122 : ¬ u ≤ 122 := by omega
  have l246 : ¬ u ≤ 246 := by omega
  have l254 : ¬ u ≤ 254 := by omega
  have l961 : ¬ u ≤ 961 := by omega
  have l969 : ¬ u ≤ 969 := by omega
  have l1103 : ¬ u ≤ 1103 := by omega
  have l311 : ¬ u ≤ 311 := by omega
  have l375 : ¬ u ≤ 375 := by omega
  have l1153 : u ≤ 1153 := by omega
  have l328 : ¬ u ≤ 328 := by omega
  have l1119 : ¬ u ≤ 1119 := by omega
  have e255 : ¬ u = 255 := by omega
  have e962 : ¬ u = 962 := by omega
  have hpar : u % 2 = 1 := by omega
  have hw : IntKind.u16.wrap (u - 1) = u - 1 := u16_in _ (by omega) (by omega)
  clear h0 h1 hm
  go_enter Tryd.func36, Tryd.ntmps36
  go_wp2
  all_goals (go_ret; exact ⟨rfl, rfl⟩)

theorem rup_25 (u : Int) (h0 : 1121 ≤ u) (h1 : u ≤ 1153) (hp : u % 2 = 0) (w : World) : Calls Tryd.prog 36 #[.int .u16 u] w fun e w' => e = .returned (.int .u16 (upM u)) ∧ w' = w := by
  have hm : upM u = u := by
    unfold upM
    simp only [rowsL, upL]
    rw [if_neg (by simp only [hitR]; omega), if_neg (by simp only [hitR]; omega), if_neg (by simp only [hitR]; omega), if_neg (by simp only [hitR]; omega), if_neg (by simp only [hitR]; omega), if_neg (by simp only [hitR]; omega), if_neg (by simp only [hitR]; omega), if_neg (by simp only [hitR]; omega), if_neg (by simp only [hitR]; omega), if_neg (by simp only [hitR]; omega), if_neg (by simp only [hitR]; omega), if_neg (by simp only [hitR]; omega), if_neg (by simp only [hitR]; omega)]
  rw [hm]
  have g97 : 97 ≤ u := by omega
  have g224 : 224 ≤ u := by omega
  have g248 : 248 ≤ u := by omega
  have g945 : 945 ≤ u := by omega
  have g963 : 963 ≤ u := by omega
  have g1072 : 1072 ≤ u := by omega
  have g257 : 257 ≤ u := by omega
  have g331 : 331 ≤ u := by omega
  have g1121 : 1121 ≤ u := by omega
  have g314 : 314 ≤ u := by omega
  have g1104 : 1104 ≤ u := by omega
  have l122 : ¬ u ≤ 122 := by omega
  have l246 : ¬ u ≤ 246 := by omega
  have l254 : ¬ u ≤ 254 := by omega
  have l961 : ¬ u ≤ 961 := by omega
  have l969 : ¬ u ≤ 969 := by omega
  have l1103 : ¬ u ≤ 1103 := by omega
  have l311 : ¬ u ≤ 311 := by omega
  have l375 : ¬ u ≤ 375 := by omega
  have l1153 : u ≤ 1153 := by omega
  have l328 : ¬ u ≤ 328 := by omega
  have l1119 : ¬ u ≤ 1119 := by omega
  have e255 : ¬ u = 255 := by omega
  have e962 : ¬ u = 962 := by omega
  have hpar : ¬ u % 2 = 1 := by omega
  clear h0 h1 hm
  go_enter Tryd.func36, Tryd.ntmps36
  go_wp2
  all_goals (go_ret; exact ⟨rfl, rfl⟩)

theorem rup_26 (u : Int) (h0 : 1154 ≤ u) (h1 : u ≤ 65535) (w : World) : Calls Tryd.prog 36 #[.int .u16 u] w fun e w' => e = .returned (.int .u16 (upM u)) ∧ w' = w := by
  have hm : upM u = u := by
    unfold upM
    simp only [rowsL, upL]
    rw [if_neg (by simp only [hitR]; omega), if_neg (by simp only [hitR]; omega), if_neg (by simp only [hitR]; omega), if_neg (by simp only [hitR]; omega), if_neg (by simp only [hitR]; omega), if_neg (by simp only [hitR]; omega), if_neg (by simp only [hitR]; omega), if_neg (by simp only [hitR]; omega), if_neg (by simp only [hitR]; omega), if_neg (by simp only [hitR]; omega), if_neg (by simp only [hitR]; omega), if_neg (by simp only [hitR]; omega), if_neg (by simp only [hitR]; omega)]
  rw [hm]
  have g97 : 97 ≤ u := by omega
  have g224 : 224 ≤ u := by omega
  have g248 : 248 ≤ u := by omega
  have g945 : 945 ≤ u := by omega
  have g963 : 963 ≤ u := by omega
  have g1072 : 1072 ≤ u := by omega
  have g257 : 257 ≤ u := by omega
  have g331 : 331 ≤ u := by omega
  have g1121 : 1121 ≤ u := by omega
  have g314 : 314 ≤ u := by omega
  have g1104 : 1104 ≤ u := by omega
  have l122 : ¬ u ≤ 122 := by omega
  have l246 : ¬ u ≤ 246 := by omega
  have l254 : ¬ u ≤ 254 := by omega
  have l961 : ¬ u ≤ 961 := by omega
  have l969 : ¬ u ≤ 969 := by omega
  have l1103 : ¬ u ≤ 1103 := by omega
  have l311 : ¬ u ≤ 311 := by omega
  have l375 : ¬ u ≤ 375 := by omega
  have l1153 : ¬ u ≤ 1153 := by omega
  have l328 : ¬ u ≤ 328 := by omega
  have l1119 : ¬ u ≤ 1119 := by omega
  have e255 : ¬ u = 255 := by omega
  have e962 : ¬ u = 962 := by omega
  obtain ⟨q, hq⟩ : ∃ q : Bool, decide (u % 2 = 1) = q := ⟨_, rfl⟩
  clear h0 h1 hm
  go_enter Tryd.func36, Tryd.ntmps36
  go_wp2
  all_goals (go_ret; exact ⟨rfl, rfl⟩)

theorem rup_any (u : Int) (h0 : 0 ≤ u) (h1 : u ≤ 65535) (w : World) : Calls Tryd.prog 36 #[.int .u16 u] w fun e w' => e = .returned (.int .u16 (upM u)) ∧ w' = w := by
  by_cases b0 : u ≤ 96
  · exact rup_0 u (by omega) b0 w
  by_cases b1 : u ≤ 122
  · exact rup_1 u (by omega) b1 w
  by_cases b2 : u ≤ 223
  · exact rup_2 u (by omega) b2 w
  by_cases b3 : u ≤ 246
  · exact rup_3 u (by omega) b3 w
  by_cases b4 : u ≤ 247
  · exact rup_4 u (by omega) b4 w
  by_cases b5 : u ≤ 254
  · exact rup_5 u (by omega) b5 w
  by_cases b6 : u ≤ 255
  · exact rup_6 u (by omega) b6 w
  by_cases b7 : u ≤ 256
  · exact rup_7 u (by omega) b7 w
  by_cases b8 : u ≤ 311
  · by_cases hp : u % 2 = 1
    · exact rup_8 u (by omega) b8 hp w
    · exact rup_9 u (by omega) b8 (by omega) w
  by_cases b10 : u ≤ 313
  · exact rup_10 u (by omega) b10 w
  by_cases b11 : u ≤ 328
  · by_cases hp : u % 2 = 1
    · exact rup_11 u (by omega) b11 hp w
    · exact rup_12 u (by omega) b11 (by omega) w
  by_cases b13 : u ≤ 330
  · exact rup_13 u (by omega) b13 w
  by_cases b14 : u ≤ 375
  · by_cases hp : u % 2 = 1
    · exact rup_14 u (by omega) b14 hp w
    · exact rup_15 u (by omega) b14 (by omega) w
  by_cases b16 : u ≤ 944
  · exact rup_16 u (by omega) b16 w
  by_cases b17 : u ≤ 961
  · exact rup_17 u (by omega) b17 w
  by_cases b18 : u ≤ 962
  · exact rup_18 u (by omega) b18 w
  by_cases b19 : u ≤ 969
  · exact rup_19 u (by omega) b19 w
  by_cases b20 : u ≤ 1071
  · exact rup_20 u (by omega) b20 w
  by_cases b21 : u ≤ 1103
  · exact rup_21 u (by omega) b21 w
  by_cases b22 : u ≤ 1119
  · exact rup_22 u (by omega) b22 w
  by_cases b23 : u ≤ 1120
  · exact rup_23 u (by omega) b23 w
  by_cases b24 : u ≤ 1153
  · by_cases hp : u % 2 = 1
    · exact rup_24 u (by omega) b24 hp w
    · exact rup_25 u (by omega) b24 (by omega) w
  exact rup_26 u (by omega) (by omega) w
end Go.Proofs.YtmbdiimenmnfjaaDoor
/- Walks: the document's order, Raised, Compare, Same. -/
namespace Go.Proofs.YtmbdiimenmnfjaaDoor
open Go.RowKit Go.Deep
open Go.Proofs.YtmbdiimenmnfjaaDoor.PNamesNames
open Go.Proofs.YtmbdiimenmnfjaaDoorW.PrintWords (rd bt Drawn0 Kd)
set_option linter.unusedVariables false
set_option linter.unusedSimpArgs false

theorem order_l (x y : List Int) (hx : x.length ≤ 1000000) : ∀ (k i : Nat), i ≤ x.length → i ≤ y.length → 2 * x.length + 2 < 2 * i + k → archivoltref05_order.l0 k x y (i : Int) = some (cmpU (x.drop i) (y.drop i))
  | 0, i, h1, h2, h3 => by omega
  | 1, i, h1, h2, h3 => by omega
  | k + 2, i, h1, h2, h3 => by
    rw [archivoltref05_order.l0]
    by_cases hi : i < x.length
    · rw [if_pos (by omega)]
      by_cases hj : i < y.length
      · have e1 : decide ((i : Int) < (y.length : Int)) = true := by rw [decide_eq_true_eq]; omega
        have ex : rd x (i : Int) = x.getD i 0 := rfl
        have ey : rd y (i : Int) = y.getD i 0 := rfl
        rw [e1, archivoltref05_order.j1, if_pos rfl, if_pos (by omega), if_pos (by omega), if_pos (by omega), ex, ey, drop_cons hi, drop_cons hj]
        simp only [cmpU]
        by_cases q1 : x.getD i 0 < y.getD i 0
        · rw [if_pos q1, if_pos q1]
        · rw [if_neg q1, if_neg q1]
          by_cases q2 : x.getD i 0 > y.getD i 0
          · rw [if_pos q2, if_pos q2]
          · have ew : wrap64 ((i : Int) + 1) = ((i + 1 : Nat) : Int) := by rw [w64 _ (by omega) (by omega)]; rfl
            rw [if_neg q2, if_neg q2, ew]
            exact order_l x y hx k (i + 1) (by omega) (by omega) (by omega)
      · have e1 : decide ((i : Int) < (y.length : Int)) = false := by rw [decide_eq_false_iff_not]; omega
        rw [e1, archivoltref05_order.j1, if_neg (by decide), drop_cons hi, List.drop_eq_nil_of_le (by omega : y.length ≤ i), if_neg (by omega), if_pos (by omega)]
        rfl
    · rw [if_neg (by omega), archivoltref05_order.j1, if_neg (by decide), List.drop_eq_nil_of_le (by omega : x.length ≤ i)]
      by_cases hj : i < y.length
      · rw [if_pos (by omega), drop_cons hj]; rfl
      · rw [if_neg (by omega), if_neg (by omega), List.drop_eq_nil_of_le (by omega : y.length ≤ i)]; rfl
theorem rorder_any (A0 A1 : Option Addr) (c0 c1 : Nat) (x y : List Int) (w : World) (h0 : Rd w .u16 A0 x.length x) (h1 : Rd w .u16 A1 y.length y) (k0 : x.length ≤ c0) (k1 : y.length ≤ c1) (hl : x.length ≤ 1000000) :
    Calls Tryd.prog 53 #[.slice A0 x.length c0, .slice A1 y.length c1] w fun e w' => e = .returned (.int .i64 (cmpU x y)) ∧ Drawn w w' :=
  (archivoltref05_order.calls (2 * x.length + 3) A0 c0 x A1 c1 y (cmpU x y) w (rdC h0) k0 (rdC h1) k1 (by
    unfold archivoltref05_order.f
    exact order_l x y hl (2 * x.length + 3) 0 (by omega) (by omega) (by omega))).mono fun e w' h => ⟨h.1, drawn0 h.2⟩
theorem rorder_up (A0 A1 : Option Addr) (c0 c1 : Nat) (x y : List Int) (w : World) (h0 : Rd w .u16 A0 x.length (x.map upM)) (h1 : Rd w .u16 A1 y.length (y.map upM)) (k0 : x.length ≤ c0) (k1 : y.length ≤ c1) (hl : x.length ≤ 1000000) :
    Calls Tryd.prog 53 #[.slice A0 x.length c0, .slice A1 y.length c1] w fun e w' => e = .returned (.int .i64 (cmpU (x.map upM) (y.map upM))) ∧ Drawn w w' := by
  have := rorder_any A0 A1 c0 c1 (x.map upM) (y.map upM) w (by rw [map_len]; exact h0) (by rw [map_len]; exact h1) (by rw [map_len]; exact k0) (by rw [map_len]; exact k1) (by rw [map_len]; exact hl)
  rwa [map_len, map_len] at this
theorem runits_ok (s : ByteArray) (hs : s.size ≤ 100000) (x : List Int) (hg : getU s = some x) (w : World) :
    Calls Tryd.prog 34 #[.string s] w fun e w' => (∃ A c, e = .returned (.agg #[.slice A x.length c, .int .i64 0]) ∧ x.length ≤ c ∧ Rd w' .u16 A x.length x) ∧ Below w.heap.size w w' := by
  have h := runits_any s hs w
  have e : refU s = (x, 0) := by unfold refU; rw [hg]
  rw [e] at h
  exact h
theorem runits_no (s : ByteArray) (hs : s.size ≤ 100000) (hg : getU s = none) (w : World) :
    Calls Tryd.prog 34 #[.string s] w fun e w' => (∃ A c, e = .returned (.agg #[.slice A 0 c, .int .i64 4])) ∧ Below w.heap.size w w' := by
  have h := runits_any s hs w
  have e : refU s = ([], 4) := by unfold refU; rw [hg]
  rw [e] at h
  exact h.mono fun e w' ⟨⟨A, c, he, _⟩, hB⟩ => ⟨⟨_, _, he⟩, hB⟩

set_option maxRecDepth 100000 in
set_option maxHeartbeats 4000000 in
theorem rraised_any (A : Option Addr) (c : Nat) (xs : List Int) (hn : xs.length ≤ 40000) (hx : U16 xs) (w : World) (hR : Rd w .u16 A xs.length xs) :
    Calls Tryd.prog 39 #[.slice A xs.length c] w fun e w' => (∃ A' c', e = .returned (.slice A' xs.length c') ∧ xs.length ≤ c' ∧ Rd w' .u16 A' xs.length (xs.map upM)) ∧ Below w.heap.size w w' := by
  obtain ⟨i0, hi, hz0, hz1, hz2⟩ := info_parts info46
  have HR := Lib.hid hR
  have HX := Lib.hid hx
  clear hR hx
  go_enter Tryd.func39, Tryd.ntmps39
  go_wp2
  go_loopw [3, 4] (fun v i W => ∃ j : Nat, j ≤ xs.length ∧ i = .int .i64 j ∧ Hid (W.ownsRow w.heap.size 46 1 v j (numK .u16 ((xs.take j).map upM))) ∧ Hid (Below w.heap.size w W)) (fun _ i _ => xs.length - (intOf i).toNat)
  case atStart => exact ⟨0, by omega, rfl, Lib.hid (World.ownsRow_nil _ _ _ _), Lib.hid (Below.refl _ _)⟩
  case round =>
    obtain ⟨j, hj, rfl, HO, HB⟩ := hrel
    obtain ⟨Aq, cq, rfl, hcq⟩ := own_is_slice HO.out
    by_cases hlt : j < xs.length
    · have hlti : (j : Int) < xs.length := by omega
      obtain ⟨ad, hA, hcl⟩ := (HR.out.below HB.out).at_ j hlt
      subst hA
      obtain ⟨x, hx⟩ : ∃ x, xs.getD j 0 = x := ⟨_, rfl⟩
      have hxb := HX.out.get j
      rw [hx] at hcl hxb
      have htk : (xs.take (j + 1)).map upM = (xs.take j).map upM ++ [upM x] := by rw [List.take_add_one, ← hx, List.getD_eq_getElem?_getD, List.getElem?_eq_getElem hlt, List.map_append]; rfl
      obtain ⟨U, hU⟩ : ∃ U, upM x = U := ⟨_, rfl⟩
      rw [hU] at htk
      have HTK := Lib.hid htk
      have HU := Lib.hid hU
      have hbs := HB.out.size
      clear hx htk hU
      go_wp2_with (first
        | (go_at_call 36; refine (rup_any x (by omega) (by omega) _).mono ?_; rintro e w2 ⟨rfl, rfl⟩; rw [HU.out])
        | (at_builtin; refine wpList_append_own _ rfl _ _ 49 rfl w.heap.size 46 i0 (.int .u16 0) 1 2 Tryd.underlying49 hi hz0 hz1 hz2 rfl (by decide) _ j (numK .u16 ((xs.take j).map upM)) rfl (World.ownsRow.alloc HO.out _) ⟨_, 0, none⟩ 1 1 [.int .u16 U] rfl rfl (cell_new1 _ _ rfl _ _) (by simp [Value.oneCell']) (by simp only [maxLen]; omega) (by omega) (by simp; omega) ?_; intro v' w6 hown6 hgrow6 _; (have HQ6 := Lib.hid hown6); (have HB6 := Lib.hid ((below_al HB.out _).grown hgrow6 (by simp; omega) (fun kk hk => (HO.out.lt kk hk).1))); clear hown6 hgrow6))
      refine ⟨⟨j + 1, by omega, by simp, Lib.hid ?_, HB6⟩, by simp only [intOf]; omega⟩
      rw [HTK.out, numK_append]
      exact HQ6.out
    · have hie : j = xs.length := by omega
      subst hie
      have hlti : ¬ ((xs.length : Int) < xs.length) := by omega
      go_wp2
      go_ret
      have hO := HO.out
      rw [List.take_of_length_le (Nat.le_refl _)] at hO
      obtain ⟨A', c', e, hc', hRd, -⟩ := own_nums hO (by omega)
      cases e
      exact ⟨⟨_, _, rfl, hc', hRd⟩, HB.out⟩

theorem Rd.drew1 {w : World} {k : IntKind} {A : Option Addr} {n : Nat} {xs : List Int} (h : Rd w k A n xs) : Rd w.drew k A n xs := ⟨h.len, h.max, fun j hj => let ⟨ad, e, hc⟩ := h.at_ j hj; ⟨ad, e, hc⟩⟩
theorem two_at {W : World} {b : Nat} {u v : Value} {t : TypeId} (h : W.heap[b]? = some (.cells #[u, v] t (0, 0))) : W.cell? ⟨b, 0, none⟩ = some u ∧ W.cell? ⟨b, 1, none⟩ = some v ∧ W.frozen? ⟨b, 0, none⟩ = false ∧ b < W.heap.size :=
  ⟨by rw [cell_of_row _ _ _ _ _ _ h]; rfl, by rw [cell_of_row _ _ _ _ _ _ h]; rfl, by simp [World.frozen?, h], (Array.getElem?_eq_some_iff.1 h).1⟩

set_option maxRecDepth 100000 in
set_option maxHeartbeats 8000000 in
theorem rsame_any (a b : ByteArray) (ha : a.size ≤ 40000) (hb : b.size ≤ 40000) (w : World) : Calls Tryd.prog 24 #[.string a, .string b] w fun e w' => e = .returned (.bool (sameM a b)) ∧ Below w.heap.size w w' := by
  obtain ⟨C, hC⟩ : ∃ C, sameM a b = C := ⟨_, rfl⟩
  rw [hC]
  have HC := Lib.hid hC
  clear hC
  by_cases he : (a.toList == b.toList) = true
  · have hCt : C = true := by rw [← HC.out]; unfold sameM; rw [he]; rfl
    subst hCt
    go_enter Tryd.func24, Tryd.ntmps24
    go_wp2
    go_ret
    exact ⟨rfl, Below.refl _ _⟩
  · have he' : (a.toList == b.toList) = false := by simpa using he
    clear he
    cases hga : getU a with
    | none =>
      have hCf : C = false := by rw [← HC.out]; unfold sameM; rw [he', hga]; rfl
      subst hCf
      have hb2 : ∀ w, Calls Tryd.prog 34 #[.string b] w fun e w' => (∃ A n c q, e = .returned (.agg #[.slice A n c, .int .i64 q])) ∧ Below w.heap.size w w' := fun w => (runits_any b (by omega) w).mono fun e w' ⟨⟨A, c, he, _⟩, hB⟩ => ⟨⟨_, _, _, _, he⟩, hB⟩
      have HGA := Lib.hid hga
      have HB2 := Lib.hid hb2
      clear hga hb2
      go_enter Tryd.func24, Tryd.ntmps24
      go_upto_region 5 with (first
        | ((have hgd := HB1); clear hgd; go_at_call 34; refine (HB2.out _).mono ?_; rintro e w2 ⟨⟨A2, n2, c2, q2, rfl⟩, hB⟩; (have HX1 := Lib.hid (below_heap HX1.out hB)); (have HB3 := Lib.hid (below_then (below_al HB1.out _) (below_al HB1.out _).size hB)); clear hB)
        | (go_at_call 34; refine (runits_no a (by omega) HGA.out _).mono ?_; rintro e w1 ⟨⟨A1, c1, rfl⟩, hB⟩; (have HX1 := Lib.hid (heap_alloc_new w1 (.cells #[.slice A1 0 c1, .int .i64 4] 55))); (have HB1 := Lib.hid hB); clear hB))
      obtain ⟨B1, hB1⟩ : ∃ B1, w1.heap.size = B1 := ⟨_, rfl⟩
      obtain ⟨B2, hB2⟩ : ∃ B2, w2.heap.size = B2 := ⟨_, rfl⟩
      obtain ⟨W5, hW5⟩ : ∃ W5, w2.alloc (.cells #[.slice A2 n2 c2, .int .i64 q2] 55) = W5 := ⟨_, rfl⟩
      have k1 : W5.heap[B1]? = some (.cells #[.slice A1 0 c1, .int .i64 4] 55 (0, 0)) := by rw [← hW5, ← hB1]; exact heap_al HX1.out
      have k2 : W5.heap[B2]? = some (.cells #[.slice A2 n2 c2, .int .i64 q2] 55 (0, 0)) := by rw [← hW5, ← hB2]; exact heap_alloc_new _ _
      have HB5 : Hid (Below w.heap.size w W5) := Lib.hid (by rw [← hW5]; exact below_al HB3.out _)
      rw [hB1, hB2, hW5]
      obtain ⟨a0, a1, -, a3⟩ := two_at k1
      obtain ⟨b0, b1, -, b3⟩ := two_at k2
      clear hB1 hB2 hW5 k1 k2 HX1
      go_quiet (fail)
      go_wp2
      go_ret
      exact ⟨rfl, below_drewN HB5.out _⟩
    | some x =>
      cases hgb : getU b with
      | none =>
        have hCf : C = false := by rw [← HC.out]; unfold sameM; rw [he', hga, hgb]; rfl
        subst hCf
        have HGA := Lib.hid hga
        have HGB := Lib.hid hgb
        clear hga hgb
        go_enter Tryd.func24, Tryd.ntmps24
        go_upto_region 5 with (first
          | ((have hgd := HB1); clear hgd; go_at_call 34; refine (runits_no b (by omega) HGB.out _).mono ?_; rintro e w2 ⟨⟨A2, c2, rfl⟩, hB⟩; (have HX1 := Lib.hid (below_heap HX1.out hB)); (have HB3 := Lib.hid (below_then (below_al HB1.out _) (below_al HB1.out _).size hB)); clear hB)
          | (go_at_call 34; refine (runits_ok a (by omega) x HGA.out _).mono ?_; rintro e w1 ⟨⟨A1, c1, rfl, hc1, hR⟩, hB⟩; (have HX1 := Lib.hid (heap_alloc_new w1 (.cells #[.slice A1 x.length c1, .int .i64 0] 55))); (have HB1 := Lib.hid hB); clear hB hR))
        obtain ⟨B1, hB1⟩ : ∃ B1, w1.heap.size = B1 := ⟨_, rfl⟩
        obtain ⟨B2, hB2⟩ : ∃ B2, w2.heap.size = B2 := ⟨_, rfl⟩
        obtain ⟨W5, hW5⟩ : ∃ W5, w2.alloc (.cells #[.slice A2 0 c2, .int .i64 4] 55) = W5 := ⟨_, rfl⟩
        have k1 : W5.heap[B1]? = some (.cells #[.slice A1 x.length c1, .int .i64 0] 55 (0, 0)) := by rw [← hW5, ← hB1]; exact heap_al HX1.out
        have k2 : W5.heap[B2]? = some (.cells #[.slice A2 0 c2, .int .i64 4] 55 (0, 0)) := by rw [← hW5, ← hB2]; exact heap_alloc_new _ _
        have HB5 : Hid (Below w.heap.size w W5) := Lib.hid (by rw [← hW5]; exact below_al HB3.out _)
        rw [hB1, hB2, hW5]
        obtain ⟨a0, a1, -, a3⟩ := two_at k1
        obtain ⟨b0, b1, -, b3⟩ := two_at k2
        clear hB1 hB2 hW5 k1 k2 HX1
        go_quiet (fail)
        go_wp2
        go_ret
        exact ⟨rfl, below_drewN HB5.out _⟩
      | some y =>
        obtain ⟨r, hr⟩ : ∃ r, cmpU (x.map upM) (y.map upM) = r := ⟨_, rfl⟩
        have hCr : (r == 0) = C := by
          rw [← HC.out]; unfold sameM; rw [he', hga, hgb]
          simp only [Bool.false_or]
          rw [Bool.eq_iff_iff, beq_iff_eq, decide_eq_true_eq, ← hr, cmpU_zero]
        have hpx := getU_props hga
        have hpy := getU_props hgb
        have HR := Lib.hid hr
        have HXU := Lib.hid hpx.1
        have HYU := Lib.hid hpy.1
        have hlx : x.length ≤ 4096 := hpx.2.2
        have hly : y.length ≤ 4096 := hpy.2.2
        have HGA := Lib.hid hga
        have HGB := Lib.hid hgb
        clear hga hgb hpx hpy hr
        go_enter Tryd.func24, Tryd.ntmps24
        go_upto_region 5 with (first
          | ((have hgd := HB1); clear hgd; go_at_call 34; refine (runits_ok b (by omega) y HGB.out _).mono ?_; rintro e w2 ⟨⟨A2, c2, rfl, hc2, hR⟩, hB⟩; (have HX1 := Lib.hid (below_heap HX1.out hB)); (have HR1 := Lib.hid ((HR1.out.below (one_alloc _ _)).below hB)); (have HR2 := Lib.hid hR); (have HB3 := Lib.hid (below_then (below_al HB1.out _) (below_al HB1.out _).size hB)); clear hB hR)
          | (go_at_call 34; refine (runits_ok a (by omega) x HGA.out _).mono ?_; rintro e w1 ⟨⟨A1, c1, rfl, hc1, hR⟩, hB⟩; (have HX1 := Lib.hid (heap_alloc_new w1 (.cells #[.slice A1 x.length c1, .int .i64 0] 55))); (have HR1 := Lib.hid hR); (have HB1 := Lib.hid hB); clear hB hR))
        obtain ⟨B1, hB1⟩ : ∃ B1, w1.heap.size = B1 := ⟨_, rfl⟩
        obtain ⟨B2, hB2⟩ : ∃ B2, w2.heap.size = B2 := ⟨_, rfl⟩
        obtain ⟨W5, hW5⟩ : ∃ W5, w2.alloc (.cells #[.slice A2 y.length c2, .int .i64 0] 55) = W5 := ⟨_, rfl⟩
        have HX1' : Hid (W5.heap[B1]? = some (.cells #[.slice A1 x.length c1, .int .i64 0] 55 (0, 0))) := Lib.hid (by rw [← hW5, ← hB1]; exact heap_al HX1.out)
        have HX2 : Hid (W5.heap[B2]? = some (.cells #[.slice A2 y.length c2, .int .i64 0] 55 (0, 0))) := Lib.hid (by rw [← hW5, ← hB2]; exact heap_alloc_new _ _)
        have HB5 : Hid (Below w.heap.size w W5) := Lib.hid (by rw [← hW5]; exact below_al HB3.out _)
        have HRx : Hid (Rd W5 .u16 A1 x.length x) := Lib.hid (by rw [← hW5]; exact HR1.out.below (one_alloc _ _))
        have HRy : Hid (Rd W5 .u16 A2 y.length y) := Lib.hid (by rw [← hW5]; exact HR2.out.below (one_alloc _ _))
        rw [hB1, hB2, hW5]
        obtain ⟨a0, a1, -, a3⟩ := two_at HX1'.out
        obtain ⟨b0, b1, -, b3⟩ := two_at HX2.out
        clear hB1 hB2 hW5 HX1 HR1 HR2
        go_region_with (first
          | (go_at_call 53; refine (rorder_up A3 A4 c3 c4 x y _ HS1.out HS2.out hc3 hc4 (by omega)).mono ?_; rintro e w8 ⟨rfl, hD⟩; rw [HR.out]; (have HB8 := Lib.hid (below_drawn HB7.out hD)); clear hD)
          | ((have hgd := HS1); clear hgd; go_at_call 39; refine (rraised_any A2 c2 y (by omega) HYU.out _ HRy6.out).mono ?_; rintro e w7 ⟨⟨A4, c4, rfl, hc4, hR⟩, hB⟩; (have HS2 := Lib.hid hR); (have HS1 := Lib.hid (HS1.out.below hB)); (have HB7 := Lib.hid (below_then HB6.out HB6.out.size hB)); clear hB hR)
          | (go_at_call 39; refine (rraised_any A1 c1 x (by omega) HXU.out _ HRx.out.drew1).mono ?_; rintro e w6 ⟨⟨A3, c3, rfl, hc3, hR⟩, hB⟩; (have HS1 := Lib.hid hR); (have HRy6 := Lib.hid (HRy.out.drew1.below hB)); obtain ⟨a60, a61, -, a63⟩ := two_at (below_heap (w := W5.drew) HX1'.out hB); obtain ⟨b60, b61, -, b63⟩ := two_at (below_heap (w := W5.drew) HX2.out hB); (have HB6 := Lib.hid (below_then (below_drew1 HB5.out) (below_drew1 HB5.out).size hB)); clear hB hR))
        all_goals
          go_wp2
          go_ret
          exact ⟨rfl, HB8.out⟩
end Go.Proofs.YtmbdiimenmnfjaaDoor
/- Walk: the document's Compare. -/
namespace Go.Proofs.YtmbdiimenmnfjaaDoor
open Go.RowKit Go.Deep
set_option linter.unusedVariables false
set_option linter.unusedSimpArgs false

set_option maxRecDepth 100000 in
set_option maxHeartbeats 8000000 in
theorem rcompare_any (a b : ByteArray) (ha : a.size ≤ 40000) (hb : b.size ≤ 40000) (w : World) : Calls Tryd.prog 22 #[.string a, .string b] w fun e w' => e = .returned (.int .i64 (compareM a b)) ∧ Below w.heap.size w w' := by
  cases hga : getU a with
  | none =>
    cases hgb : getU b with
    | none =>
      have hC : compareM a b = cmpS a b := by unfold compareM; rw [hga, hgb]
      rw [hC]
      unfold cmpS
      obtain ⟨q1, hq1⟩ : ∃ q, Op.bytesLess a.toList b.toList = q := ⟨_, rfl⟩
      obtain ⟨q2, hq2⟩ : ∃ q, (a.toList == b.toList) = q := ⟨_, rfl⟩
      rw [hq1, hq2]
      have HGA := Lib.hid hga
      have HGB := Lib.hid hgb
      clear hga hgb hC
      go_enter Tryd.func22, Tryd.ntmps22
      go_upto_region 3 with (first
        | ((have hgd := HB1); clear hgd; go_at_call 34; refine (runits_no b (by omega) HGB.out _).mono ?_; rintro e w2 ⟨⟨A2, c2, rfl⟩, hB⟩; (have HX1 := Lib.hid (below_heap HX1.out hB)); (have HB3 := Lib.hid (below_then (below_al HB1.out _) (below_al HB1.out _).size hB)); clear hB)
        | (go_at_call 34; refine (runits_no a (by omega) HGA.out _).mono ?_; rintro e w1 ⟨⟨A1, c1, rfl⟩, hB⟩; (have HX1 := Lib.hid (heap_alloc_new w1 (.cells #[.slice A1 0 c1, .int .i64 4] 55))); (have HB1 := Lib.hid hB); clear hB))
      obtain ⟨B1, hB1⟩ : ∃ B1, w1.heap.size = B1 := ⟨_, rfl⟩
      obtain ⟨B2, hB2⟩ : ∃ B2, w2.heap.size = B2 := ⟨_, rfl⟩
      obtain ⟨W5, hW5⟩ : ∃ W5, w2.alloc (.cells #[.slice A2 0 c2, .int .i64 4] 55) = W5 := ⟨_, rfl⟩
      have HX1' : Hid (W5.heap[B1]? = some (.cells #[.slice A1 0 c1, .int .i64 4] 55 (0, 0))) := Lib.hid (by rw [← hW5, ← hB1]; exact heap_al HX1.out)
      have HX2 : Hid (W5.heap[B2]? = some (.cells #[.slice A2 0 c2, .int .i64 4] 55 (0, 0))) := Lib.hid (by rw [← hW5, ← hB2]; exact heap_alloc_new _ _)
      have HB5 : Hid (Below w.heap.size w W5) := Lib.hid (by rw [← hW5]; exact below_al HB3.out _)
      rw [hB1, hB2, hW5]
      obtain ⟨a0, a1, -, a3⟩ := two_at HX1'.out
      obtain ⟨b0, b1, -, b3⟩ := two_at HX2.out
      clear hB1 hB2 hW5 HX1
      cases q1 with
      | true =>
        go_wp2
        go_ret
        exact ⟨rfl, HB5.out⟩
      | false =>
        cases q2 with
        | true =>
          go_wp2
          go_ret
          exact ⟨rfl, HB5.out⟩
        | false =>
          go_wp2
          go_ret
          exact ⟨rfl, HB5.out⟩
    | some y =>
      have hC : compareM a b = 1 := by unfold compareM; rw [hga, hgb]
      rw [hC]
      have HGA := Lib.hid hga
      have HGB := Lib.hid hgb
      clear hga hgb hC
      go_enter Tryd.func22, Tryd.ntmps22
      go_upto_region 3 with (first
        | ((have hgd := HB1); clear hgd; go_at_call 34; refine (runits_ok b (by omega) y HGB.out _).mono ?_; rintro e w2 ⟨⟨A2, c2, rfl, hc2, hR⟩, hB⟩; (have HX1 := Lib.hid (below_heap HX1.out hB)); (have HR2 := Lib.hid hR); (have HB3 := Lib.hid (below_then (below_al HB1.out _) (below_al HB1.out _).size hB)); clear hB hR)
        | (go_at_call 34; refine (runits_no a (by omega) HGA.out _).mono ?_; rintro e w1 ⟨⟨A1, c1, rfl⟩, hB⟩; (have HX1 := Lib.hid (heap_alloc_new w1 (.cells #[.slice A1 0 c1, .int .i64 4] 55))); (have HB1 := Lib.hid hB); clear hB))
      obtain ⟨B1, hB1⟩ : ∃ B1, w1.heap.size = B1 := ⟨_, rfl⟩
      obtain ⟨B2, hB2⟩ : ∃ B2, w2.heap.size = B2 := ⟨_, rfl⟩
      obtain ⟨W5, hW5⟩ : ∃ W5, w2.alloc (.cells #[.slice A2 y.length c2, .int .i64 0] 55) = W5 := ⟨_, rfl⟩
      have HX1' : Hid (W5.heap[B1]? = some (.cells #[.slice A1 0 c1, .int .i64 4] 55 (0, 0))) := Lib.hid (by rw [← hW5, ← hB1]; exact heap_al HX1.out)
      have HX2 : Hid (W5.heap[B2]? = some (.cells #[.slice A2 y.length c2, .int .i64 0] 55 (0, 0))) := Lib.hid (by rw [← hW5, ← hB2]; exact heap_alloc_new _ _)
      have HB5 : Hid (Below w.heap.size w W5) := Lib.hid (by rw [← hW5]; exact below_al HB3.out _)
      rw [hB1, hB2, hW5]
      obtain ⟨a0, a1, -, a3⟩ := two_at HX1'.out
      obtain ⟨b0, b1, -, b3⟩ := two_at HX2.out
      clear hB1 hB2 hW5 HX1
      go_wp2
      go_ret
      exact ⟨rfl, HB5.out⟩
  | some x =>
    cases hgb : getU b with
    | none =>
      have hC : compareM a b = -1 := by unfold compareM; rw [hga, hgb]
      rw [hC]
      have HGA := Lib.hid hga
      have HGB := Lib.hid hgb
      clear hga hgb hC
      go_enter Tryd.func22, Tryd.ntmps22
      go_upto_region 3 with (first
        | ((have hgd := HB1); clear hgd; go_at_call 34; refine (runits_no b (by omega) HGB.out _).mono ?_; rintro e w2 ⟨⟨A2, c2, rfl⟩, hB⟩; (have HX1 := Lib.hid (below_heap HX1.out hB)); (have HB3 := Lib.hid (below_then (below_al HB1.out _) (below_al HB1.out _).size hB)); clear hB)
        | (go_at_call 34; refine (runits_ok a (by omega) x HGA.out _).mono ?_; rintro e w1 ⟨⟨A1, c1, rfl, hc1, hR⟩, hB⟩; (have HX1 := Lib.hid (heap_alloc_new w1 (.cells #[.slice A1 x.length c1, .int .i64 0] 55))); (have HR1 := Lib.hid hR); (have HB1 := Lib.hid hB); clear hB hR))
      obtain ⟨B1, hB1⟩ : ∃ B1, w1.heap.size = B1 := ⟨_, rfl⟩
      obtain ⟨B2, hB2⟩ : ∃ B2, w2.heap.size = B2 := ⟨_, rfl⟩
      obtain ⟨W5, hW5⟩ : ∃ W5, w2.alloc (.cells #[.slice A2 0 c2, .int .i64 4] 55) = W5 := ⟨_, rfl⟩
      have HX1' : Hid (W5.heap[B1]? = some (.cells #[.slice A1 x.length c1, .int .i64 0] 55 (0, 0))) := Lib.hid (by rw [← hW5, ← hB1]; exact heap_al HX1.out)
      have HX2 : Hid (W5.heap[B2]? = some (.cells #[.slice A2 0 c2, .int .i64 4] 55 (0, 0))) := Lib.hid (by rw [← hW5, ← hB2]; exact heap_alloc_new _ _)
      have HB5 : Hid (Below w.heap.size w W5) := Lib.hid (by rw [← hW5]; exact below_al HB3.out _)
      rw [hB1, hB2, hW5]
      obtain ⟨a0, a1, -, a3⟩ := two_at HX1'.out
      obtain ⟨b0, b1, -, b3⟩ := two_at HX2.out
      clear hB1 hB2 hW5 HX1
      go_wp2
      go_ret
      exact ⟨rfl, HB5.out⟩
    | some y =>
      obtain ⟨r, hr⟩ : ∃ r, cmpU (x.map upM) (y.map upM) = r := ⟨_, rfl⟩
      obtain ⟨r2, hr2⟩ : ∃ r2, cmpU x y = r2 := ⟨_, rfl⟩
      have hC : compareM a b = if r = 0 then r2 else r := by unfold compareM; rw [hga, hgb]; simp only [hr, hr2]
      rw [hC]
      obtain ⟨C, hCC⟩ : ∃ C, (if r = 0 then r2 else r) = C := ⟨_, rfl⟩
      rw [hCC]
      have HC0 : Hid (r = 0 → r2 = C) := Lib.hid (fun h => by rw [← hCC, if_pos h])
      have HC1 : Hid (¬ r = 0 → r = C) := Lib.hid (fun h => by rw [← hCC, if_neg h])
      have hpx := getU_props hga
      have hpy := getU_props hgb
      have HR := Lib.hid hr
      have HR2' := Lib.hid hr2
      have HXU := Lib.hid hpx.1
      have HYU := Lib.hid hpy.1
      have hlx : x.length ≤ 4096 := hpx.2.2
      have hly : y.length ≤ 4096 := hpy.2.2
      have HGA := Lib.hid hga
      have HGB := Lib.hid hgb
      clear hga hgb hpx hpy hr hr2 hC hCC
      go_enter Tryd.func22, Tryd.ntmps22
      go_upto_region 3 with (first
        | ((have hgd := HB1); clear hgd; go_at_call 34; refine (runits_ok b (by omega) y HGB.out _).mono ?_; rintro e w2 ⟨⟨A2, c2, rfl, hc2, hR⟩, hB⟩; (have HX1 := Lib.hid (below_heap HX1.out hB)); (have HR1 := Lib.hid ((HR1.out.below (one_alloc _ _)).below hB)); (have HR2 := Lib.hid hR); (have HB3 := Lib.hid (below_then (below_al HB1.out _) (below_al HB1.out _).size hB)); clear hB hR)
        | (go_at_call 34; refine (runits_ok a (by omega) x HGA.out _).mono ?_; rintro e w1 ⟨⟨A1, c1, rfl, hc1, hR⟩, hB⟩; (have HX1 := Lib.hid (heap_alloc_new w1 (.cells #[.slice A1 x.length c1, .int .i64 0] 55))); (have HR1 := Lib.hid hR); (have HB1 := Lib.hid hB); clear hB hR))
      obtain ⟨B1, hB1⟩ : ∃ B1, w1.heap.size = B1 := ⟨_, rfl⟩
      obtain ⟨B2, hB2⟩ : ∃ B2, w2.heap.size = B2 := ⟨_, rfl⟩
      obtain ⟨W5, hW5⟩ : ∃ W5, w2.alloc (.cells #[.slice A2 y.length c2, .int .i64 0] 55) = W5 := ⟨_, rfl⟩
      have HX1' : Hid (W5.heap[B1]? = some (.cells #[.slice A1 x.length c1, .int .i64 0] 55 (0, 0))) := Lib.hid (by rw [← hW5, ← hB1]; exact heap_al HX1.out)
      have HX2 : Hid (W5.heap[B2]? = some (.cells #[.slice A2 y.length c2, .int .i64 0] 55 (0, 0))) := Lib.hid (by rw [← hW5, ← hB2]; exact heap_alloc_new _ _)
      have HB5 : Hid (Below w.heap.size w W5) := Lib.hid (by rw [← hW5]; exact below_al HB3.out _)
      have HRx : Hid (Rd W5 .u16 A1 x.length x) := Lib.hid (by rw [← hW5]; exact HR1.out.below (one_alloc _ _))
      have HRy : Hid (Rd W5 .u16 A2 y.length y) := Lib.hid (by rw [← hW5]; exact HR2.out.below (one_alloc _ _))
      rw [hB1, hB2, hW5]
      obtain ⟨a0, a1, -, a3⟩ := two_at HX1'.out
      obtain ⟨b0, b1, -, b3⟩ := two_at HX2.out
      clear hB1 hB2 hW5 HX1
      clear HR1 HR2
      go_upto_region 4 with (fail)
      go_region_with (first
        | (go_at_call 53; refine (rorder_up A3 A4 c3 c4 x y _ HS1.out HS2.out hc3 hc4 (by omega)).mono ?_; rintro e w8 ⟨rfl, hD⟩; rw [HR.out]; obtain ⟨a80, a81, -, a83⟩ := two_at (below_heap HX1'.out (drawn_below hD)); obtain ⟨b80, b81, -, b83⟩ := two_at (below_heap HX2.out (drawn_below hD)); (have HRx8 := Lib.hid (HRx.out.drawn hD)); (have HRy8 := Lib.hid (HRy.out.drawn hD)); (have HB8 := Lib.hid (below_drawn HB7.out hD)); clear hD)
        | ((have hgd := HS1); clear hgd; go_at_call 39; refine (rraised_any A2 c2 y (by omega) HYU.out _ HRy.out).mono ?_; rintro e w7 ⟨⟨A4, c4, rfl, hc4, hR⟩, hB⟩; (have HS2 := Lib.hid hR); (have HS1 := Lib.hid (HS1.out.below hB)); (have HRx := Lib.hid (HRx.out.below hB)); (have HRy := Lib.hid (HRy.out.below hB)); (have HX1' := Lib.hid (below_heap HX1'.out hB)); (have HX2 := Lib.hid (below_heap HX2.out hB)); (have HB7 := Lib.hid (below_then HB6.out HB6.out.size hB)); clear hB hR)
        | (go_at_call 39; refine (rraised_any A1 c1 x (by omega) HXU.out _ HRx.out.drew1).mono ?_; rintro e w6 ⟨⟨A3, c3, rfl, hc3, hR⟩, hB⟩; (have HS1 := Lib.hid hR); (have HRx := Lib.hid (HRx.out.drew1.below hB)); (have HRy := Lib.hid (HRy.out.drew1.below hB)); (have HX1' := Lib.hid (below_heap (w := W5.drew) HX1'.out hB)); (have HX2 := Lib.hid (below_heap (w := W5.drew) HX2.out hB)); obtain ⟨a60, a61, -, a63⟩ := two_at HX1'.out; obtain ⟨b60, b61, -, b63⟩ := two_at HX2.out; (have HB6 := Lib.hid (below_then (below_drew1 HB5.out) (below_drew1 HB5.out).size hB)); clear hB hR))
      all_goals
        by_cases hz : r = 0
        · go_wp2_with (go_at_call 53; refine (rorder_any A1 A2 c1 c2 x y _ HRx8.out HRy8.out hc1 hc2 (by omega)).mono ?_; rintro e w9 ⟨rfl, hD⟩; rw [HR2'.out]; (have HB9 := Lib.hid (below_drawn HB8.out hD)); clear hD)
          go_ret
          refine ⟨?_, HB9.out⟩
          rw [← HC0.out hz]
          rfl
        · go_wp2
          go_ret
          refine ⟨?_, HB8.out⟩
          rw [← HC1.out hz]
          rfl
end Go.Proofs.YtmbdiimenmnfjaaDoor
/- Walk: the document's Key. -/
namespace Go.Proofs.YtmbdiimenmnfjaaDoor
open Go.RowKit Go.Deep
open Go.Proofs.YtmbdiimenmnfjaaDoor.PNamesNames
open Go.Proofs.YtmbdiimenmnfjaaDoorW.PrintWords (rd bt Drawn0 Kd)
set_option linter.unusedVariables false
set_option linter.unusedSimpArgs false

theorem runits_own (s : ByteArray) (hs : s.size ≤ 100000) (x : List Int) (hg : getU s = some x) (w : World) :
    Calls Tryd.prog 34 #[.string s] w fun e w' => (∃ v, e = .returned (.agg #[v, .int .i64 0]) ∧ w'.ownsRow w.heap.size 46 1 v x.length (numK .u16 x)) ∧ Below w.heap.size w w' :=
  (archivoltref05_Units.calls _ s x 0 w (by have h := units_f s (by omega) _ (Nat.le_refl _); unfold refU at h; rw [hg] at h; exact h)).mono fun e w' ⟨v, he, hR, hB⟩ => ⟨⟨v, he, Kd.own_of_R hR⟩, hB⟩

set_option maxRecDepth 100000 in
set_option maxHeartbeats 4000000 in
theorem rraised_own (A : Option Addr) (c : Nat) (xs : List Int) (hn : xs.length ≤ 40000) (hx : U16 xs) (w : World) (hR : Rd w .u16 A xs.length xs) :
    Calls Tryd.prog 39 #[.slice A xs.length c] w fun e w' => (∃ v, e = .returned v ∧ w'.ownsRow w.heap.size 46 1 v xs.length (numK .u16 (xs.map upM))) ∧ Below w.heap.size w w' := by
  obtain ⟨i0, hi, hz0, hz1, hz2⟩ := info_parts info46
  have HR := Lib.hid hR
  have HX := Lib.hid hx
  clear hR hx
  go_enter Tryd.func39, Tryd.ntmps39
  go_wp2
  go_loopw [3, 4] (fun v i W => ∃ j : Nat, j ≤ xs.length ∧ i = .int .i64 j ∧ Hid (W.ownsRow w.heap.size 46 1 v j (numK .u16 ((xs.take j).map upM))) ∧ Hid (Below w.heap.size w W)) (fun _ i _ => xs.length - (intOf i).toNat)
  case atStart => exact ⟨0, by omega, rfl, Lib.hid (World.ownsRow_nil _ _ _ _), Lib.hid (Below.refl _ _)⟩
  case round =>
    obtain ⟨j, hj, rfl, HO, HB⟩ := hrel
    obtain ⟨Aq, cq, rfl, hcq⟩ := own_is_slice HO.out
    by_cases hlt : j < xs.length
    · have hlti : (j : Int) < xs.length := by omega
      obtain ⟨ad, hA, hcl⟩ := (HR.out.below HB.out).at_ j hlt
      subst hA
      obtain ⟨x, hx⟩ : ∃ x, xs.getD j 0 = x := ⟨_, rfl⟩
      have hxb := HX.out.get j
      rw [hx] at hcl hxb
      have htk : (xs.take (j + 1)).map upM = (xs.take j).map upM ++ [upM x] := by rw [List.take_add_one, ← hx, List.getD_eq_getElem?_getD, List.getElem?_eq_getElem hlt, List.map_append]; rfl
      obtain ⟨U, hU⟩ : ∃ U, upM x = U := ⟨_, rfl⟩
      rw [hU] at htk
      have HTK := Lib.hid htk
      have HU := Lib.hid hU
      have hbs := HB.out.size
      clear hx htk hU
      go_wp2_with (first
        | (go_at_call 36; refine (rup_any x (by omega) (by omega) _).mono ?_; rintro e w2 ⟨rfl, rfl⟩; rw [HU.out])
        | (at_builtin; refine wpList_append_own _ rfl _ _ 49 rfl w.heap.size 46 i0 (.int .u16 0) 1 2 Tryd.underlying49 hi hz0 hz1 hz2 rfl (by decide) _ j (numK .u16 ((xs.take j).map upM)) rfl (World.ownsRow.alloc HO.out _) ⟨_, 0, none⟩ 1 1 [.int .u16 U] rfl rfl (cell_new1 _ _ rfl _ _) (by simp [Value.oneCell']) (by simp only [maxLen]; omega) (by omega) (by simp; omega) ?_; intro v' w6 hown6 hgrow6 _; (have HQ6 := Lib.hid hown6); (have HB6 := Lib.hid ((below_al HB.out _).grown hgrow6 (by simp; omega) (fun kk hk => (HO.out.lt kk hk).1))); clear hown6 hgrow6))
      refine ⟨⟨j + 1, by omega, by simp, Lib.hid ?_, HB6⟩, by simp only [intOf]; omega⟩
      rw [HTK.out, numK_append]
      exact HQ6.out
    · have hie : j = xs.length := by omega
      subst hie
      have hlti : ¬ ((xs.length : Int) < xs.length) := by omega
      go_wp2
      go_ret
      have hO := HO.out
      rw [List.take_of_length_le (Nat.le_refl _)] at hO
      exact ⟨⟨_, rfl, hO⟩, HB.out⟩

theorem keyB_append (x y : List Int) : keyB (x ++ y) = keyB x ++ keyB y := by simp [keyB]
theorem keyB_take (x : List Int) (j : Nat) (hj : j < x.length) : keyB (x.take (j + 1)) = keyB (x.take j) ++ [x.getD j 0 / 256, x.getD j 0 % 256] := by
  rw [List.take_add_one, List.getD_eq_getElem?_getD, List.getElem?_eq_getElem hj, keyB_append]; rfl

set_option maxRecDepth 100000 in
set_option maxHeartbeats 8000000 in
theorem rkey_any (s : ByteArray) (hs : s.size ≤ 40000) (r : List Int) (hg : getU s = some r) (w : World) :
    Calls Tryd.prog 18 #[.string s] w fun e w' => (∃ A c, e = .returned (.slice A (keyM r).length c) ∧ Rd w' .u8 A (keyM r).length (keyM r)) ∧ Below w.heap.size w w' := by
  obtain ⟨i5, h5i, h5z, h51, h5b⟩ := info_parts info5
  have hfd : ∀ (A : Option Addr) (n c : Nat) (q : Int) (w : World), (Instr.field 55 (.agg #[.slice A n c, .int .i64 q]) 0).run Tryd.prog w = .ok (.slice A n c) w := fun A n c q w => by kernel_rfl
  have hp := getU_props hg
  have HX := Lib.hid hp.1
  have hl : r.length ≤ 4096 := hp.2.2
  have HG := Lib.hid hg
  clear hg hp
  obtain ⟨xs, hxs⟩ : ∃ xs, r.map upM = xs := ⟨_, rfl⟩
  have hxl : xs.length = r.length := by rw [← hxs, List.length_map]
  have HXX : Hid (U16 xs) := Lib.hid (by rw [← hxs]; exact HX.out.map_up)
  have hk : keyM r = keyB (xs ++ [0] ++ r) := by rw [← hxs]; rfl
  have HXS := Lib.hid hxs
  have HK := Lib.hid hk
  clear hxs hk
  go_enter Tryd.func18, Tryd.ntmps18
  go_wp2_with (first
    | (go_at_call 39; refine (rraised_own A1 c1 r (by omega) HX.out _ HR1.out).mono ?_; rintro e w2 ⟨⟨v3, rfl, hO⟩, hB⟩; obtain ⟨A3, c3, rfl, hc3⟩ := own_is_slice hO; rw [HXS.out] at hO; (have HO3 := Lib.hid (own_weak hO HB1.out.size)); (have HO1 := Lib.hid (own_keep HO1.out hB)); (have HB2 := Lib.hid (below_then HB1.out HB1.out.size hB)); clear hB hO)
    | (go_at_call 34; refine (runits_own s (by omega) r HG.out _).mono ?_; rintro e w1 ⟨⟨v1, rfl, hO⟩, hB⟩; obtain ⟨A1, c1, e1, hc1, hR, -⟩ := own_nums hO (by omega); subst e1; (have HR1 := Lib.hid hR); (have HO1 := Lib.hid hO); (have HB1 := Lib.hid hB); clear hB hR hO))
  clear HR1 HB1
  go_loopw [4, 6] (fun v i W => ∃ j : Nat, j ≤ r.length ∧ i = .int .i64 j ∧ Hid (W.ownsRow w.heap.size 5 1 v (2 * j) (numK .u8 (keyB (xs.take j)))) ∧ Hid (W.ownsRow w.heap.size 46 1 (.slice A1 r.length c1) r.length (numK .u16 r)) ∧ Hid (W.ownsRow w.heap.size 46 1 (.slice A3 r.length c3) r.length (numK .u16 xs)) ∧ Hid (Below w.heap.size w W)) (fun _ i _ => r.length - (intOf i).toNat)
  case atStart => exact ⟨0, by omega, rfl, Lib.hid (World.ownsRow_nil _ _ _ _), HO1, HO3, HB2⟩
  case round =>
    clear HO1 HO3 HB2
    obtain ⟨j, hj, rfl, HO, HO1, HO3, HB⟩ := hrel
    obtain ⟨Aq, cq, rfl, hcq⟩ := own_is_slice HO.out
    have hbs := HB.out.size
    by_cases hlt : j < r.length
    · have hlti : (j : Int) < r.length := by omega
      obtain ⟨A', c', e', -, hRd, -⟩ := own_nums HO3.out (by omega)
      cases e'
      obtain ⟨ad, hA, hcl⟩ := hRd.at_ j hlt
      subst hA
      obtain ⟨x, hx⟩ : ∃ x, xs.getD j 0 = x := ⟨_, rfl⟩
      have hxb := HXX.out.get j
      have htk := keyB_take xs j (by omega)
      rw [hx] at hcl hxb htk
      have HTK := Lib.hid htk
      have hkl : (keyB (xs.take j)).length = 2 * j := by rw [keyB_len, List.length_take]; omega
      have hw1 : IntKind.u8.wrap (x / 256) = x / 256 := Int.emod_eq_of_lt (by omega) (by simp [IntKind.bits]; omega)
      have hw2 : IntKind.u8.wrap x = x % 256 := by simp [IntKind.wrap, IntKind.bits, IntKind.signed]
      clear hx htk hRd
      go_upto_region 7 with (fail)
      go_region_law (refine step_app1 rfl _ _ rfl w.heap.size _ (2 * j) (numK .u8 (keyB (xs.take j))) rfl (World.ownsRow.drew (World.ownsRow.alloc HO.out _)) ⟨_, 0, none⟩ 2 2 [.int .u8 (x / 256), .int .u8 (x % 256)] rfl rfl (fun j u h => cells_new wr _ rfl [.int .u8 (x / 256), .int .u8 (x % 256)] _ j u h) (by simp [Value.oneCell']) (by omega) (by simp; omega) ?_; intro v' w3 hown3 hgrow3; (have HO1k := Lib.hid (World.ownsRow.kept (row := (Value.slice Aq (2 * j) cq).ownBlock) (World.ownsRow.alloc HO1.out _) ⟨hgrow3.os, hgrow3.tape, hgrow3.output, hgrow3.size, hgrow3.block⟩ (by cases hq : (.slice A1 r.length c1 : Value).ownBlock with | none => exact .inl rfl | some k => exact .inr (fun e => own_apart HO1.out HO.out (by decide) k hq e.symm)))); (have HO3k := Lib.hid (World.ownsRow.kept (row := (Value.slice Aq (2 * j) cq).ownBlock) (World.ownsRow.alloc HO3.out _) ⟨hgrow3.os, hgrow3.tape, hgrow3.output, hgrow3.size, hgrow3.block⟩ (by cases hq : (.slice (some ad) r.length c3 : Value).ownBlock with | none => exact .inl rfl | some k => exact .inr (fun e => own_apart HO3.out HO.out (by decide) k hq e.symm)))); (have HO3' := Lib.hid hown3); (have HB3 := Lib.hid ((below_al HB.out _).grown (row := (Value.slice Aq (2 * j) cq).ownBlock) ⟨hgrow3.os, hgrow3.tape, hgrow3.output, hgrow3.size, hgrow3.block⟩ (by simp; omega) (fun kk hk => (HO.out.lt kk hk).1))); clear hown3 hgrow3)
      all_goals
        go_wp2
        refine ⟨⟨j + 1, by omega, by simp, Lib.hid ?_, HO1k, HO3k, HB3⟩, by simp only [intOf]; omega⟩
        rw [HTK.out, numK_append]
        exact HO3'.out
    · have hie : j = r.length := by omega
      have hlti : ¬ ((j : Int) < r.length) := by omega
      have hO := HO.out
      rw [List.take_of_length_le (by omega)] at hO
      have HOA := Lib.hid hO
      clear hO HO HO3
      have htw : 2 * j = 2 * r.length := by omega
      go_wp2_with (at_builtin; refine wpList_append_own _ rfl _ _ 26 rfl w.heap.size 5 i5 (.int .u8 0) 1 1 Tryd.underlying26 h5i h5z h51 h5b rfl (by decide) _ (2 * j) (numK .u8 (keyB xs)) rfl (World.ownsRow.alloc HOA.out _) ⟨_, 0, none⟩ 2 2 [.int .u8 0, .int .u8 0] rfl rfl (cells_new _ _ rfl _ _) (by simp [Value.oneCell']) (by simp only [maxLen]; omega) (by omega) (by simp; omega) ?_; intro v6 w6 hown6 hgrow6 _; (have HQ6 := Lib.hid hown6); (have HB6 := Lib.hid ((below_al HB.out _).grown hgrow6 (by simp; omega) (fun kk hk => (HOA.out.lt kk hk).1))); (have HO6 := Lib.hid ((World.ownsRow.alloc HO1.out _).kept hgrow6 (by cases hq : (Value.slice A1 r.length c1).ownBlock with | none => exact .inl rfl | some k => exact .inr (fun e => own_apart HO1.out HOA.out (by decide) k hq e.symm)))); clear hown6 hgrow6)
      have HQ6' : Hid (w6.ownsRow w.heap.size 5 1 v6 (2 * r.length + 2 + 2 * 0) (numK .u8 (keyB (xs ++ [0]) ++ keyB (r.take 0)))) := Lib.hid (by
        have h := HQ6.out
        rw [htw] at h
        have e : keyB (xs ++ [0]) ++ keyB (r.take 0) = keyB xs ++ [0, 0] := by rw [keyB_append]; simp [keyB]
        rw [e, numK_append]
        exact h)
      clear HQ6 HOA HO1 HB
      go_loopw [4, 7] (fun v i W => ∃ q : Nat, q ≤ r.length ∧ i = .int .i64 q ∧ Hid (W.ownsRow w.heap.size 5 1 v (2 * r.length + 2 + 2 * q) (numK .u8 (keyB (xs ++ [0]) ++ keyB (r.take q)))) ∧ Hid (W.ownsRow w.heap.size 46 1 (.slice A1 r.length c1) r.length (numK .u16 r)) ∧ Hid (Below w.heap.size w W)) (fun _ i _ => r.length - (intOf i).toNat)
      case atStart => exact ⟨0, by omega, rfl, HQ6', HO6, HB6⟩
      case round =>
        clear HQ6' HO6 HB6
        obtain ⟨q, hq, rfl, HO, HO1, HB⟩ := hrel
        obtain ⟨Aq, cq, rfl, hcq⟩ := own_is_slice HO.out
        have hbs := HB.out.size
        by_cases hlt2 : q < r.length
        · have hlti2 : (q : Int) < r.length := by omega
          obtain ⟨A', c', e', -, hRd, -⟩ := own_nums HO1.out (by omega)
          cases e'
          obtain ⟨ad, hA, hcl⟩ := hRd.at_ q hlt2
          subst hA
          obtain ⟨x, hx⟩ : ∃ x, r.getD q 0 = x := ⟨_, rfl⟩
          have hxb := HX.out.get q
          have htk := keyB_take r q hlt2
          rw [hx] at hcl hxb htk
          have HTK := Lib.hid htk
          have hw1 : IntKind.u8.wrap (x / 256) = x / 256 := Int.emod_eq_of_lt (by omega) (by simp [IntKind.bits]; omega)
          have hw2 : IntKind.u8.wrap x = x % 256 := by simp [IntKind.wrap, IntKind.bits, IntKind.signed]
          clear hx htk hRd
          go_upto_region 12 with (fail)
          go_region_law (refine step_app1 rfl _ _ rfl w.heap.size _ (2 * r.length + 2 + 2 * q) (numK .u8 (keyB (xs ++ [0]) ++ keyB (r.take q))) rfl (World.ownsRow.drew (World.ownsRow.alloc HO.out _)) ⟨_, 0, none⟩ 2 2 [.int .u8 (x / 256), .int .u8 (x % 256)] rfl rfl (fun j u h => cells_new wr _ rfl [.int .u8 (x / 256), .int .u8 (x % 256)] _ j u h) (by simp [Value.oneCell']) (by omega) (by simp; omega) ?_; intro v' w3 hown3 hgrow3; (have HO1k := Lib.hid (World.ownsRow.kept (row := (Value.slice Aq (2 * r.length + 2 + 2 * q) cq).ownBlock) (World.ownsRow.alloc HO1.out _) ⟨hgrow3.os, hgrow3.tape, hgrow3.output, hgrow3.size, hgrow3.block⟩ (by cases hq : (.slice (some ad) r.length c1 : Value).ownBlock with | none => exact .inl rfl | some k => exact .inr (fun e => own_apart HO1.out HO.out (by decide) k hq e.symm)))); (have HO3' := Lib.hid hown3); (have HB3 := Lib.hid ((below_al HB.out _).grown (row := (Value.slice Aq (2 * r.length + 2 + 2 * q) cq).ownBlock) ⟨hgrow3.os, hgrow3.tape, hgrow3.output, hgrow3.size, hgrow3.block⟩ (by simp; omega) (fun kk hk => (HO.out.lt kk hk).1))); clear hown3 hgrow3)
          all_goals
            go_wp2
            refine ⟨⟨q + 1, by omega, by simp, Lib.hid ?_, HO1k, HB3⟩, by simp only [intOf]; omega⟩
            rw [HTK.out, ← List.append_assoc, numK_append]
            exact HO3'.out
        · have hie2 : q = r.length := by omega
          subst hie2
          have hlti2 : ¬ ((r.length : Int) < r.length) := by omega
          go_wp2
          go_ret
          have hO := HO.out
          rw [List.take_of_length_le (Nat.le_refl _), ← keyB_append, ← HK.out] at hO
          have hlen : 2 * r.length + 2 + 2 * r.length = (keyM r).length := by rw [HK.out, keyB_len]; simp; omega
          rw [hlen] at hO
          obtain ⟨A', c', e', -, hRd, -⟩ := own_nums hO (by omega)
          rw [← hlen] at e'
          cases e'
          refine ⟨⟨Aq, ⟨cq, ?_⟩, hRd⟩, HB.out⟩
          rw [← hlen]
          rfl
end Go.Proofs.YtmbdiimenmnfjaaDoor
