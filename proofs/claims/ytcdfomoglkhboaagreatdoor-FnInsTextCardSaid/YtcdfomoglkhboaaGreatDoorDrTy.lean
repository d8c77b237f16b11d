/- Texts of drawn steps: plain facts and the two contracts for small sizes. -/
import Derived.Test.YtcdfomoglkhboaaGreatDoorTip
import Derived.Test.YtcdfomoglkhboaaGreatDoorTxE
namespace Go.Proofs.YtcdfomoglkhboaaGreatDoor
open Go.RowKit Go.Lib
set_option linter.unusedVariables false

theorem smallTo {i : Ins} {p s : Int} (h : insOkB i p s = true) (hp : p ≤ 100) (hs : s ≤ 100) : i.to ≤ 9223372036854775807 := by
  have := numOkB_iff.1 (to_small h hp hs)
  omega
theorem specTextS (i : Ins) (p s : Int) (hp : p ≤ 100) (hs : s ≤ 100) (w : World) :
    Calls Tryz.prog 21 #[i.v, .int .i64 p, .int .i64 s] w fun e w' => e = .returned (.string ⟨(textB i p s).toArray⟩) ∧ Grew w w' := by
  cases hok : insOkB i p s
  · have e : textB i p s = [] := by unfold textB; rw [hok]; rfl
    rw [e]
    exact specTextF i p s w hok
  · exact specInsText i p s w (smallTo hok hp hs)
theorem implTextS (i : Ins) (p s : Int) (hp : p ≤ 100) (hs : s ≤ 100) (w : World) (T : Tab w) :
    Calls Tryz.prog 19 #[i.v, .int .i64 p, .int .i64 s] w fun e w' => e = .returned (.string ⟨(textB i p s).toArray⟩) ∧ Grew w w' := by
  cases hok : insOkB i p s
  · have e : textB i p s = [] := by unfold textB; rw [hok]; rfl
    rw [e]
    exact implTextF i p s w hok
  · exact implInsText i p s w (smallTo hok hp hs) T
theorem lineI_ok {l : List UInt8} {p s : Int} {i : Ins} (h : lineI l p s = some i) : insOkB i p s = true ∧ textB i p s = l := by
  unfold lineI at h
  split at h
  · cases h
  · obtain ⟨h1, h2, h3⟩ := insReadP_some.1 h
    exact ⟨h1, by rw [textB, h1]; exact h3⟩
theorem lineI_B {i : Ins} {p s : Int} (h : insOkB i p s = true) (hp : p ≤ 100) (hs : s ≤ 100) : lineI (textB i p s) p s = some i := by
  rw [textB, h]
  exact lineI_T h hp hs
theorem textB_no {i : Ins} {p s : Int} (h : insOkB i p s = false) : textB i p s = [] := by rw [textB, h]; rfl
theorem numOk_oneT (w : World) : Calls Tryz.prog 32 #[.int .i64 1] w fun e w' => e = .returned (.bool true) ∧ w = w' := by
  go_enter Tryz.func32, Tryz.ntmps32
  go_wp2
  go_ret
  exact ⟨rfl, rfl⟩
theorem owOkT (w : World) : Calls Tryz.prog 11 #[] w fun e w' => e = .returned (.bool true) ∧ w = w' := by
  go_enter Tryz.func11, Tryz.ntmps11
  go_wp2_with fail
  refine (numOk_oneT w).mono ?_
  rintro e w' ⟨rfl, rfl⟩
  go_wp2
  go_ret
  exact ⟨rfl, rfl⟩
end Go.Proofs.YtcdfomoglkhboaaGreatDoor
