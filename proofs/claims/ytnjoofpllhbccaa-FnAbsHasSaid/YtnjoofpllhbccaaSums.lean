/- SumsOk of the reference and of the program. No condition. -/
import Derived.Test.YtnjoofpllhbccaaGlue
namespace Go.Proofs.Ytnjoofpllhbccaa
open Go.RowKit Go.ChangeShapes Go.WideShapes Go.Deep
set_option linter.unusedVariables false
attribute [local go_sem] ext_cell ext_frozen ext_lt ext_le ext_le1 lt_s2 lt_s3 lt_s4 lt_s5 lt_s6 ext_lt1 ext_lt2 ext_lt3

section
variable {H : Type} {enc : TypeId × Value → H} {w : World} {base : Nat} {spare : Nat → Bool} {held : Bool}
end

theorem specItvOk (x : Itv) (w : World) : Calls Try.prog 17 #[x.v] w fun e w' => e = .returned (.bool (itvOkB x.lo x.hi)) ∧ Grew w w' := by
  obtain ⟨lo, hi⟩ := x
  go_enter Try.func17, Try.ntmps17
  go_wp2_with ((with_reducible refine (specNumOk _ _).mono ?_); rintro e w' ⟨rfl, rfl⟩)
  all_goals
    go_ret
    refine ⟨by go_light; simp_all [itvOkB] <;> omega, ?_⟩
    repeat (first | with_reducible exact Below.refl _ _ | with_reducible assumption | with_reducible apply grew_ext | with_reducible apply grew_al | with_reducible apply grew_dn | with_reducible apply grew_d | (with_reducible refine grew_set ?_ (by first | omega | (repeat (first | with_reducible exact Nat.le_refl _ | with_reducible apply le_pl | with_reducible apply le_ext | with_reducible apply le_al))) _))

theorem specL7None (x : Itv) (w : World) : Calls Try.prog 84 #[x.v] w fun e w' => e = .returned (.bool (decide (x.lo = 0) && decide (x.hi = 0))) ∧ Grew w w' := by
  obtain ⟨lo, hi⟩ := x
  go_enter Try.func84, Try.ntmps84
  go_wp2
  all_goals
    go_ret
    refine ⟨by go_light; by_cases h1 : lo = 0 <;> by_cases h2 : hi = 0 <;> simp_all, ?_⟩
    repeat (first | with_reducible exact Below.refl _ _ | with_reducible assumption | with_reducible apply grew_ext | with_reducible apply grew_al | with_reducible apply grew_dn | with_reducible apply grew_d | (with_reducible refine grew_set ?_ (by first | omega | (repeat (first | with_reducible exact Nat.le_refl _ | with_reducible apply le_pl | with_reducible apply le_ext | with_reducible apply le_al))) _))

/-- Whether a sum is ok. -/
def sumOkB (s : Sum) : Bool := if s.on then itvOkB s.lo s.hi else decide (s.lo = 0) && decide (s.hi = 0)
/-- Whether sums are ok by a program. -/
def sumsOkB (ps : List Prc) (ss : List Sum) : Bool := prgOkB ps && decide (ss.length = ps.length) && ss.all sumOkB



end Go.Proofs.Ytnjoofpllhbccaa