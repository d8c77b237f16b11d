/- SumsOk of the reference and of the program. No condition. -/
import Derived.Test.YtpmfpgbpndobpaaGlue
namespace Go.Proofs.Ytpmfpgbpndobpaa
open Go.RowKit Go.ChangeShapes Go.WideShapes Go.Deep
set_option linter.unusedVariables false
attribute [local go_sem] ext_cell ext_frozen ext_lt ext_le ext_le1 lt_s2 lt_s3 lt_s4 lt_s5 lt_s6 ext_lt1 ext_lt2 ext_lt3

section
variable {H : Type} {enc : TypeId × Value → H} {w : World} {base : Nat} {spare : Nat → Bool} {held : Bool}
theorem trod_itv (n : Nat) (cs : List Value) (y : DataW H × List MemPlace) (h : DataW.trod enc Try.prog w base spare held n 29 cs = some y) : ∃ x, EItv w cs x ∧ ItvWf x := by
  obtain ⟨hl, m, hf⟩ := trod_fields Try.underlying29 (by kernel_rfl) (by kernel_rfl) h
  match cs, hl with
  | [c0, c1], _ =>
    obtain ⟨u0, x0, e0, t0⟩ := hf 0 _ rfl
    obtain ⟨u1, x1, e1, t1⟩ := hf 1 _ rfl
    obtain ⟨n0, h0, w0⟩ := trod_i64 t0
    obtain ⟨n1, h1, w1⟩ := trod_i64 t1
    simp only [List.getElem?_cons_zero, List.getElem?_cons_succ, Option.some.injEq, List.cons.injEq, and_true] at e0 e1 h0 h1
    subst h0 h1
    subst e0 e1
    exact ⟨⟨n0, n1⟩, rfl, ⟨w0, w1⟩⟩
end

theorem specItvOk (x : Itv) (w : World) : Calls Try.prog 35 #[x.v] w fun e w' => e = .returned (.bool (itvOkB x.lo x.hi)) ∧ Grew w w' := by
  obtain ⟨lo, hi⟩ := x
  go_enter Try.func35, Try.ntmps35
  go_wp2_with ((with_reducible refine (specNumOk _ _).mono ?_); rintro e w' ⟨rfl, rfl⟩)
  all_goals
    go_ret
    refine ⟨by go_light; simp_all [itvOkB] <;> omega, ?_⟩
    repeat (first | with_reducible exact Below.refl _ _ | with_reducible assumption | with_reducible apply grew_ext | with_reducible apply grew_al | with_reducible apply grew_dn | with_reducible apply grew_d | (with_reducible refine grew_set ?_ (by first | omega | (repeat (first | with_reducible exact Nat.le_refl _ | with_reducible apply le_pl | with_reducible apply le_ext | with_reducible apply le_al))) _))

theorem specL7None (x : Itv) (w : World) : Calls Try.prog 59 #[x.v] w fun e w' => e = .returned (.bool (decide (x.lo = 0) && decide (x.hi = 0))) ∧ Grew w w' := by
  obtain ⟨lo, hi⟩ := x
  go_enter Try.func59, Try.ntmps59
  go_wp2
  all_goals
    go_ret
    refine ⟨by go_light; by_cases h1 : lo = 0 <;> by_cases h2 : hi = 0 <;> simp_all, ?_⟩
    repeat (first | with_reducible exact Below.refl _ _ | with_reducible assumption | with_reducible apply grew_ext | with_reducible apply grew_al | with_reducible apply grew_dn | with_reducible apply grew_d | (with_reducible refine grew_set ?_ (by first | omega | (repeat (first | with_reducible exact Nat.le_refl _ | with_reducible apply le_pl | with_reducible apply le_ext | with_reducible apply le_al))) _))

/-- Whether a sum is ok. -/
def sumOkB (s : Sum) : Bool := if s.on then itvOkB s.lo s.hi else decide (s.lo = 0) && decide (s.hi = 0)
/-- Whether sums are ok by a program. -/
def sumsOkB (ps : List Prc) (ss : List Sum) : Bool := prgOkB ps && decide (ss.length = ps.length) && ss.all sumOkB



end Go.Proofs.Ytpmfpgbpndobpaa