/- Lemmas and walks of this proof, some texts one behind the other. No condition. -/
import Derived.Test.YtpmfpgbpndobpaaEnter
import Derived.Test.YtpmfpgbpndobpaaRunOkI
set_option linter.unusedSimpArgs false
set_option linter.unusedVariables false
/- The beginning of a run. No condition. -/
namespace Go.Proofs.Ytpmfpgbpndobpaa
open Go.RowKit
set_option linter.unusedVariables false
set_option linter.unusedSimpArgs false
attribute [local go_sem] ext_cell ext_frozen ext_lt ext_le ext_le1 lt_s2 lt_s3 lt_s4 lt_s5 lt_s6 ext_lt1 ext_lt2 ext_lt3

def prcO (ps : List Prc) (proc : Int) : Option Prc := if 0 ≤ proc then ps[proc.toNat]? else none
def newOk (ps : List Prc) (proc arg : Int) : Bool := prgOkB ps && match prcO ps proc with | some p => decide (p.lo ≤ arg) && decide (arg ≤ p.hi) | none => false
def newFr (proc arg : Int) : Fr := ⟨proc, 0, [arg, 0, 0, 0], [0, 0, 0, 0]⟩
def newRun (ps : List Prc) (proc arg : Int) : Ru := if newOk ps proc arg then ⟨1, [newFr proc arg], 0, 0, 0⟩ else ⟨0, [], 0, 0, 0⟩
abbrev runV (S : Ru) (a : Option Addr) (c : Nat) : Value := .agg #[.int .i64 S.state, .slice a S.frames.length c, .int .i64 S.out, .int .i64 S.proc, .int .i64 S.pc]
theorem newRun_no {ps : List Prc} {proc arg : Int} (h : newOk ps proc arg = false) : newRun ps proc arg = ⟨0, [], 0, 0, 0⟩ := by rw [newRun, h]; rfl
theorem newRun_yes {ps : List Prc} {proc arg : Int} (h : newOk ps proc arg = true) : newRun ps proc arg = ⟨1, [newFr proc arg], 0, 0, 0⟩ := by rw [newRun, h]; rfl
end Go.Proofs.Ytpmfpgbpndobpaa

/- The beginning of a run: the program. No condition. -/
namespace Go.Proofs.Ytpmfpgbpndobpaa
open Go.RowKit
set_option linter.unusedVariables false
set_option linter.unusedSimpArgs false
attribute [local go_sem] ext_cell ext_frozen ext_lt ext_le ext_le1 lt_s2 lt_s3 lt_s4 lt_s5 lt_s6 ext_lt1 ext_lt2 ext_lt3

theorem implItvHas (lo hi x : Int) (w : World) (h : itvOkB lo hi = true) :
    Calls Try.prog 50 #[.agg #[.int .i64 lo, .int .i64 hi], .int .i64 x] w fun e w' => e = .returned (.bool (decide (lo ≤ x) && decide (x ≤ hi))) ∧ Grew w w' := by
  have C := fun w => itvOk lo hi w
  rw [h] at C
  have HC := Lib.hid C; clear C h
  by_cases h1 : lo ≤ x
  · have h1' : decide (lo ≤ x) = true := decide_eq_true h1
    rw [h1']
    go_enter Try.func50, Try.ntmps50
    go_wp2_with ((with_reducible refine (HC.out _).mono ?_); rintro e w' ⟨rfl, g'⟩; (first | obtain ⟨y, rfl⟩ := ext_cold g' | obtain ⟨y, rfl⟩ := ext_col g' | obtain ⟨y, rfl⟩ := ext_of g'); clear g')
    go_ret
    refine ⟨by simp, ?_⟩
    repeat (first | with_reducible exact Below.refl _ _ | with_reducible assumption | with_reducible apply grew_ext | with_reducible apply grew_al | with_reducible apply grew_dn | with_reducible apply grew_d | (with_reducible refine grew_set ?_ (by first | omega | (repeat (first | with_reducible exact Nat.le_refl _ | with_reducible apply le_pl | with_reducible apply le_ext | with_reducible apply le_al))) _))
  · have h1' : decide (lo ≤ x) = false := decide_eq_false h1
    rw [h1']
    go_enter Try.func50, Try.ntmps50
    go_wp2_with ((with_reducible refine (HC.out _).mono ?_); rintro e w' ⟨rfl, g'⟩; (first | obtain ⟨y, rfl⟩ := ext_cold g' | obtain ⟨y, rfl⟩ := ext_col g' | obtain ⟨y, rfl⟩ := ext_of g'); clear g')
    go_ret
    refine ⟨by simp, ?_⟩
    repeat (first | with_reducible exact Below.refl _ _ | with_reducible assumption | with_reducible apply grew_ext | with_reducible apply grew_al | with_reducible apply grew_dn | with_reducible apply grew_d | (with_reducible refine grew_set ?_ (by first | omega | (repeat (first | with_reducible exact Nat.le_refl _ | with_reducible apply le_pl | with_reducible apply le_ext | with_reducible apply le_al))) _))

theorem prgOk_itv {ps : List Prc} (h : prgOkB ps = true) {k : Nat} {p : Prc} (hx : ps[k]? = some p) : itvOkB p.lo p.hi = true := by
  simp only [prgOkB, Bool.and_eq_true, List.all_eq_true] at h
  have h1 := h.2 p (List.mem_of_getElem? hx)
  simp only [prcOkB, Bool.and_eq_true] at h1
  exact h1.1.1.1

end Go.Proofs.Ytpmfpgbpndobpaa
