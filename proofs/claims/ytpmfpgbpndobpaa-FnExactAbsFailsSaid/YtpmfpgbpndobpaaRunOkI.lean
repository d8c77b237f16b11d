/- Whether a run is ok: the program. No condition. -/
import Derived.Test.YtpmfpgbpndobpaaRunOkS
import Derived.Test.YtpmfpgbpndobpaaEnter
namespace Go.Proofs.Ytpmfpgbpndobpaa
open Go.RowKit
set_option linter.unusedVariables false
attribute [local go_sem] ext_cell ext_frozen ext_lt ext_le ext_le1 lt_s2 lt_s3 lt_s4 lt_s5 lt_s6 ext_lt1 ext_lt2 ext_lt3

def framesOkB (ps : List Prc) (fs : List Fr) : Bool := decide (1 ≤ fs.length) && decide (fs.length ≤ 5) && framesB ps fs
theorem implNumB (x : Int) (w : World) : Calls Try.prog 63 #[.int .i64 x] w fun e w' => e = .returned (.bool (numB x)) ∧ w = w' := implNumOk x w
theorem runOkB_i {ps : List Prc} {st out proc pc : Int} {fs : List Fr} (h : (prgOkB ps && (decide (1 ≤ st) && decide (st ≤ 4)) && numB out && (decide (st = 2) || decide (out = 0))) = true) :
    runOkB ps ⟨st, fs, out, proc, pc⟩ = ((if st = 3 then (atO ps proc pc).isSome && risksB (insOf (atO ps proc pc)).op else decide (proc = 0) && decide (pc = 0)) && (if st = 1 then framesOkB ps fs else decide (fs.length = 0))) := by
  simp only [Bool.and_eq_true] at h
  obtain ⟨⟨⟨p1, p2⟩, p3⟩, p4⟩ := h
  unfold runOkB framesOkB
  rw [p1, p2.1, p2.2, p3, p4]
  by_cases h1 : st = 1
  · subst h1
    simp only [Bool.true_and, Bool.and_true, if_true, show ¬ (1 : Int) = 3 from by decide, if_false]
    rw [Bool.eq_iff_iff]
    simp only [Bool.and_eq_true, decide_eq_true_eq]
    constructor
    · rintro ⟨a1, ⟨⟨a2, a3⟩, a4⟩, a5⟩
      exact ⟨⟨a4, a5⟩, ⟨by omega, a1⟩, a2⟩
    · rintro ⟨⟨a4, a5⟩, ⟨a6, a1⟩, a2⟩
      exact ⟨a1, ⟨⟨a2, by omega⟩, a4⟩, a5⟩
  · by_cases h3 : st = 3
    · subst h3
      simp only [Bool.true_and, Bool.and_true, if_true, show ¬ (3 : Int) = 1 from by decide, if_false]
      rw [Bool.eq_iff_iff]
      simp only [Bool.and_eq_true, decide_eq_true_eq]
      constructor
      · rintro ⟨a1, ⟨a2, a3⟩, a4⟩
        exact ⟨⟨a3, a4⟩, a2⟩
      · rintro ⟨⟨a3, a4⟩, a2⟩
        exact ⟨by omega, ⟨a2, a3⟩, a4⟩
    · simp only [Bool.true_and, Bool.and_true, if_neg h1, if_neg h3]
      rw [Bool.eq_iff_iff]
      simp only [Bool.and_eq_true, decide_eq_true_eq]
      constructor
      · rintro ⟨a1, ⟨a2, a3⟩, a4⟩
        exact ⟨⟨a3, a4⟩, a2⟩
      · rintro ⟨⟨a3, a4⟩, a2⟩
        exact ⟨by omega, ⟨a2, a3⟩, a4⟩
theorem runOkB_n {ps : List Prc} {st out proc pc : Int} {fs : List Fr} (h : (prgOkB ps && (decide (1 ≤ st) && decide (st ≤ 4)) && numB out && (decide (st = 2) || decide (out = 0))) = false) : runOkB ps ⟨st, fs, out, proc, pc⟩ = false := by
  unfold runOkB
  rw [Bool.and_eq_false_iff]
  left
  rw [Bool.eq_false_iff] at h ⊢
  simp only [ne_eq, Bool.and_eq_true] at h ⊢
  exact fun k => h ⟨⟨⟨k.1.1.1.1, k.1.1.1.2⟩, k.1.1.2⟩, k.2⟩

end Go.Proofs.Ytpmfpgbpndobpaa
