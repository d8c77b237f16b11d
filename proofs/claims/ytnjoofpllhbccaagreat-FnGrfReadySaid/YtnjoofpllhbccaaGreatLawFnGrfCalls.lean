/- The walk of the law FnGrfCalls. No condition. -/
import Derived.Test.YtnjoofpllhbccaaGreatDrGd
import Derived.Test.YtnjoofpllhbccaaGreatGt
import Derived.Test.YtnjoofpllhbccaaGreatOw
namespace Go.Proofs.YtnjoofpllhbccaaGreat
open Go.RowKit
set_option linter.unusedVariables false
set_option linter.unusedSimpArgs false
attribute [local go_sem] ext_cell ext_frozen ext_lt ext_le ext_le1 lt_s2 lt_s3 lt_s4 lt_s5 lt_s6 ext_lt1 ext_lt2 ext_lt3

theorem owOkH (w : World) : Calls Tryz.prog 11 #[] w fun e w' => e = .returned (.bool true) ∧ w = w' := by
  have C := Lib.hid (fun w => implNumOk 1 w)
  go_enter Tryz.func11, Tryz.ntmps11
  go_wp2_with fail
  refine (C.out _).mono ?_
  rintro e w' ⟨rfl, rfl⟩
  go_wp2
  go_ret
  exact ⟨rfl, rfl⟩
theorem grfCalls_no {ps : List Prc} {x : Int} (h : thereB ps x = false) : grfCalls ps x = [] := by rw [grfCalls, h]; rfl
theorem grfCalls_yes {ps : List Prc} {k : Nat} {p : Prc} (h : thereB ps k = true) (hp : ps[k]? = some p) : grfCalls ps k = scomp (callTo p.code) := by rw [grfCalls, h, if_pos rfl, cs_get hp]; rfl
theorem grfCalls_srt (ps : List Prc) (x : Int) : Srt (grfCalls ps x) := by
  unfold grfCalls
  cases h : thereB ps x
  · simp [Srt]
  · rw [if_pos rfl]
    unfold cOf'
    rw [List.getD_eq_getElem?_getD]
    cases hk : (csOf ps)[x.toNat]? with
    | none => simp [Srt]
    | some l =>
      rw [csOf, List.getElem?_map, Option.map_eq_some_iff] at hk
      obtain ⟨p, hp, rfl⟩ := hk
      exact scomp_srt _
/-- Whether one of these steps calls procedure y. -/
def callsB (is : List Ins) (y : Int) : Bool := is.any fun i => i.op == 10 && i.to == y
theorem callsB_mem (is : List Ins) (y : Int) : callsB is y = decide (y ∈ callTo is) := by
  apply Bool.eq_iff_iff.2
  rw [callsB, List.any_eq_true, decide_eq_true_eq, callTo, List.mem_map]
  constructor
  · rintro ⟨i, hi, h⟩
    simp only [Bool.and_eq_true, beq_iff_eq] at h
    exact ⟨i, List.mem_filter.2 ⟨hi, by simp [h.1]⟩, h.2⟩
  · rintro ⟨i, hi, rfl⟩
    obtain ⟨h1, h2⟩ := List.mem_filter.1 hi
    exact ⟨i, h1, by simpa using h2⟩
theorem callsB_snoc (is : List Ins) (i : Ins) (y : Int) : callsB (is ++ [i]) y = (callsB is y || (i.op == 10 && i.to == y)) := by simp [callsB]

end Go.Proofs.YtnjoofpllhbccaaGreat
