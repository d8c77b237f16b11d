/- The walk of the law FnExactInsRead: the program's reader of a line answers as the reference's. The numbers want the table, the two errors and strings.Split's bound. -/
import Derived.Test.YtcdfomoglkhboaaGreatDoorTip
namespace Go.Proofs.YtcdfomoglkhboaaGreatDoor
open Go.RowKit Go.Lib
set_option linter.unusedVariables false
set_option linter.unusedSimpArgs false
attribute [local go_sem] ext_cell ext_frozen ext_lt ext_le ext_le1 lt_s2 lt_s3 lt_s4 lt_s5 lt_s6 ext_lt1 ext_lt2 ext_lt3

theorem eqInsInsT (op d a b rel lo hi tv : Int) (w : World) :
    Calls Tryz.prog 17 #[.agg #[.int .i64 op, .int .i64 d, .int .i64 a, .int .i64 b, .int .i64 rel, .int .i64 lo, .int .i64 hi, .int .i64 tv], .agg #[.int .i64 op, .int .i64 d, .int .i64 a, .int .i64 b, .int .i64 rel, .int .i64 lo, .int .i64 hi, .int .i64 tv]] w fun e w' => e = .returned (.bool true) ∧ Grew w w' := by
  go_enter Tryz.func17, Tryz.ntmps17
  go_wp2
  all_goals
    go_ret
    exact ⟨rfl, gr⟩

theorem lawFnExactInsRead (s : List UInt8) (procs size : Int) (w : World) (En : Env w) (ML : MaxL w) :
    Calls Tryz.prog 4 #[.string ⟨s.toArray⟩, .int .i64 procs, .int .i64 size] w fun e w' => e = .returned (.bool true) ∧ Grew w w' := by
  by_cases hs : 1048576 < s.length
  · have hs' : (1048576 : Int) < (s.length : Int) := by omega
    go_enter Tryz.func4, Tryz.ntmps4
    go_wp2
    go_ret
    exact ⟨rfl, Below.refl _ _⟩
  have hs' : ¬ (1048576 : Int) < (s.length : Int) := by omega
  have C1 := fun w => specInsRead s procs size w
  have C2 := fun w En ML => implInsRead s procs size w En ML
  have HEn := Lib.hid En
  have HML := Lib.hid ML
  clear En ML hs
  cases hL : lineI s procs size with
  | none =>
    rw [hL] at C1 C2
    simp only [insV] at C1 C2
    have D1 := Lib.hid C1
    have D2 := Lib.hid C2
    have CE := Lib.hid fun w => eqInsInsT 0 0 0 0 0 0 0 0 w
    clear C1 C2 hL
    go_enter Tryz.func4, Tryz.ntmps4
    go_wp2_with (first
      | ((with_reducible refine (D1.out _).mono ?_); rintro e w' ⟨rfl, g'⟩; (first | obtain ⟨x, rfl⟩ := ext_cold g' | obtain ⟨x, rfl⟩ := ext_col g' | obtain ⟨x, rfl⟩ := ext_of g'); clear g')
      | ((with_reducible refine (D2.out _ (HEn.out.grew (gr)) (HML.out.grew (gr))).mono ?_); rintro e w' ⟨rfl, g'⟩; (first | obtain ⟨y, rfl⟩ := ext_cold g' | obtain ⟨y, rfl⟩ := ext_col g' | obtain ⟨y, rfl⟩ := ext_of g'); clear g')
      | ((with_reducible refine (CE.out _).mono ?_); rintro e w' ⟨rfl, g'⟩; (first | obtain ⟨z, rfl⟩ := ext_cold g' | obtain ⟨z, rfl⟩ := ext_col g' | obtain ⟨z, rfl⟩ := ext_of g'); clear g'))
    all_goals
      go_ret
      exact ⟨rfl, gr⟩
  | some i =>
    obtain ⟨op, d, a, b, rel, lo, hi, tv⟩ := i
    rw [hL] at C1 C2
    simp only [insV] at C1 C2
    have D1 := Lib.hid C1
    have D2 := Lib.hid C2
    have CE := Lib.hid fun w => eqInsInsT op d a b rel lo hi tv w
    clear C1 C2 hL
    go_enter Tryz.func4, Tryz.ntmps4
    go_wp2_with (first
      | ((with_reducible refine (D1.out _).mono ?_); rintro e w' ⟨rfl, g'⟩; (first | obtain ⟨x, rfl⟩ := ext_cold g' | obtain ⟨x, rfl⟩ := ext_col g' | obtain ⟨x, rfl⟩ := ext_of g'); clear g')
      | ((with_reducible refine (D2.out _ (HEn.out.grew (gr)) (HML.out.grew (gr))).mono ?_); rintro e w' ⟨rfl, g'⟩; (first | obtain ⟨y, rfl⟩ := ext_cold g' | obtain ⟨y, rfl⟩ := ext_col g' | obtain ⟨y, rfl⟩ := ext_of g'); clear g')
      | ((with_reducible refine (CE.out _).mono ?_); rintro e w' ⟨rfl, g'⟩; (first | obtain ⟨z, rfl⟩ := ext_cold g' | obtain ⟨z, rfl⟩ := ext_col g' | obtain ⟨z, rfl⟩ := ext_of g'); clear g'))
    all_goals
      go_ret
      exact ⟨rfl, gr⟩
end Go.Proofs.YtcdfomoglkhboaaGreatDoor
