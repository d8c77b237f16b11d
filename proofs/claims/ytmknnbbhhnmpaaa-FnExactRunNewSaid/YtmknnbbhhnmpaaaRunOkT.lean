/- Whether a run is ok: the reference, whole. No condition. -/
import Derived.Test.YtmknnbbhhnmpaaaRunOkS
namespace Go.Proofs.Ytmknnbbhhnmpaaa
open Go.RowKit
set_option linter.unusedVariables false
attribute [local go_sem] ext_cell ext_frozen ext_lt ext_le ext_le1 lt_s2 lt_s3 lt_s4 lt_s5 lt_s6 ext_lt1 ext_lt2 ext_lt3

theorem specNumB (x : Int) (w : World) : Calls Try.prog 76 #[.int .i64 x] w fun e w' => e = .returned (.bool (numB x)) ∧ w = w' := specNumOk x w
theorem implNumB (x : Int) (w : World) : Calls Try.prog 94 #[.int .i64 x] w fun e w' => e = .returned (.bool (numB x)) ∧ w = w' := implNumOk x w
/-- A run's head. -/
def rheadB (ps : List Prc) (st out : Int) (fn : Nat) : Bool := prgOkB ps && (decide (1 ≤ st) && decide (st ≤ 4)) && numB out && decide (fn ≤ 5) && (decide (st = 2) || decide (out = 0))
theorem runOkB_rhead {ps : List Prc} {st out proc pc : Int} {fs : List Fr} (h : rheadB ps st out fs.length = false) : runOkB ps ⟨st, fs, out, proc, pc⟩ = false := by
  unfold rheadB at h
  rw [runOkB, h, Bool.false_and]
theorem runOkB_1 {ps : List Prc} {out proc pc : Int} {fs : List Fr} (h : rheadB ps 1 out fs.length = true) : runOkB ps ⟨1, fs, out, proc, pc⟩ = (framesB ps fs && decide (0 < fs.length) && decide (proc = 0) && decide (pc = 0)) := by
  unfold rheadB at h
  rw [runOkB, h, Bool.true_and]
  rfl
theorem runOkB_3 {ps : List Prc} {out proc pc : Int} {fs : List Fr} (h : rheadB ps 3 out fs.length = true) : runOkB ps ⟨3, fs, out, proc, pc⟩ = (decide (fs.length = 0) && (atO ps proc pc).isSome && risksB (insOf (atO ps proc pc)).op) := by
  unfold rheadB at h
  rw [runOkB, h, Bool.true_and]
  rfl
theorem runOkB_x {ps : List Prc} {st out proc pc : Int} {fs : List Fr} (h : rheadB ps st out fs.length = true) (h1 : st ≠ 1) (h3 : st ≠ 3) : runOkB ps ⟨st, fs, out, proc, pc⟩ = (decide (fs.length = 0) && decide (proc = 0) && decide (pc = 0)) := by
  unfold rheadB at h
  rw [runOkB, h, Bool.true_and]
  simp [h1, h3]

set_option maxRecDepth 100000 in
set_option maxHeartbeats 2000000 in
theorem specRunOkH (a : Option Addr) (n cap : Nat) (ps : List Prc) (st : Int) (fa : Option Addr) (fn fc : Nat) (out proc pc : Int) (w : World) (hr : RdP w a n ps) (hn : n ≤ 9223372036854775807) (hfn : fn ≤ 9223372036854775807) (hh : rheadB ps st out fn = false) :
    Calls Try.prog 66 #[.agg #[.slice a n cap], .agg #[.int .i64 st, .slice fa fn fc, .int .i64 out, .int .i64 proc, .int .i64 pc]] w fun e w' => e = .returned (.bool false) ∧ Grew w w' := by
  have C := fun W (h : Grew w W) => specPrgOk a n cap ps W (hr.grew h) hn
  have D := fun w => l1In st 1 4 w
  have E := fun w => specNumB out w
  unfold rheadB at hh
  clear hr
  generalize prgOkB ps = B1 at *
  generalize (decide (1 ≤ st) && decide (st ≤ 4)) = B2 at *
  generalize numB out = B3 at *
  have HC := Lib.hid C; clear C
  have HD := Lib.hid D; clear D
  have HE := Lib.hid E; clear E
  cases B1 <;> cases B2 <;> cases B3
  case true.true.true =>
    by_cases h5 : fn ≤ 5
    · have h5' : ¬ (fn : Int) > 5 := by omega
      obtain ⟨s2, o0⟩ : st ≠ 2 ∧ out ≠ 0 := by simpa [h5] using hh
      have s3 : (st != 2) = true := by simp [s2]
      have o3 : (out != 0) = true := by simp [o0]
      clear hh h5 s2 o0
      go_enter Try.func66, Try.ntmps66
      go_wp2_with (first | ((with_reducible refine (HC.out _ (by repeat (first | with_reducible exact Below.refl _ _ | with_reducible assumption | with_reducible apply grew_ext | with_reducible apply grew_al | with_reducible apply grew_dn | with_reducible apply grew_d | (with_reducible refine grew_set ?_ (by first | omega | (repeat (first | with_reducible exact Nat.le_refl _ | with_reducible apply le_pl | with_reducible apply le_ext | with_reducible apply le_al))) _)))).mono ?_); rintro e w' ⟨rfl, g'⟩; (first | obtain ⟨y, rfl⟩ := ext_cold g' | obtain ⟨y, rfl⟩ := ext_col g' | obtain ⟨y, rfl⟩ := ext_of g'); clear g') | ((with_reducible refine (HD.out _).mono ?_); rintro e w' ⟨rfl, rfl⟩) | ((with_reducible refine (HE.out _).mono ?_); rintro e w' ⟨rfl, rfl⟩))
      go_ret
      refine ⟨rfl, ?_⟩
      repeat (first | with_reducible exact Below.refl _ _ | with_reducible assumption | with_reducible apply grew_ext | with_reducible apply grew_al | with_reducible apply grew_dn | with_reducible apply grew_d | (with_reducible refine grew_set ?_ (by first | omega | (repeat (first | with_reducible exact Nat.le_refl _ | with_reducible apply le_pl | with_reducible apply le_ext | with_reducible apply le_al))) _))
    · have h5' : (fn : Int) > 5 := by omega
      clear hh h5
      go_enter Try.func66, Try.ntmps66
      go_wp2_with (first | ((with_reducible refine (HC.out _ (by repeat (first | with_reducible exact Below.refl _ _ | with_reducible assumption | with_reducible apply grew_ext | with_reducible apply grew_al | with_reducible apply grew_dn | with_reducible apply grew_d | (with_reducible refine grew_set ?_ (by first | omega | (repeat (first | with_reducible exact Nat.le_refl _ | with_reducible apply le_pl | with_reducible apply le_ext | with_reducible apply le_al))) _)))).mono ?_); rintro e w' ⟨rfl, g'⟩; (first | obtain ⟨y, rfl⟩ := ext_cold g' | obtain ⟨y, rfl⟩ := ext_col g' | obtain ⟨y, rfl⟩ := ext_of g'); clear g') | ((with_reducible refine (HD.out _).mono ?_); rintro e w' ⟨rfl, rfl⟩) | ((with_reducible refine (HE.out _).mono ?_); rintro e w' ⟨rfl, rfl⟩))
      go_ret
      refine ⟨rfl, ?_⟩
      repeat (first | with_reducible exact Below.refl _ _ | with_reducible assumption | with_reducible apply grew_ext | with_reducible apply grew_al | with_reducible apply grew_dn | with_reducible apply grew_d | (with_reducible refine grew_set ?_ (by first | omega | (repeat (first | with_reducible exact Nat.le_refl _ | with_reducible apply le_pl | with_reducible apply le_ext | with_reducible apply le_al))) _))
  all_goals
    clear hh
    go_enter Try.func66, Try.ntmps66
    go_wp2_with (first | ((with_reducible refine (HC.out _ (by repeat (first | with_reducible exact Below.refl _ _ | with_reducible assumption | with_reducible apply grew_ext | with_reducible apply grew_al | with_reducible apply grew_dn | with_reducible apply grew_d | (with_reducible refine grew_set ?_ (by first | omega | (repeat (first | with_reducible exact Nat.le_refl _ | with_reducible apply le_pl | with_reducible apply le_ext | with_reducible apply le_al))) _)))).mono ?_); rintro e w' ⟨rfl, g'⟩; (first | obtain ⟨y, rfl⟩ := ext_cold g' | obtain ⟨y, rfl⟩ := ext_col g' | obtain ⟨y, rfl⟩ := ext_of g'); clear g') | ((with_reducible refine (HD.out _).mono ?_); rintro e w' ⟨rfl, rfl⟩) | ((with_reducible refine (HE.out _).mono ?_); rintro e w' ⟨rfl, rfl⟩))
    go_ret
    refine ⟨rfl, ?_⟩
    repeat (first | with_reducible exact Below.refl _ _ | with_reducible assumption | with_reducible apply grew_ext | with_reducible apply grew_al | with_reducible apply grew_dn | with_reducible apply grew_d | (with_reducible refine grew_set ?_ (by first | omega | (repeat (first | with_reducible exact Nat.le_refl _ | with_reducible apply le_pl | with_reducible apply le_ext | with_reducible apply le_al))) _))

set_option maxRecDepth 100000 in
set_option maxHeartbeats 4000000 in
theorem specRunOk3 (a : Option Addr) (n cap : Nat) (fa : Option Addr) (fn fc : Nat) (out proc pc : Int) (J : Ins) (B : Bool) (w : World) (HC0 : Hid (∀ W, Grew w W → Calls Try.prog 19 #[.agg #[.slice a n cap]] W fun e w' => e = .returned (.bool true) ∧ Grew W w')) (HE0 : Hid (numB out = true)) (HF : Hid (∀ W, Grew w W → Calls Try.prog 25 #[.agg #[.slice a n cap], .int .i64 proc, .int .i64 pc] W fun e w' => e = .returned (.tuple #[J.v, .bool B]) ∧ Grew W w')) (h5 : fn ≤ 5) (o0 : out = 0) :
    Calls Try.prog 66 #[.agg #[.slice a n cap], .agg #[.int .i64 3, .slice fa fn fc, .int .i64 out, .int .i64 proc, .int .i64 pc]] w fun e w' => e = .returned (.bool (decide (fn = 0) && B && risksB J.op)) ∧ Grew w w' := by
  have h5' : ¬ (fn : Int) > 5 := by omega
  have HD := Lib.hid (fun w => l1In 3 1 4 w)
  have E := fun w => specNumB out w
  rw [HE0.out] at E
  have HC := Lib.hid HC0.out; clear HC0 HE0
  have HE := Lib.hid E; clear E
  clear h5
  obtain ⟨jo, jd, ja, jb, jr, jl, jh, jt⟩ := J
  subst o0
  have G := fun w => specRisks jo w
  show Calls _ _ _ _ fun e w' => e = .returned (.bool (decide (fn = 0) && B && risksB jo)) ∧ Grew w w'
  generalize risksB jo = R at *
  have HG := Lib.hid G; clear G
  by_cases hf : fn = 0
  · have hf2 : ((fn : Int) == 0) = true := by simp [hf]
    have HQ := Lib.hid (decide_eq_true hf)
    clear hf
    cases B
    all_goals
      go_enter Try.func66, Try.ntmps66
      go_wp2_with (first | ((with_reducible refine (HC.out _ (by repeat (first | with_reducible exact Below.refl _ _ | with_reducible assumption | with_reducible apply grew_ext | with_reducible apply grew_al | with_reducible apply grew_dn | with_reducible apply grew_d | (with_reducible refine grew_set ?_ (by first | omega | (repeat (first | with_reducible exact Nat.le_refl _ | with_reducible apply le_pl | with_reducible apply le_ext | with_reducible apply le_al))) _)))).mono ?_); rintro e w' ⟨rfl, g'⟩; (first | obtain ⟨y, rfl⟩ := ext_cold g' | obtain ⟨y, rfl⟩ := ext_col g' | obtain ⟨y, rfl⟩ := ext_of g'); clear g') | ((with_reducible refine (HD.out _).mono ?_); rintro e w' ⟨rfl, rfl⟩) | ((with_reducible refine (HE.out _).mono ?_); rintro e w' ⟨rfl, rfl⟩) | ((with_reducible refine (HF.out _ (by repeat (first | with_reducible exact Below.refl _ _ | with_reducible assumption | with_reducible apply grew_ext | with_reducible apply grew_al | with_reducible apply grew_dn | with_reducible apply grew_d | (with_reducible refine grew_set ?_ (by first | omega | (repeat (first | with_reducible exact Nat.le_refl _ | with_reducible apply le_pl | with_reducible apply le_ext | with_reducible apply le_al))) _)))).mono ?_); rintro e w' ⟨rfl, g'⟩; (first | obtain ⟨z, rfl⟩ := ext_cold g' | obtain ⟨z, rfl⟩ := ext_col g' | obtain ⟨z, rfl⟩ := ext_of g'); clear g') | ((with_reducible refine (HG.out _).mono ?_); rintro e w' ⟨rfl, rfl⟩))
      go_ret
      refine ⟨by rw [HQ.out]; rfl, ?_⟩
      repeat (first | with_reducible exact Below.refl _ _ | with_reducible assumption | with_reducible apply grew_ext | with_reducible apply grew_al | with_reducible apply grew_dn | with_reducible apply grew_d | (with_reducible refine grew_set ?_ (by first | omega | (repeat (first | with_reducible exact Nat.le_refl _ | with_reducible apply le_pl | with_reducible apply le_ext | with_reducible apply le_al))) _))
  · have hf2 : ((fn : Int) == 0) = false := by simp [hf]
    have HQ := Lib.hid (decide_eq_false hf)
    clear hf
    go_enter Try.func66, Try.ntmps66
    go_wp2_with (first | ((with_reducible refine (HC.out _ (by repeat (first | with_reducible exact Below.refl _ _ | with_reducible assumption | with_reducible apply grew_ext | with_reducible apply grew_al | with_reducible apply grew_dn | with_reducible apply grew_d | (with_reducible refine grew_set ?_ (by first | omega | (repeat (first | with_reducible exact Nat.le_refl _ | with_reducible apply le_pl | with_reducible apply le_ext | with_reducible apply le_al))) _)))).mono ?_); rintro e w' ⟨rfl, g'⟩; (first | obtain ⟨y, rfl⟩ := ext_cold g' | obtain ⟨y, rfl⟩ := ext_col g' | obtain ⟨y, rfl⟩ := ext_of g'); clear g') | ((with_reducible refine (HD.out _).mono ?_); rintro e w' ⟨rfl, rfl⟩) | ((with_reducible refine (HE.out _).mono ?_); rintro e w' ⟨rfl, rfl⟩) | ((with_reducible refine (HF.out _ (by repeat (first | with_reducible exact Below.refl _ _ | with_reducible assumption | with_reducible apply grew_ext | with_reducible apply grew_al | with_reducible apply grew_dn | with_reducible apply grew_d | (with_reducible refine grew_set ?_ (by first | omega | (repeat (first | with_reducible exact Nat.le_refl _ | with_reducible apply le_pl | with_reducible apply le_ext | with_reducible apply le_al))) _)))).mono ?_); rintro e w' ⟨rfl, g'⟩; (first | obtain ⟨z, rfl⟩ := ext_cold g' | obtain ⟨z, rfl⟩ := ext_col g' | obtain ⟨z, rfl⟩ := ext_of g'); clear g') | ((with_reducible refine (HG.out _).mono ?_); rintro e w' ⟨rfl, rfl⟩))
    go_ret
    refine ⟨by rw [HQ.out]; rfl, ?_⟩
    repeat (first | with_reducible exact Below.refl _ _ | with_reducible assumption | with_reducible apply grew_ext | with_reducible apply grew_al | with_reducible apply grew_dn | with_reducible apply grew_d | (with_reducible refine grew_set ?_ (by first | omega | (repeat (first | with_reducible exact Nat.le_refl _ | with_reducible apply le_pl | with_reducible apply le_ext | with_reducible apply le_al))) _))
set_option maxRecDepth 100000 in
set_option maxHeartbeats 4000000 in
theorem specRunOk2 (a : Option Addr) (n cap : Nat) (fa : Option Addr) (fn fc : Nat) (out proc pc : Int) (J : Ins) (B : Bool) (w : World) (HC0 : Hid (∀ W, Grew w W → Calls Try.prog 19 #[.agg #[.slice a n cap]] W fun e w' => e = .returned (.bool true) ∧ Grew W w')) (HE0 : Hid (numB out = true)) (HF : Hid (∀ W, Grew w W → Calls Try.prog 25 #[.agg #[.slice a n cap], .int .i64 proc, .int .i64 pc] W fun e w' => e = .returned (.tuple #[J.v, .bool B]) ∧ Grew W w')) (h5 : fn ≤ 5)  :
    Calls Try.prog 66 #[.agg #[.slice a n cap], .agg #[.int .i64 2, .slice fa fn fc, .int .i64 out, .int .i64 proc, .int .i64 pc]] w fun e w' => e = .returned (.bool (decide (fn = 0) && decide (proc = 0) && decide (pc = 0))) ∧ Grew w w' := by
  have h5' : ¬ (fn : Int) > 5 := by omega
  have HD := Lib.hid (fun w => l1In 2 1 4 w)
  have E := fun w => specNumB out w
  rw [HE0.out] at E
  have HC := Lib.hid HC0.out; clear HC0 HE0
  have HE := Lib.hid E; clear E
  clear h5
  obtain ⟨jo, jd, ja, jb, jr, jl, jh, jt⟩ := J
  by_cases hf : fn = 0
  · have hf2 : ((fn : Int) == 0) = true := by simp [hf]
    have HQ := Lib.hid (decide_eq_true hf)
    clear hf
    by_cases hp : proc = 0
    · have hp2 : (proc == 0) = true := by simp [hp]
      have HP := Lib.hid (decide_eq_true hp)
      clear hp
      by_cases hc : pc = 0
      · have hc2 : (pc == 0) = true := by simp [hc]
        have HPC := Lib.hid (decide_eq_true hc)
        clear hc
        go_enter Try.func66, Try.ntmps66
        go_wp2_with (first | ((with_reducible refine (HC.out _ (by repeat (first | with_reducible exact Below.refl _ _ | with_reducible assumption | with_reducible apply grew_ext | with_reducible apply grew_al | with_reducible apply grew_dn | with_reducible apply grew_d | (with_reducible refine grew_set ?_ (by first | omega | (repeat (first | with_reducible exact Nat.le_refl _ | with_reducible apply le_pl | with_reducible apply le_ext | with_reducible apply le_al))) _)))).mono ?_); rintro e w' ⟨rfl, g'⟩; (first | obtain ⟨y, rfl⟩ := ext_cold g' | obtain ⟨y, rfl⟩ := ext_col g' | obtain ⟨y, rfl⟩ := ext_of g'); clear g') | ((with_reducible refine (HD.out _).mono ?_); rintro e w' ⟨rfl, rfl⟩) | ((with_reducible refine (HE.out _).mono ?_); rintro e w' ⟨rfl, rfl⟩) | ((with_reducible refine (HF.out _ (by repeat (first | with_reducible exact Below.refl _ _ | with_reducible assumption | with_reducible apply grew_ext | with_reducible apply grew_al | with_reducible apply grew_dn | with_reducible apply grew_d | (with_reducible refine grew_set ?_ (by first | omega | (repeat (first | with_reducible exact Nat.le_refl _ | with_reducible apply le_pl | with_reducible apply le_ext | with_reducible apply le_al))) _)))).mono ?_); rintro e w' ⟨rfl, g'⟩; (first | obtain ⟨z, rfl⟩ := ext_cold g' | obtain ⟨z, rfl⟩ := ext_col g' | obtain ⟨z, rfl⟩ := ext_of g'); clear g'))
        go_ret
        refine ⟨by rw [HQ.out, HP.out, HPC.out]; rfl, ?_⟩
        repeat (first | with_reducible exact Below.refl _ _ | with_reducible assumption | with_reducible apply grew_ext | with_reducible apply grew_al | with_reducible apply grew_dn | with_reducible apply grew_d | (with_reducible refine grew_set ?_ (by first | omega | (repeat (first | with_reducible exact Nat.le_refl _ | with_reducible apply le_pl | with_reducible apply le_ext | with_reducible apply le_al))) _))
      · have hc2 : (pc == 0) = false := by simp [hc]
        have HPC := Lib.hid (decide_eq_false hc)
        clear hc
        go_enter Try.func66, Try.ntmps66
        go_wp2_with (first | ((with_reducible refine (HC.out _ (by repeat (first | with_reducible exact Below.refl _ _ | with_reducible assumption | with_reducible apply grew_ext | with_reducible apply grew_al | with_reducible apply grew_dn | with_reducible apply grew_d | (with_reducible refine grew_set ?_ (by first | omega | (repeat (first | with_reducible exact Nat.le_refl _ | with_reducible apply le_pl | with_reducible apply le_ext | with_reducible apply le_al))) _)))).mono ?_); rintro e w' ⟨rfl, g'⟩; (first | obtain ⟨y, rfl⟩ := ext_cold g' | obtain ⟨y, rfl⟩ := ext_col g' | obtain ⟨y, rfl⟩ := ext_of g'); clear g') | ((with_reducible refine (HD.out _).mono ?_); rintro e w' ⟨rfl, rfl⟩) | ((with_reducible refine (HE.out _).mono ?_); rintro e w' ⟨rfl, rfl⟩) | ((with_reducible refine (HF.out _ (by repeat (first | with_reducible exact Below.refl _ _ | with_reducible assumption | with_reducible apply grew_ext | with_reducible apply grew_al | with_reducible apply grew_dn | with_reducible apply grew_d | (with_reducible refine grew_set ?_ (by first | omega | (repeat (first | with_reducible exact Nat.le_refl _ | with_reducible apply le_pl | with_reducible apply le_ext | with_reducible apply le_al))) _)))).mono ?_); rintro e w' ⟨rfl, g'⟩; (first | obtain ⟨z, rfl⟩ := ext_cold g' | obtain ⟨z, rfl⟩ := ext_col g' | obtain ⟨z, rfl⟩ := ext_of g'); clear g'))
        go_ret
        refine ⟨by rw [HQ.out, HP.out, HPC.out]; rfl, ?_⟩
        repeat (first | with_reducible exact Below.refl _ _ | with_reducible assumption | with_reducible apply grew_ext | with_reducible apply grew_al | with_reducible apply grew_dn | with_reducible apply grew_d | (with_reducible refine grew_set ?_ (by first | omega | (repeat (first | with_reducible exact Nat.le_refl _ | with_reducible apply le_pl | with_reducible apply le_ext | with_reducible apply le_al))) _))
    · have hp2 : (proc == 0) = false := by simp [hp]
      have HP := Lib.hid (decide_eq_false hp)
      clear hp
      go_enter Try.func66, Try.ntmps66
      go_wp2_with (first | ((with_reducible refine (HC.out _ (by repeat (first | with_reducible exact Below.refl _ _ | with_reducible assumption | with_reducible apply grew_ext | with_reducible apply grew_al | with_reducible apply grew_dn | with_reducible apply grew_d | (with_reducible refine grew_set ?_ (by first | omega | (repeat (first | with_reducible exact Nat.le_refl _ | with_reducible apply le_pl | with_reducible apply le_ext | with_reducible apply le_al))) _)))).mono ?_); rintro e w' ⟨rfl, g'⟩; (first | obtain ⟨y, rfl⟩ := ext_cold g' | obtain ⟨y, rfl⟩ := ext_col g' | obtain ⟨y, rfl⟩ := ext_of g'); clear g') | ((with_reducible refine (HD.out _).mono ?_); rintro e w' ⟨rfl, rfl⟩) | ((with_reducible refine (HE.out _).mono ?_); rintro e w' ⟨rfl, rfl⟩) | ((with_reducible refine (HF.out _ (by repeat (first | with_reducible exact Below.refl _ _ | with_reducible assumption | with_reducible apply grew_ext | with_reducible apply grew_al | with_reducible apply grew_dn | with_reducible apply grew_d | (with_reducible refine grew_set ?_ (by first | omega | (repeat (first | with_reducible exact Nat.le_refl _ | with_reducible apply le_pl | with_reducible apply le_ext | with_reducible apply le_al))) _)))).mono ?_); rintro e w' ⟨rfl, g'⟩; (first | obtain ⟨z, rfl⟩ := ext_cold g' | obtain ⟨z, rfl⟩ := ext_col g' | obtain ⟨z, rfl⟩ := ext_of g'); clear g'))
      go_ret
      refine ⟨by rw [HQ.out, HP.out]; rfl, ?_⟩
      repeat (first | with_reducible exact Below.refl _ _ | with_reducible assumption | with_reducible apply grew_ext | with_reducible apply grew_al | with_reducible apply grew_dn | with_reducible apply grew_d | (with_reducible refine grew_set ?_ (by first | omega | (repeat (first | with_reducible exact Nat.le_refl _ | with_reducible apply le_pl | with_reducible apply le_ext | with_reducible apply le_al))) _))
  · have hf2 : ((fn : Int) == 0) = false := by simp [hf]
    have HQ := Lib.hid (decide_eq_false hf)
    clear hf
    go_enter Try.func66, Try.ntmps66
    go_wp2_with (first | ((with_reducible refine (HC.out _ (by repeat (first | with_reducible exact Below.refl _ _ | with_reducible assumption | with_reducible apply grew_ext | with_reducible apply grew_al | with_reducible apply grew_dn | with_reducible apply grew_d | (with_reducible refine grew_set ?_ (by first | omega | (repeat (first | with_reducible exact Nat.le_refl _ | with_reducible apply le_pl | with_reducible apply le_ext | with_reducible apply le_al))) _)))).mono ?_); rintro e w' ⟨rfl, g'⟩; (first | obtain ⟨y, rfl⟩ := ext_cold g' | obtain ⟨y, rfl⟩ := ext_col g' | obtain ⟨y, rfl⟩ := ext_of g'); clear g') | ((with_reducible refine (HD.out _).mono ?_); rintro e w' ⟨rfl, rfl⟩) | ((with_reducible refine (HE.out _).mono ?_); rintro e w' ⟨rfl, rfl⟩) | ((with_reducible refine (HF.out _ (by repeat (first | with_reducible exact Below.refl _ _ | with_reducible assumption | with_reducible apply grew_ext | with_reducible apply grew_al | with_reducible apply grew_dn | with_reducible apply grew_d | (with_reducible refine grew_set ?_ (by first | omega | (repeat (first | with_reducible exact Nat.le_refl _ | with_reducible apply le_pl | with_reducible apply le_ext | with_reducible apply le_al))) _)))).mono ?_); rintro e w' ⟨rfl, g'⟩; (first | obtain ⟨z, rfl⟩ := ext_cold g' | obtain ⟨z, rfl⟩ := ext_col g' | obtain ⟨z, rfl⟩ := ext_of g'); clear g'))
    go_ret
    refine ⟨by rw [HQ.out]; rfl, ?_⟩
    repeat (first | with_reducible exact Below.refl _ _ | with_reducible assumption | with_reducible apply grew_ext | with_reducible apply grew_al | with_reducible apply grew_dn | with_reducible apply grew_d | (with_reducible refine grew_set ?_ (by first | omega | (repeat (first | with_reducible exact Nat.le_refl _ | with_reducible apply le_pl | with_reducible apply le_ext | with_reducible apply le_al))) _))
set_option maxRecDepth 100000 in
set_option maxHeartbeats 4000000 in
theorem specRunOk4 (a : Option Addr) (n cap : Nat) (fa : Option Addr) (fn fc : Nat) (out proc pc : Int) (J : Ins) (B : Bool) (w : World) (HC0 : Hid (∀ W, Grew w W → Calls Try.prog 19 #[.agg #[.slice a n cap]] W fun e w' => e = .returned (.bool true) ∧ Grew W w')) (HE0 : Hid (numB out = true)) (HF : Hid (∀ W, Grew w W → Calls Try.prog 25 #[.agg #[.slice a n cap], .int .i64 proc, .int .i64 pc] W fun e w' => e = .returned (.tuple #[J.v, .bool B]) ∧ Grew W w')) (h5 : fn ≤ 5) (o0 : out = 0) :
    Calls Try.prog 66 #[.agg #[.slice a n cap], .agg #[.int .i64 4, .slice fa fn fc, .int .i64 out, .int .i64 proc, .int .i64 pc]] w fun e w' => e = .returned (.bool (decide (fn = 0) && decide (proc = 0) && decide (pc = 0))) ∧ Grew w w' := by
  have h5' : ¬ (fn : Int) > 5 := by omega
  have HD := Lib.hid (fun w => l1In 4 1 4 w)
  have E := fun w => specNumB out w
  rw [HE0.out] at E
  have HC := Lib.hid HC0.out; clear HC0 HE0
  have HE := Lib.hid E; clear E
  clear h5
  obtain ⟨jo, jd, ja, jb, jr, jl, jh, jt⟩ := J
  subst o0
  by_cases hf : fn = 0
  · have hf2 : ((fn : Int) == 0) = true := by simp [hf]
    have HQ := Lib.hid (decide_eq_true hf)
    clear hf
    by_cases hp : proc = 0
    · have hp2 : (proc == 0) = true := by simp [hp]
      have HP := Lib.hid (decide_eq_true hp)
      clear hp
      by_cases hc : pc = 0
      · have hc2 : (pc == 0) = true := by simp [hc]
        have HPC := Lib.hid (decide_eq_true hc)
        clear hc
        go_enter Try.func66, Try.ntmps66
        go_wp2_with (first | ((with_reducible refine (HC.out _ (by repeat (first | with_reducible exact Below.refl _ _ | with_reducible assumption | with_reducible apply grew_ext | with_reducible apply grew_al | with_reducible apply grew_dn | with_reducible apply grew_d | (with_reducible refine grew_set ?_ (by first | omega | (repeat (first | with_reducible exact Nat.le_refl _ | with_reducible apply le_pl | with_reducible apply le_ext | with_reducible apply le_al))) _)))).mono ?_); rintro e w' ⟨rfl, g'⟩; (first | obtain ⟨y, rfl⟩ := ext_cold g' | obtain ⟨y, rfl⟩ := ext_col g' | obtain ⟨y, rfl⟩ := ext_of g'); clear g') | ((with_reducible refine (HD.out _).mono ?_); rintro e w' ⟨rfl, rfl⟩) | ((with_reducible refine (HE.out _).mono ?_); rintro e w' ⟨rfl, rfl⟩) | ((with_reducible refine (HF.out _ (by repeat (first | with_reducible exact Below.refl _ _ | with_reducible assumption | with_reducible apply grew_ext | with_reducible apply grew_al | with_reducible apply grew_dn | with_reducible apply grew_d | (with_reducible refine grew_set ?_ (by first | omega | (repeat (first | with_reducible exact Nat.le_refl _ | with_reducible apply le_pl | with_reducible apply le_ext | with_reducible apply le_al))) _)))).mono ?_); rintro e w' ⟨rfl, g'⟩; (first | obtain ⟨z, rfl⟩ := ext_cold g' | obtain ⟨z, rfl⟩ := ext_col g' | obtain ⟨z, rfl⟩ := ext_of g'); clear g'))
        go_ret
        refine ⟨by rw [HQ.out, HP.out, HPC.out]; rfl, ?_⟩
        repeat (first | with_reducible exact Below.refl _ _ | with_reducible assumption | with_reducible apply grew_ext | with_reducible apply grew_al | with_reducible apply grew_dn | with_reducible apply grew_d | (with_reducible refine grew_set ?_ (by first | omega | (repeat (first | with_reducible exact Nat.le_refl _ | with_reducible apply le_pl | with_reducible apply le_ext | with_reducible apply le_al))) _))
      · have hc2 : (pc == 0) = false := by simp [hc]
        have HPC := Lib.hid (decide_eq_false hc)
        clear hc
        go_enter Try.func66, Try.ntmps66
        go_wp2_with (first | ((with_reducible refine (HC.out _ (by repeat (first | with_reducible exact Below.refl _ _ | with_reducible assumption | with_reducible apply grew_ext | with_reducible apply grew_al | with_reducible apply grew_dn | with_reducible apply grew_d | (with_reducible refine grew_set ?_ (by first | omega | (repeat (first | with_reducible exact Nat.le_refl _ | with_reducible apply le_pl | with_reducible apply le_ext | with_reducible apply le_al))) _)))).mono ?_); rintro e w' ⟨rfl, g'⟩; (first | obtain ⟨y, rfl⟩ := ext_cold g' | obtain ⟨y, rfl⟩ := ext_col g' | obtain ⟨y, rfl⟩ := ext_of g'); clear g') | ((with_reducible refine (HD.out _).mono ?_); rintro e w' ⟨rfl, rfl⟩) | ((with_reducible refine (HE.out _).mono ?_); rintro e w' ⟨rfl, rfl⟩) | ((with_reducible refine (HF.out _ (by repeat (first | with_reducible exact Below.refl _ _ | with_reducible assumption | with_reducible apply grew_ext | with_reducible apply grew_al | with_reducible apply grew_dn | with_reducible apply grew_d | (with_reducible refine grew_set ?_ (by first | omega | (repeat (first | with_reducible exact Nat.le_refl _ | with_reducible apply le_pl | with_reducible apply le_ext | with_reducible apply le_al))) _)))).mono ?_); rintro e w' ⟨rfl, g'⟩; (first | obtain ⟨z, rfl⟩ := ext_cold g' | obtain ⟨z, rfl⟩ := ext_col g' | obtain ⟨z, rfl⟩ := ext_of g'); clear g'))
        go_ret
        refine ⟨by rw [HQ.out, HP.out, HPC.out]; rfl, ?_⟩
        repeat (first | with_reducible exact Below.refl _ _ | with_reducible assumption | with_reducible apply grew_ext | with_reducible apply grew_al | with_reducible apply grew_dn | with_reducible apply grew_d | (with_reducible refine grew_set ?_ (by first | omega | (repeat (first | with_reducible exact Nat.le_refl _ | with_reducible apply le_pl | with_reducible apply le_ext | with_reducible apply le_al))) _))
    · have hp2 : (proc == 0) = false := by simp [hp]
      have HP := Lib.hid (decide_eq_false hp)
      clear hp
      go_enter Try.func66, Try.ntmps66
      go_wp2_with (first | ((with_reducible refine (HC.out _ (by repeat (first | with_reducible exact Below.refl _ _ | with_reducible assumption | with_reducible apply grew_ext | with_reducible apply grew_al | with_reducible apply grew_dn | with_reducible apply grew_d | (with_reducible refine grew_set ?_ (by first | omega | (repeat (first | with_reducible exact Nat.le_refl _ | with_reducible apply le_pl | with_reducible apply le_ext | with_reducible apply le_al))) _)))).mono ?_); rintro e w' ⟨rfl, g'⟩; (first | obtain ⟨y, rfl⟩ := ext_cold g' | obtain ⟨y, rfl⟩ := ext_col g' | obtain ⟨y, rfl⟩ := ext_of g'); clear g') | ((with_reducible refine (HD.out _).mono ?_); rintro e w' ⟨rfl, rfl⟩) | ((with_reducible refine (HE.out _).mono ?_); rintro e w' ⟨rfl, rfl⟩) | ((with_reducible refine (HF.out _ (by repeat (first | with_reducible exact Below.refl _ _ | with_reducible assumption | with_reducible apply grew_ext | with_reducible apply grew_al | with_reducible apply grew_dn | with_reducible apply grew_d | (with_reducible refine grew_set ?_ (by first | omega | (repeat (first | with_reducible exact Nat.le_refl _ | with_reducible apply le_pl | with_reducible apply le_ext | with_reducible apply le_al))) _)))).mono ?_); rintro e w' ⟨rfl, g'⟩; (first | obtain ⟨z, rfl⟩ := ext_cold g' | obtain ⟨z, rfl⟩ := ext_col g' | obtain ⟨z, rfl⟩ := ext_of g'); clear g'))
      go_ret
      refine ⟨by rw [HQ.out, HP.out]; rfl, ?_⟩
      repeat (first | with_reducible exact Below.refl _ _ | with_reducible assumption | with_reducible apply grew_ext | with_reducible apply grew_al | with_reducible apply grew_dn | with_reducible apply grew_d | (with_reducible refine grew_set ?_ (by first | omega | (repeat (first | with_reducible exact Nat.le_refl _ | with_reducible apply le_pl | with_reducible apply le_ext | with_reducible apply le_al))) _))
  · have hf2 : ((fn : Int) == 0) = false := by simp [hf]
    have HQ := Lib.hid (decide_eq_false hf)
    clear hf
    go_enter Try.func66, Try.ntmps66
    go_wp2_with (first | ((with_reducible refine (HC.out _ (by repeat (first | with_reducible exact Below.refl _ _ | with_reducible assumption | with_reducible apply grew_ext | with_reducible apply grew_al | with_reducible apply grew_dn | with_reducible apply grew_d | (with_reducible refine grew_set ?_ (by first | omega | (repeat (first | with_reducible exact Nat.le_refl _ | with_reducible apply le_pl | with_reducible apply le_ext | with_reducible apply le_al))) _)))).mono ?_); rintro e w' ⟨rfl, g'⟩; (first | obtain ⟨y, rfl⟩ := ext_cold g' | obtain ⟨y, rfl⟩ := ext_col g' | obtain ⟨y, rfl⟩ := ext_of g'); clear g') | ((with_reducible refine (HD.out _).mono ?_); rintro e w' ⟨rfl, rfl⟩) | ((with_reducible refine (HE.out _).mono ?_); rintro e w' ⟨rfl, rfl⟩) | ((with_reducible refine (HF.out _ (by repeat (first | with_reducible exact Below.refl _ _ | with_reducible assumption | with_reducible apply grew_ext | with_reducible apply grew_al | with_reducible apply grew_dn | with_reducible apply grew_d | (with_reducible refine grew_set ?_ (by first | omega | (repeat (first | with_reducible exact Nat.le_refl _ | with_reducible apply le_pl | with_reducible apply le_ext | with_reducible apply le_al))) _)))).mono ?_); rintro e w' ⟨rfl, g'⟩; (first | obtain ⟨z, rfl⟩ := ext_cold g' | obtain ⟨z, rfl⟩ := ext_col g' | obtain ⟨z, rfl⟩ := ext_of g'); clear g'))
    go_ret
    refine ⟨by rw [HQ.out]; rfl, ?_⟩
    repeat (first | with_reducible exact Below.refl _ _ | with_reducible assumption | with_reducible apply grew_ext | with_reducible apply grew_al | with_reducible apply grew_dn | with_reducible apply grew_d | (with_reducible refine grew_set ?_ (by first | omega | (repeat (first | with_reducible exact Nat.le_refl _ | with_reducible apply le_pl | with_reducible apply le_ext | with_reducible apply le_al))) _))

theorem specRunOkN (a : Option Addr) (n cap : Nat) (ps : List Prc) (st : Int) (fa : Option Addr) (fn fc : Nat) (out proc pc : Int) (w : World) (hr : RdP w a n ps) (hn : n ≤ 9223372036854775807) (hh : rheadB ps st out fn = true) (h1 : st ≠ 1) :
    Calls Try.prog 66 #[.agg #[.slice a n cap], .agg #[.int .i64 st, .slice fa fn fc, .int .i64 out, .int .i64 proc, .int .i64 pc]] w fun e w' => e = .returned (.bool (if st = 3 then decide (fn = 0) && (atO ps proc pc).isSome && risksB (insOf (atO ps proc pc)).op else decide (fn = 0) && decide (proc = 0) && decide (pc = 0))) ∧ Grew w w' := by
  have C := fun W (h : Grew w W) => specPrgOk a n cap ps W (hr.grew h) hn
  have F : ∀ W, Grew w W → Calls Try.prog 25 #[.agg #[.slice a n cap], .int .i64 proc, .int .i64 pc] W fun e w' => e = .returned (.tuple #[(insOf (atO ps proc pc)).v, .bool (atO ps proc pc).isSome]) ∧ Grew W w' := fun W h => specPrgAt a n cap ps proc pc W (hr.grew h) hn
  unfold rheadB at hh
  simp only [Bool.and_eq_true] at hh
  obtain ⟨⟨⟨⟨p1, p2⟩, p3⟩, p4⟩, p5⟩ := hh
  rw [p1] at C
  have hst : (st = 2) ∨ (st = 3 ∧ out = 0) ∨ (st = 4 ∧ out = 0) := by
    have e1 := of_decide_eq_true p2.1
    have e2 := of_decide_eq_true p2.2
    rcases (show st = 2 ∨ out = 0 by simpa using p5) with e3 | e3
    · exact .inl e3
    · omega
  rcases hst with rfl | ⟨rfl, o0⟩ | ⟨rfl, o0⟩
  · exact specRunOk2 a n cap fa fn fc out proc pc _ _ w (Lib.hid C) (Lib.hid p3) (Lib.hid F) (of_decide_eq_true p4)
  · exact specRunOk3 a n cap fa fn fc out proc pc _ _ w (Lib.hid C) (Lib.hid p3) (Lib.hid F) (of_decide_eq_true p4) o0
  · exact specRunOk4 a n cap fa fn fc out proc pc _ _ w (Lib.hid C) (Lib.hid p3) (Lib.hid F) (of_decide_eq_true p4) o0

theorem specRunOk (a : Option Addr) (n cap : Nat) (ps : List Prc) (st : Int) (fa : Option Addr) (fn fc : Nat) (fs : List Fr) (out proc pc : Int) (w : World) (hr : RdP w a n ps) (hn : n ≤ 9223372036854775807) (hf : RdF w fa fn fs) (hfn : fn ≤ 9223372036854775807) :
    Calls Try.prog 66 #[.agg #[.slice a n cap], .agg #[.int .i64 st, .slice fa fn fc, .int .i64 out, .int .i64 proc, .int .i64 pc]] w fun e w' => e = .returned (.bool (runOkB ps ⟨st, fs, out, proc, pc⟩)) ∧ Grew w w' := by
  have hl : fs.length = fn := hf.len
  cases hh : rheadB ps st out fn
  · rw [runOkB_rhead (by rw [hl]; exact hh)]
    exact specRunOkH a n cap ps st fa fn fc out proc pc w hr hn hfn hh
  · by_cases h1 : st = 1
    · subst h1
      rw [runOkB_1 (by rw [hl]; exact hh)]
      unfold rheadB at hh
      simp only [Bool.and_eq_true, decide_eq_true_eq] at hh
      obtain ⟨⟨⟨⟨p1, p2⟩, p3⟩, p4⟩, p5⟩ := hh
      obtain rfl : out = 0 := by simpa using p5
      exact specRunOk1 a n cap ps fa fn fc fs proc pc w hr hn hf p1 p4
    · have c := specRunOkN a n cap ps st fa fn fc out proc pc w hr hn hh h1
      by_cases h3 : st = 3
      · subst h3
        rw [runOkB_3 (by rw [hl]; exact hh), hl]
        rw [if_pos rfl] at c
        exact c
      · rw [runOkB_x (by rw [hl]; exact hh) h1 h3, hl]
        rw [if_neg h3] at c
        exact c

theorem specRunDepth (a : Option Addr) (n cap : Nat) (ps : List Prc) (st : Int) (fa : Option Addr) (fn fc : Nat) (fs : List Fr) (out proc pc : Int) (w : World) (hr : RdP w a n ps) (hn : n ≤ 9223372036854775807) (hf : RdF w fa fn fs) (hfn : fn ≤ 9223372036854775807) :
    Calls Try.prog 68 #[.agg #[.slice a n cap], .agg #[.int .i64 st, .slice fa fn fc, .int .i64 out, .int .i64 proc, .int .i64 pc]] w fun e w' => e = .returned (.int .i64 (if runOkB ps ⟨st, fs, out, proc, pc⟩ then (fn : Int) else 0)) ∧ Grew w w' := by
  have C := fun W (h : Grew w W) => specRunOk a n cap ps st fa fn fc fs out proc pc W (hr.grew h) hn (hf.grew h) hfn
  clear hr hf
  generalize runOkB ps ⟨st, fs, out, proc, pc⟩ = B at *
  have HC := Lib.hid C; clear C
  cases B
  all_goals
    go_enter Try.func68, Try.ntmps68
    go_wp2_with (first | ((with_reducible refine (HC.out _ (by repeat (first | with_reducible exact Below.refl _ _ | with_reducible assumption | with_reducible apply grew_ext | with_reducible apply grew_al | with_reducible apply grew_dn | with_reducible apply grew_d | (with_reducible refine grew_set ?_ (by first | omega | (repeat (first | with_reducible exact Nat.le_refl _ | with_reducible apply le_pl | with_reducible apply le_ext | with_reducible apply le_al))) _)))).mono ?_); rintro e w' ⟨rfl, g'⟩; (first | obtain ⟨y, rfl⟩ := ext_cold g' | obtain ⟨y, rfl⟩ := ext_col g' | obtain ⟨y, rfl⟩ := ext_of g'); clear g'))
    go_ret
    refine ⟨rfl, ?_⟩
    repeat (first | with_reducible exact Below.refl _ _ | with_reducible assumption | with_reducible apply grew_ext | with_reducible apply grew_al | with_reducible apply grew_dn | with_reducible apply grew_d | (with_reducible refine grew_set ?_ (by first | omega | (repeat (first | with_reducible exact Nat.le_refl _ | with_reducible apply le_pl | with_reducible apply le_ext | with_reducible apply le_al))) _))
end Go.Proofs.Ytmknnbbhhnmpaaa
