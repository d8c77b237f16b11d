/- What follows a step: InsNext, reference and program. No condition. -/
import Derived.Test.YtmknnbbhhnmpaaaLawInsOk
import Derived.Test.YtmknnbbhhnmpaaaIntsG
import Derived.Test.YtmknnbbhhnmpaaaState
namespace Go.Proofs.Ytmknnbbhhnmpaaa
open Go.RowKit
set_option linter.unusedVariables false
attribute [local go_sem] ext_cell ext_frozen ext_lt ext_le ext_le1 lt_s2 lt_s3 lt_s4 lt_s5 lt_s6 ext_lt1 ext_lt2 ext_lt3

def nextL (i : Ins) (pc : Int) : List Int :=
  if insOkB i 4 10 && (decide (0 ≤ pc) && decide (pc < 10)) then
    if i.op = 12 then [] else if i.op = 9 then [i.to] else if i.op = 8 then (if i.to < pc + 1 then [i.to, pc + 1] else if pc + 1 < i.to then [pc + 1, i.to] else [pc + 1]) else [pc + 1]
  else []
theorem sort1 (x : Int) : ([x].mergeSort fun x y => decide (x ≤ y)) = [x] := by simp
theorem sort2 (x y : Int) : ([x, y].mergeSort fun x y => decide (x ≤ y)) = if x ≤ y then [x, y] else [y, x] := by
  simp [List.mergeSort, List.MergeSort.Internal.splitInTwo, List.merge]
theorem comp1 (x : Int) : Lib.compact [x] = [x] := by simp [Lib.compact, Lib.compactUpTo, Lib.keeps, List.range, List.range.loop]
theorem comp2 (x y : Int) : Lib.compact [x, y] = if x = y then [x] else [x, y] := by
  by_cases h : x = y
  · subst h
    simp [Lib.compact, Lib.compactUpTo, Lib.keeps, List.range, List.range.loop]
  · have h' : ¬ y = x := fun e => h e.symm
    simp [Lib.compact, Lib.compactUpTo, Lib.keeps, List.range, List.range.loop, h, h']

set_option maxHeartbeats 2000000 in
theorem specInsNextN1 (op d a b rel lo hi to pc : Int) (w : World) (hB : insOkB ⟨op, d, a, b, rel, lo, hi, to⟩ 4 10 = false) :
    Calls Try.prog 69 #[Ins.v ⟨op, d, a, b, rel, lo, hi, to⟩, .int .i64 pc] w fun e w' => RetIs (nextL ⟨op, d, a, b, rel, lo, hi, to⟩ pc) w e w' := by
  have HE : Hid (nextL ⟨op, d, a, b, rel, lo, hi, to⟩ pc = []) := Lib.hid (by simp [nextL, hB])
  rw [HE.out]
  clear HE
  have C := fun w => specInsOk ⟨op, d, a, b, rel, lo, hi, to⟩ 4 10 w
  rw [hB] at C
  have HC := Lib.hid C; clear C hB
  go_enter Try.func69, Try.ntmps69
  go_wp2_with (((with_reducible refine (HC.out _).mono ?_); rintro e w' ⟨rfl, g'⟩; (first | obtain ⟨y, rfl⟩ := ext_cold g' | obtain ⟨y, rfl⟩ := ext_col g' | obtain ⟨y, rfl⟩ := ext_of g'); clear g'))
  go_ret
  refine ⟨_, _, rfl, own_lit' rfl rfl (show Grew w _ from by repeat (first | with_reducible exact Below.refl _ _ | with_reducible assumption | with_reducible apply grew_ext | with_reducible apply grew_al | with_reducible apply grew_dn | with_reducible apply grew_d | (with_reducible refine grew_set ?_ (by first | omega | (repeat (first | with_reducible exact Nat.le_refl _ | with_reducible apply le_pl | with_reducible apply le_ext | with_reducible apply le_al))) _))).size (by show 0 ≤ maxLen; decide) rfl, ?_⟩
  repeat (first | with_reducible exact Below.refl _ _ | with_reducible assumption | with_reducible apply grew_ext | with_reducible apply grew_al | with_reducible apply grew_dn | with_reducible apply grew_d | (with_reducible refine grew_set ?_ (by first | omega | (repeat (first | with_reducible exact Nat.le_refl _ | with_reducible apply le_pl | with_reducible apply le_ext | with_reducible apply le_al))) _))

set_option maxHeartbeats 2000000 in
theorem specInsNextN2 (op d a b rel lo hi to pc : Int) (w : World) (hB : insOkB ⟨op, d, a, b, rel, lo, hi, to⟩ 4 10 = true) (hp : (decide (0 ≤ pc) && decide (pc < 10)) = false) :
    Calls Try.prog 69 #[Ins.v ⟨op, d, a, b, rel, lo, hi, to⟩, .int .i64 pc] w fun e w' => RetIs (nextL ⟨op, d, a, b, rel, lo, hi, to⟩ pc) w e w' := by
  have HE : Hid (nextL ⟨op, d, a, b, rel, lo, hi, to⟩ pc = []) := Lib.hid (by simp [nextL, hB, hp])
  rw [HE.out]
  clear HE
  have C := fun w => specInsOk ⟨op, d, a, b, rel, lo, hi, to⟩ 4 10 w
  rw [hB] at C
  have HC := Lib.hid C; clear C hB
  have D := fun w => l1In pc 0 9 w
  rw [show (decide (0 ≤ pc) && decide (pc ≤ 9)) = false from by rw [← hp, Bool.eq_iff_iff]; simp; omega] at D
  have HD := Lib.hid D; clear D
  clear hp
  go_enter Try.func69, Try.ntmps69
  go_wp2_with (first | ((with_reducible refine (HC.out _).mono ?_); rintro e w' ⟨rfl, g'⟩; (first | obtain ⟨y, rfl⟩ := ext_cold g' | obtain ⟨y, rfl⟩ := ext_col g' | obtain ⟨y, rfl⟩ := ext_of g'); clear g') | ((with_reducible refine (HD.out _).mono ?_); rintro e w' ⟨rfl, rfl⟩))
  go_ret
  refine ⟨_, _, rfl, own_lit' rfl rfl (show Grew w _ from by repeat (first | with_reducible exact Below.refl _ _ | with_reducible assumption | with_reducible apply grew_ext | with_reducible apply grew_al | with_reducible apply grew_dn | with_reducible apply grew_d | (with_reducible refine grew_set ?_ (by first | omega | (repeat (first | with_reducible exact Nat.le_refl _ | with_reducible apply le_pl | with_reducible apply le_ext | with_reducible apply le_al))) _))).size (by show 0 ≤ maxLen; decide) rfl, ?_⟩
  repeat (first | with_reducible exact Below.refl _ _ | with_reducible assumption | with_reducible apply grew_ext | with_reducible apply grew_al | with_reducible apply grew_dn | with_reducible apply grew_d | (with_reducible refine grew_set ?_ (by first | omega | (repeat (first | with_reducible exact Nat.le_refl _ | with_reducible apply le_pl | with_reducible apply le_ext | with_reducible apply le_al))) _))

set_option maxHeartbeats 2000000 in
theorem specInsNextR (d a b rel lo hi to pc : Int) (w : World) (hB : insOkB ⟨12, d, a, b, rel, lo, hi, to⟩ 4 10 = true) (hp : (decide (0 ≤ pc) && decide (pc < 10)) = true) :
    Calls Try.prog 69 #[Ins.v ⟨12, d, a, b, rel, lo, hi, to⟩, .int .i64 pc] w fun e w' => RetIs (nextL ⟨12, d, a, b, rel, lo, hi, to⟩ pc) w e w' := by
  have HE : Hid (nextL ⟨12, d, a, b, rel, lo, hi, to⟩ pc = []) := Lib.hid (by simp [nextL, hB, hp])
  rw [HE.out]
  clear HE
  have C := fun w => specInsOk ⟨12, d, a, b, rel, lo, hi, to⟩ 4 10 w
  rw [hB] at C
  have HC := Lib.hid C; clear C hB
  have D := fun w => l1In pc 0 9 w
  rw [show (decide (0 ≤ pc) && decide (pc ≤ 9)) = true from by rw [← hp, Bool.eq_iff_iff]; simp; omega] at D
  have HD := Lib.hid D; clear D
  obtain ⟨p0, p1⟩ : 0 ≤ pc ∧ pc < 10 := by simpa using hp
  clear hp
  go_enter Try.func69, Try.ntmps69
  go_wp2_with (first | ((with_reducible refine (HC.out _).mono ?_); rintro e w' ⟨rfl, g'⟩; (first | obtain ⟨y, rfl⟩ := ext_cold g' | obtain ⟨y, rfl⟩ := ext_col g' | obtain ⟨y, rfl⟩ := ext_of g'); clear g') | ((with_reducible refine (HD.out _).mono ?_); rintro e w' ⟨rfl, rfl⟩))
  go_ret
  refine ⟨_, _, rfl, own_lit' rfl rfl (show Grew w _ from by repeat (first | with_reducible exact Below.refl _ _ | with_reducible assumption | with_reducible apply grew_ext | with_reducible apply grew_al | with_reducible apply grew_dn | with_reducible apply grew_d | (with_reducible refine grew_set ?_ (by first | omega | (repeat (first | with_reducible exact Nat.le_refl _ | with_reducible apply le_pl | with_reducible apply le_ext | with_reducible apply le_al))) _))).size (by show 0 ≤ maxLen; decide) rfl, ?_⟩
  repeat (first | with_reducible exact Below.refl _ _ | with_reducible assumption | with_reducible apply grew_ext | with_reducible apply grew_al | with_reducible apply grew_dn | with_reducible apply grew_d | (with_reducible refine grew_set ?_ (by first | omega | (repeat (first | with_reducible exact Nat.le_refl _ | with_reducible apply le_pl | with_reducible apply le_ext | with_reducible apply le_al))) _))

set_option maxHeartbeats 2000000 in
theorem specInsNextJ (d a b rel lo hi to pc : Int) (w : World) (hB : insOkB ⟨9, d, a, b, rel, lo, hi, to⟩ 4 10 = true) (hp : (decide (0 ≤ pc) && decide (pc < 10)) = true) :
    Calls Try.prog 69 #[Ins.v ⟨9, d, a, b, rel, lo, hi, to⟩, .int .i64 pc] w fun e w' => RetIs (nextL ⟨9, d, a, b, rel, lo, hi, to⟩ pc) w e w' := by
  have HE : Hid (nextL ⟨9, d, a, b, rel, lo, hi, to⟩ pc = [to]) := Lib.hid (by simp [nextL, hB, hp])
  rw [HE.out]
  clear HE
  have C := fun w => specInsOk ⟨9, d, a, b, rel, lo, hi, to⟩ 4 10 w
  rw [hB] at C
  have HC := Lib.hid C; clear C hB
  have D := fun w => l1In pc 0 9 w
  rw [show (decide (0 ≤ pc) && decide (pc ≤ 9)) = true from by rw [← hp, Bool.eq_iff_iff]; simp; omega] at D
  have HD := Lib.hid D; clear D
  obtain ⟨p0, p1⟩ : 0 ≤ pc ∧ pc < 10 := by simpa using hp
  clear hp
  go_enter Try.func69, Try.ntmps69
  go_wp2_with (first | ((with_reducible refine (HC.out _).mono ?_); rintro e w' ⟨rfl, g'⟩; (first | obtain ⟨y, rfl⟩ := ext_cold g' | obtain ⟨y, rfl⟩ := ext_col g' | obtain ⟨y, rfl⟩ := ext_of g'); clear g') | ((with_reducible refine (HD.out _).mono ?_); rintro e w' ⟨rfl, rfl⟩))
  go_ret
  refine ⟨_, _, rfl, own_lit' rfl rfl (show Grew w _ from by repeat (first | with_reducible exact Below.refl _ _ | with_reducible assumption | with_reducible apply grew_ext | with_reducible apply grew_al | with_reducible apply grew_dn | with_reducible apply grew_d | (with_reducible refine grew_set ?_ (by first | omega | (repeat (first | with_reducible exact Nat.le_refl _ | with_reducible apply le_pl | with_reducible apply le_ext | with_reducible apply le_al))) _))).size (by show 1 ≤ maxLen; decide) rfl, ?_⟩
  repeat (first | with_reducible exact Below.refl _ _ | with_reducible assumption | with_reducible apply grew_ext | with_reducible apply grew_al | with_reducible apply grew_dn | with_reducible apply grew_d | (with_reducible refine grew_set ?_ (by first | omega | (repeat (first | with_reducible exact Nat.le_refl _ | with_reducible apply le_pl | with_reducible apply le_ext | with_reducible apply le_al))) _))

set_option maxHeartbeats 2000000 in
theorem specInsNextI1 (d a b rel lo hi to pc : Int) (w : World) (hB : insOkB ⟨8, d, a, b, rel, lo, hi, to⟩ 4 10 = true) (hp : (decide (0 ≤ pc) && decide (pc < 10)) = true) (ht : to < pc + 1) :
    Calls Try.prog 69 #[Ins.v ⟨8, d, a, b, rel, lo, hi, to⟩, .int .i64 pc] w fun e w' => RetIs (nextL ⟨8, d, a, b, rel, lo, hi, to⟩ pc) w e w' := by
  have HE : Hid (nextL ⟨8, d, a, b, rel, lo, hi, to⟩ pc = [to, pc + 1]) := Lib.hid (by simp [nextL, hB, hp, ht])
  rw [HE.out]
  clear HE
  have C := fun w => specInsOk ⟨8, d, a, b, rel, lo, hi, to⟩ 4 10 w
  rw [hB] at C
  have HC := Lib.hid C; clear C hB
  have D := fun w => l1In pc 0 9 w
  rw [show (decide (0 ≤ pc) && decide (pc ≤ 9)) = true from by rw [← hp, Bool.eq_iff_iff]; simp; omega] at D
  have HD := Lib.hid D; clear D
  obtain ⟨p0, p1⟩ : 0 ≤ pc ∧ pc < 10 := by simpa using hp
  clear hp
  go_enter Try.func69, Try.ntmps69
  go_wp2_with (first | ((with_reducible refine (HC.out _).mono ?_); rintro e w' ⟨rfl, g'⟩; (first | obtain ⟨y, rfl⟩ := ext_cold g' | obtain ⟨y, rfl⟩ := ext_col g' | obtain ⟨y, rfl⟩ := ext_of g'); clear g') | ((with_reducible refine (HD.out _).mono ?_); rintro e w' ⟨rfl, rfl⟩))
  go_ret
  refine ⟨_, _, rfl, own_lit' rfl rfl (show Grew w _ from by repeat (first | with_reducible exact Below.refl _ _ | with_reducible assumption | with_reducible apply grew_ext | with_reducible apply grew_al | with_reducible apply grew_dn | with_reducible apply grew_d | (with_reducible refine grew_set ?_ (by first | omega | (repeat (first | with_reducible exact Nat.le_refl _ | with_reducible apply le_pl | with_reducible apply le_ext | with_reducible apply le_al))) _))).size (by show 2 ≤ maxLen; decide) rfl, ?_⟩
  repeat (first | with_reducible exact Below.refl _ _ | with_reducible assumption | with_reducible apply grew_ext | with_reducible apply grew_al | with_reducible apply grew_dn | with_reducible apply grew_d | (with_reducible refine grew_set ?_ (by first | omega | (repeat (first | with_reducible exact Nat.le_refl _ | with_reducible apply le_pl | with_reducible apply le_ext | with_reducible apply le_al))) _))

set_option maxHeartbeats 2000000 in
theorem specInsNextI2 (d a b rel lo hi to pc : Int) (w : World) (hB : insOkB ⟨8, d, a, b, rel, lo, hi, to⟩ 4 10 = true) (hp : (decide (0 ≤ pc) && decide (pc < 10)) = true) (ht : pc + 1 < to) :
    Calls Try.prog 69 #[Ins.v ⟨8, d, a, b, rel, lo, hi, to⟩, .int .i64 pc] w fun e w' => RetIs (nextL ⟨8, d, a, b, rel, lo, hi, to⟩ pc) w e w' := by
  have HE : Hid (nextL ⟨8, d, a, b, rel, lo, hi, to⟩ pc = [pc + 1, to]) := Lib.hid (by simp [nextL, hB, hp, ht, show ¬ to < pc + 1 from by omega])
  rw [HE.out]
  clear HE
  have C := fun w => specInsOk ⟨8, d, a, b, rel, lo, hi, to⟩ 4 10 w
  rw [hB] at C
  have HC := Lib.hid C; clear C hB
  have D := fun w => l1In pc 0 9 w
  rw [show (decide (0 ≤ pc) && decide (pc ≤ 9)) = true from by rw [← hp, Bool.eq_iff_iff]; simp; omega] at D
  have HD := Lib.hid D; clear D
  obtain ⟨p0, p1⟩ : 0 ≤ pc ∧ pc < 10 := by simpa using hp
  clear hp
  go_enter Try.func69, Try.ntmps69
  go_wp2_with (first | ((with_reducible refine (HC.out _).mono ?_); rintro e w' ⟨rfl, g'⟩; (first | obtain ⟨y, rfl⟩ := ext_cold g' | obtain ⟨y, rfl⟩ := ext_col g' | obtain ⟨y, rfl⟩ := ext_of g'); clear g') | ((with_reducible refine (HD.out _).mono ?_); rintro e w' ⟨rfl, rfl⟩))
  go_ret
  refine ⟨_, _, rfl, own_lit' rfl rfl (show Grew w _ from by repeat (first | with_reducible exact Below.refl _ _ | with_reducible assumption | with_reducible apply grew_ext | with_reducible apply grew_al | with_reducible apply grew_dn | with_reducible apply grew_d | (with_reducible refine grew_set ?_ (by first | omega | (repeat (first | with_reducible exact Nat.le_refl _ | with_reducible apply le_pl | with_reducible apply le_ext | with_reducible apply le_al))) _))).size (by show 2 ≤ maxLen; decide) rfl, ?_⟩
  repeat (first | with_reducible exact Below.refl _ _ | with_reducible assumption | with_reducible apply grew_ext | with_reducible apply grew_al | with_reducible apply grew_dn | with_reducible apply grew_d | (with_reducible refine grew_set ?_ (by first | omega | (repeat (first | with_reducible exact Nat.le_refl _ | with_reducible apply le_pl | with_reducible apply le_ext | with_reducible apply le_al))) _))

set_option maxHeartbeats 2000000 in
theorem specInsNextI3 (d a b rel lo hi pc : Int) (w : World) (hB : insOkB ⟨8, d, a, b, rel, lo, hi, pc + 1⟩ 4 10 = true) (hp : (decide (0 ≤ pc) && decide (pc < 10)) = true) :
    Calls Try.prog 69 #[Ins.v ⟨8, d, a, b, rel, lo, hi, pc + 1⟩, .int .i64 pc] w fun e w' => RetIs (nextL ⟨8, d, a, b, rel, lo, hi, pc + 1⟩ pc) w e w' := by
  have HE : Hid (nextL ⟨8, d, a, b, rel, lo, hi, pc + 1⟩ pc = [pc + 1]) := Lib.hid (by simp [nextL, hB, hp])
  rw [HE.out]
  clear HE
  have C := fun w => specInsOk ⟨8, d, a, b, rel, lo, hi, pc + 1⟩ 4 10 w
  rw [hB] at C
  have HC := Lib.hid C; clear C hB
  have D := fun w => l1In pc 0 9 w
  rw [show (decide (0 ≤ pc) && decide (pc ≤ 9)) = true from by rw [← hp, Bool.eq_iff_iff]; simp; omega] at D
  have HD := Lib.hid D; clear D
  obtain ⟨p0, p1⟩ : 0 ≤ pc ∧ pc < 10 := by simpa using hp
  clear hp
  go_enter Try.func69, Try.ntmps69
  go_wp2_with (first | ((with_reducible refine (HC.out _).mono ?_); rintro e w' ⟨rfl, g'⟩; (first | obtain ⟨y, rfl⟩ := ext_cold g' | obtain ⟨y, rfl⟩ := ext_col g' | obtain ⟨y, rfl⟩ := ext_of g'); clear g') | ((with_reducible refine (HD.out _).mono ?_); rintro e w' ⟨rfl, rfl⟩))
  go_ret
  refine ⟨_, _, rfl, own_lit' rfl rfl (show Grew w _ from by repeat (first | with_reducible exact Below.refl _ _ | with_reducible assumption | with_reducible apply grew_ext | with_reducible apply grew_al | with_reducible apply grew_dn | with_reducible apply grew_d | (with_reducible refine grew_set ?_ (by first | omega | (repeat (first | with_reducible exact Nat.le_refl _ | with_reducible apply le_pl | with_reducible apply le_ext | with_reducible apply le_al))) _))).size (by show 1 ≤ maxLen; decide) rfl, ?_⟩
  repeat (first | with_reducible exact Below.refl _ _ | with_reducible assumption | with_reducible apply grew_ext | with_reducible apply grew_al | with_reducible apply grew_dn | with_reducible apply grew_d | (with_reducible refine grew_set ?_ (by first | omega | (repeat (first | with_reducible exact Nat.le_refl _ | with_reducible apply le_pl | with_reducible apply le_ext | with_reducible apply le_al))) _))

set_option maxHeartbeats 2000000 in
theorem specInsNextD (op d a b rel lo hi to pc : Int) (w : World) (hB : insOkB ⟨op, d, a, b, rel, lo, hi, to⟩ 4 10 = true) (hp : (decide (0 ≤ pc) && decide (pc < 10)) = true) (n1 : ¬ op = 12) (n2 : ¬ op = 9) (n3 : ¬ op = 8) :
    Calls Try.prog 69 #[Ins.v ⟨op, d, a, b, rel, lo, hi, to⟩, .int .i64 pc] w fun e w' => RetIs (nextL ⟨op, d, a, b, rel, lo, hi, to⟩ pc) w e w' := by
  have HE : Hid (nextL ⟨op, d, a, b, rel, lo, hi, to⟩ pc = [pc + 1]) := Lib.hid (by simp [nextL, hB, hp, n1, n2, n3])
  rw [HE.out]
  clear HE
  have C := fun w => specInsOk ⟨op, d, a, b, rel, lo, hi, to⟩ 4 10 w
  rw [hB] at C
  have HC := Lib.hid C; clear C hB
  have D := fun w => l1In pc 0 9 w
  rw [show (decide (0 ≤ pc) && decide (pc ≤ 9)) = true from by rw [← hp, Bool.eq_iff_iff]; simp; omega] at D
  have HD := Lib.hid D; clear D
  obtain ⟨p0, p1⟩ : 0 ≤ pc ∧ pc < 10 := by simpa using hp
  clear hp
  go_enter Try.func69, Try.ntmps69
  go_wp2_with (first | ((with_reducible refine (HC.out _).mono ?_); rintro e w' ⟨rfl, g'⟩; (first | obtain ⟨y, rfl⟩ := ext_cold g' | obtain ⟨y, rfl⟩ := ext_col g' | obtain ⟨y, rfl⟩ := ext_of g'); clear g') | ((with_reducible refine (HD.out _).mono ?_); rintro e w' ⟨rfl, rfl⟩))
  go_ret
  refine ⟨_, _, rfl, own_lit' rfl rfl (show Grew w _ from by repeat (first | with_reducible exact Below.refl _ _ | with_reducible assumption | with_reducible apply grew_ext | with_reducible apply grew_al | with_reducible apply grew_dn | with_reducible apply grew_d | (with_reducible refine grew_set ?_ (by first | omega | (repeat (first | with_reducible exact Nat.le_refl _ | with_reducible apply le_pl | with_reducible apply le_ext | with_reducible apply le_al))) _))).size (by show 1 ≤ maxLen; decide) rfl, ?_⟩
  repeat (first | with_reducible exact Below.refl _ _ | with_reducible assumption | with_reducible apply grew_ext | with_reducible apply grew_al | with_reducible apply grew_dn | with_reducible apply grew_d | (with_reducible refine grew_set ?_ (by first | omega | (repeat (first | with_reducible exact Nat.le_refl _ | with_reducible apply le_pl | with_reducible apply le_ext | with_reducible apply le_al))) _))

theorem specInsNext (i : Ins) (pc : Int) (w : World) :
    Calls Try.prog 69 #[i.v, .int .i64 pc] w fun e w' => RetIs (nextL i pc) w e w' := by
  obtain ⟨op, d, a, b, rel, lo, hi, to⟩ := i
  cases hB : insOkB ⟨op, d, a, b, rel, lo, hi, to⟩ 4 10
  · exact specInsNextN1 _ _ _ _ _ _ _ _ _ _ hB
  cases hp : (decide (0 ≤ pc) && decide (pc < 10))
  · exact specInsNextN2 _ _ _ _ _ _ _ _ _ _ hB hp
  by_cases n1 : op = 12
  · subst n1
    exact specInsNextR _ _ _ _ _ _ _ _ _ hB hp
  by_cases n2 : op = 9
  · subst n2
    exact specInsNextJ _ _ _ _ _ _ _ _ _ hB hp
  by_cases n3 : op = 8
  · subst n3
    by_cases t1 : to < pc + 1
    · exact specInsNextI1 _ _ _ _ _ _ _ _ _ hB hp t1
    by_cases t2 : pc + 1 < to
    · exact specInsNextI2 _ _ _ _ _ _ _ _ _ hB hp t2
    · obtain rfl : to = pc + 1 := by omega
      exact specInsNextI3 _ _ _ _ _ _ _ _ hB hp
  · exact specInsNextD _ _ _ _ _ _ _ _ _ _ hB hp n1 n2 n3

set_option maxHeartbeats 2000000 in
theorem implInsNextN1 (op d a b rel lo hi to pc : Int) (w : World) (hB : insOkB ⟨op, d, a, b, rel, lo, hi, to⟩ 4 10 = false) :
    Calls Try.prog 70 #[Ins.v ⟨op, d, a, b, rel, lo, hi, to⟩, .int .i64 pc] w fun e w' => RetIs (nextL ⟨op, d, a, b, rel, lo, hi, to⟩ pc) w e w' := by
  have HE : Hid (nextL ⟨op, d, a, b, rel, lo, hi, to⟩ pc = []) := Lib.hid (by simp [nextL, hB])
  rw [HE.out]
  clear HE
  have C := fun w => implInsOk ⟨op, d, a, b, rel, lo, hi, to⟩ 4 10 w
  rw [hB] at C
  have HC := Lib.hid C; clear C hB
  go_enter Try.func70, Try.ntmps70
  go_wp2_with (((with_reducible refine (HC.out _).mono ?_); rintro e w' ⟨rfl, g'⟩; (first | obtain ⟨y, rfl⟩ := ext_cold g' | obtain ⟨y, rfl⟩ := ext_col g' | obtain ⟨y, rfl⟩ := ext_of g'); clear g'))
  go_ret
  refine ⟨_, _, rfl, World.ownsRow_nil _ _ _ _, ?_⟩
  repeat (first | with_reducible exact Below.refl _ _ | with_reducible assumption | with_reducible apply grew_ext | with_reducible apply grew_al | with_reducible apply grew_dn | with_reducible apply grew_d | (with_reducible refine grew_set ?_ (by first | omega | (repeat (first | with_reducible exact Nat.le_refl _ | with_reducible apply le_pl | with_reducible apply le_ext | with_reducible apply le_al))) _))

set_option maxHeartbeats 2000000 in
theorem implInsNextN2 (op d a b rel lo hi to pc : Int) (w : World) (hB : insOkB ⟨op, d, a, b, rel, lo, hi, to⟩ 4 10 = true) (hp : (decide (0 ≤ pc) && decide (pc < 10)) = false) :
    Calls Try.prog 70 #[Ins.v ⟨op, d, a, b, rel, lo, hi, to⟩, .int .i64 pc] w fun e w' => RetIs (nextL ⟨op, d, a, b, rel, lo, hi, to⟩ pc) w e w' := by
  have HE : Hid (nextL ⟨op, d, a, b, rel, lo, hi, to⟩ pc = []) := Lib.hid (by simp [nextL, hB, hp])
  rw [HE.out]
  clear HE
  have C := fun w => implInsOk ⟨op, d, a, b, rel, lo, hi, to⟩ 4 10 w
  rw [hB] at C
  have HC := Lib.hid C; clear C hB
  have D := fun w => below pc 10 w
  rw [hp] at D
  have HD := Lib.hid D; clear D
  clear hp
  go_enter Try.func70, Try.ntmps70
  go_wp2_with (first | ((with_reducible refine (HC.out _).mono ?_); rintro e w' ⟨rfl, g'⟩; (first | obtain ⟨y, rfl⟩ := ext_cold g' | obtain ⟨y, rfl⟩ := ext_col g' | obtain ⟨y, rfl⟩ := ext_of g'); clear g') | ((with_reducible refine (HD.out _).mono ?_); rintro e w' ⟨rfl, rfl⟩))
  go_ret
  refine ⟨_, _, rfl, World.ownsRow_nil _ _ _ _, ?_⟩
  repeat (first | with_reducible exact Below.refl _ _ | with_reducible assumption | with_reducible apply grew_ext | with_reducible apply grew_al | with_reducible apply grew_dn | with_reducible apply grew_d | (with_reducible refine grew_set ?_ (by first | omega | (repeat (first | with_reducible exact Nat.le_refl _ | with_reducible apply le_pl | with_reducible apply le_ext | with_reducible apply le_al))) _))

set_option maxHeartbeats 2000000 in
theorem implInsNextR (d a b rel lo hi to pc : Int) (w : World) (hB : insOkB ⟨12, d, a, b, rel, lo, hi, to⟩ 4 10 = true) (hp : (decide (0 ≤ pc) && decide (pc < 10)) = true) :
    Calls Try.prog 70 #[Ins.v ⟨12, d, a, b, rel, lo, hi, to⟩, .int .i64 pc] w fun e w' => RetIs (nextL ⟨12, d, a, b, rel, lo, hi, to⟩ pc) w e w' := by
  have HE : Hid (nextL ⟨12, d, a, b, rel, lo, hi, to⟩ pc = []) := Lib.hid (by simp [nextL, hB, hp])
  rw [HE.out]
  clear HE
  have C := fun w => implInsOk ⟨12, d, a, b, rel, lo, hi, to⟩ 4 10 w
  rw [hB] at C
  have HC := Lib.hid C; clear C hB
  have D := fun w => below pc 10 w
  rw [hp] at D
  have HD := Lib.hid D; clear D
  obtain ⟨p0, p1⟩ : 0 ≤ pc ∧ pc < 10 := by simpa using hp
  clear hp
  go_enter Try.func70, Try.ntmps70
  go_wp2_with (first | ((with_reducible refine (HC.out _).mono ?_); rintro e w' ⟨rfl, g'⟩; (first | obtain ⟨y, rfl⟩ := ext_cold g' | obtain ⟨y, rfl⟩ := ext_col g' | obtain ⟨y, rfl⟩ := ext_of g'); clear g') | ((with_reducible refine (HD.out _).mono ?_); rintro e w' ⟨rfl, rfl⟩))
  refine (sortInts w.heap.size none 0 0 [] _ ?_ (by omega)).mono ?_
  · exact World.ownsRow_nil _ _ _ _
  rintro e w1 ⟨rfl, o1, g1⟩
  have o1 := o1
  rw [show (([] : List Int).mergeSort fun x y => decide (x ≤ y)) = [] from by simp] at o1
  have BW := Lib.hid (Below.trans (show Grew w _ from by repeat (first | with_reducible exact Below.refl _ _ | with_reducible assumption | with_reducible apply grew_ext | with_reducible apply grew_al | with_reducible apply grew_dn | with_reducible apply grew_d | (with_reducible refine grew_set ?_ (by first | omega | (repeat (first | with_reducible exact Nat.le_refl _ | with_reducible apply le_pl | with_reducible apply le_ext | with_reducible apply le_al))) _))) (g1.belowB (show Grew w _ from by repeat (first | with_reducible exact Below.refl _ _ | with_reducible assumption | with_reducible apply grew_ext | with_reducible apply grew_al | with_reducible apply grew_dn | with_reducible apply grew_d | (with_reducible refine grew_set ?_ (by first | omega | (repeat (first | with_reducible exact Nat.le_refl _ | with_reducible apply le_pl | with_reducible apply le_ext | with_reducible apply le_al))) _))).size (fun b hF => by exact (o1.lt b hF).1)))
  have O1 := Lib.hid o1; clear o1 g1
  go_wp2_with fail
  refine (compactInts w.heap.size _ 0 0 [] _ O1.out (by omega)).mono ?_
  rintro e w2 ⟨m, hm, rfl, o2, g2⟩
  rw [show Lib.compact ([] : List Int) = [] from rfl] at hm o2
  subst hm
  have BW2 := Lib.hid (BW.out.trans (g2.belowB BW.out.size (fun b hF => (O1.out.lt b hF).1)))
  have O2 := Lib.hid o2; clear o2 g2 O1 BW
  go_wp2
  go_ret
  exact ⟨_, _, rfl, O2.out, BW2.out⟩

set_option maxHeartbeats 2000000 in
theorem implInsNextJ (d a b rel lo hi to pc : Int) (w : World) (hB : insOkB ⟨9, d, a, b, rel, lo, hi, to⟩ 4 10 = true) (hp : (decide (0 ≤ pc) && decide (pc < 10)) = true) :
    Calls Try.prog 70 #[Ins.v ⟨9, d, a, b, rel, lo, hi, to⟩, .int .i64 pc] w fun e w' => RetIs (nextL ⟨9, d, a, b, rel, lo, hi, to⟩ pc) w e w' := by
  have HE : Hid (nextL ⟨9, d, a, b, rel, lo, hi, to⟩ pc = [to]) := Lib.hid (by simp [nextL, hB, hp])
  rw [HE.out]
  clear HE
  have C := fun w => implInsOk ⟨9, d, a, b, rel, lo, hi, to⟩ 4 10 w
  rw [hB] at C
  have HC := Lib.hid C; clear C hB
  have D := fun w => below pc 10 w
  rw [hp] at D
  have HD := Lib.hid D; clear D
  obtain ⟨p0, p1⟩ : 0 ≤ pc ∧ pc < 10 := by simpa using hp
  clear hp
  go_enter Try.func70, Try.ntmps70
  go_wp2_with (first | ((with_reducible refine (HC.out _).mono ?_); rintro e w' ⟨rfl, g'⟩; (first | obtain ⟨y, rfl⟩ := ext_cold g' | obtain ⟨y, rfl⟩ := ext_col g' | obtain ⟨y, rfl⟩ := ext_of g'); clear g') | ((with_reducible refine (HD.out _).mono ?_); rintro e w' ⟨rfl, rfl⟩))
  refine (sortInts w.heap.size _ 1 1 [to] _ ?_ (by omega)).mono ?_
  · exact own_lit' rfl rfl (show Grew w _ from by repeat (first | with_reducible exact Below.refl _ _ | with_reducible assumption | with_reducible apply grew_ext | with_reducible apply grew_al | with_reducible apply grew_dn | with_reducible apply grew_d | (with_reducible refine grew_set ?_ (by first | omega | (repeat (first | with_reducible exact Nat.le_refl _ | with_reducible apply le_pl | with_reducible apply le_ext | with_reducible apply le_al))) _))).size (by show 1 ≤ maxLen; decide) rfl
  rintro e w1 ⟨rfl, o1, g1⟩
  have o1 := o1
  rw [sort1] at o1
  have BW := Lib.hid (Below.trans (show Grew w _ from by repeat (first | with_reducible exact Below.refl _ _ | with_reducible assumption | with_reducible apply grew_ext | with_reducible apply grew_al | with_reducible apply grew_dn | with_reducible apply grew_d | (with_reducible refine grew_set ?_ (by first | omega | (repeat (first | with_reducible exact Nat.le_refl _ | with_reducible apply le_pl | with_reducible apply le_ext | with_reducible apply le_al))) _))) (g1.belowB (show Grew w _ from by repeat (first | with_reducible exact Below.refl _ _ | with_reducible assumption | with_reducible apply grew_ext | with_reducible apply grew_al | with_reducible apply grew_dn | with_reducible apply grew_d | (with_reducible refine grew_set ?_ (by first | omega | (repeat (first | with_reducible exact Nat.le_refl _ | with_reducible apply le_pl | with_reducible apply le_ext | with_reducible apply le_al))) _))).size (fun b hF => by exact (o1.lt b hF).1)))
  have O1 := Lib.hid o1; clear o1 g1
  go_wp2_with fail
  refine (compactInts w.heap.size _ 1 1 [to] _ O1.out (by omega)).mono ?_
  rintro e w2 ⟨m, hm, rfl, o2, g2⟩
  rw [comp1] at hm o2
  subst hm
  have BW2 := Lib.hid (BW.out.trans (g2.belowB BW.out.size (fun b hF => (O1.out.lt b hF).1)))
  have O2 := Lib.hid o2; clear o2 g2 O1 BW
  go_wp2
  go_ret
  exact ⟨_, _, rfl, O2.out, BW2.out⟩

set_option maxHeartbeats 2000000 in
theorem implInsNextI1 (d a b rel lo hi to pc : Int) (w : World) (hB : insOkB ⟨8, d, a, b, rel, lo, hi, to⟩ 4 10 = true) (hp : (decide (0 ≤ pc) && decide (pc < 10)) = true) (ht : to < pc + 1) :
    Calls Try.prog 70 #[Ins.v ⟨8, d, a, b, rel, lo, hi, to⟩, .int .i64 pc] w fun e w' => RetIs (nextL ⟨8, d, a, b, rel, lo, hi, to⟩ pc) w e w' := by
  have HE : Hid (nextL ⟨8, d, a, b, rel, lo, hi, to⟩ pc = [to, pc + 1]) := Lib.hid (by simp [nextL, hB, hp, ht])
  rw [HE.out]
  clear HE
  have C := fun w => implInsOk ⟨8, d, a, b, rel, lo, hi, to⟩ 4 10 w
  rw [hB] at C
  have HC := Lib.hid C; clear C hB
  have D := fun w => below pc 10 w
  rw [hp] at D
  have HD := Lib.hid D; clear D
  obtain ⟨p0, p1⟩ : 0 ≤ pc ∧ pc < 10 := by simpa using hp
  clear hp
  go_enter Try.func70, Try.ntmps70
  go_wp2_with (first | ((with_reducible refine (HC.out _).mono ?_); rintro e w' ⟨rfl, g'⟩; (first | obtain ⟨y, rfl⟩ := ext_cold g' | obtain ⟨y, rfl⟩ := ext_col g' | obtain ⟨y, rfl⟩ := ext_of g'); clear g') | ((with_reducible refine (HD.out _).mono ?_); rintro e w' ⟨rfl, rfl⟩))
  refine (sortInts w.heap.size _ 2 2 [to, pc + 1] _ ?_ (by omega)).mono ?_
  · exact own_lit' rfl rfl (show Grew w _ from by repeat (first | with_reducible exact Below.refl _ _ | with_reducible assumption | with_reducible apply grew_ext | with_reducible apply grew_al | with_reducible apply grew_dn | with_reducible apply grew_d | (with_reducible refine grew_set ?_ (by first | omega | (repeat (first | with_reducible exact Nat.le_refl _ | with_reducible apply le_pl | with_reducible apply le_ext | with_reducible apply le_al))) _))).size (by show 2 ≤ maxLen; decide) rfl
  rintro e w1 ⟨rfl, o1, g1⟩
  have o1 := o1
  rw [sort2, if_pos (show to ≤ pc + 1 from by omega)] at o1
  have BW := Lib.hid (Below.trans (show Grew w _ from by repeat (first | with_reducible exact Below.refl _ _ | with_reducible assumption | with_reducible apply grew_ext | with_reducible apply grew_al | with_reducible apply grew_dn | with_reducible apply grew_d | (with_reducible refine grew_set ?_ (by first | omega | (repeat (first | with_reducible exact Nat.le_refl _ | with_reducible apply le_pl | with_reducible apply le_ext | with_reducible apply le_al))) _))) (g1.belowB (show Grew w _ from by repeat (first | with_reducible exact Below.refl _ _ | with_reducible assumption | with_reducible apply grew_ext | with_reducible apply grew_al | with_reducible apply grew_dn | with_reducible apply grew_d | (with_reducible refine grew_set ?_ (by first | omega | (repeat (first | with_reducible exact Nat.le_refl _ | with_reducible apply le_pl | with_reducible apply le_ext | with_reducible apply le_al))) _))).size (fun b hF => by exact (o1.lt b hF).1)))
  have O1 := Lib.hid o1; clear o1 g1
  go_wp2_with fail
  refine (compactInts w.heap.size _ 2 2 [to, pc + 1] _ O1.out (by omega)).mono ?_
  rintro e w2 ⟨m, hm, rfl, o2, g2⟩
  rw [comp2, if_neg (show ¬ to = pc + 1 from by omega)] at hm o2
  subst hm
  have BW2 := Lib.hid (BW.out.trans (g2.belowB BW.out.size (fun b hF => (O1.out.lt b hF).1)))
  have O2 := Lib.hid o2; clear o2 g2 O1 BW
  go_wp2
  go_ret
  exact ⟨_, _, rfl, O2.out, BW2.out⟩

set_option maxHeartbeats 2000000 in
theorem implInsNextI2 (d a b rel lo hi to pc : Int) (w : World) (hB : insOkB ⟨8, d, a, b, rel, lo, hi, to⟩ 4 10 = true) (hp : (decide (0 ≤ pc) && decide (pc < 10)) = true) (ht : pc + 1 < to) :
    Calls Try.prog 70 #[Ins.v ⟨8, d, a, b, rel, lo, hi, to⟩, .int .i64 pc] w fun e w' => RetIs (nextL ⟨8, d, a, b, rel, lo, hi, to⟩ pc) w e w' := by
  have HE : Hid (nextL ⟨8, d, a, b, rel, lo, hi, to⟩ pc = [pc + 1, to]) := Lib.hid (by simp [nextL, hB, hp, ht, show ¬ to < pc + 1 from by omega])
  rw [HE.out]
  clear HE
  have C := fun w => implInsOk ⟨8, d, a, b, rel, lo, hi, to⟩ 4 10 w
  rw [hB] at C
  have HC := Lib.hid C; clear C hB
  have D := fun w => below pc 10 w
  rw [hp] at D
  have HD := Lib.hid D; clear D
  obtain ⟨p0, p1⟩ : 0 ≤ pc ∧ pc < 10 := by simpa using hp
  clear hp
  go_enter Try.func70, Try.ntmps70
  go_wp2_with (first | ((with_reducible refine (HC.out _).mono ?_); rintro e w' ⟨rfl, g'⟩; (first | obtain ⟨y, rfl⟩ := ext_cold g' | obtain ⟨y, rfl⟩ := ext_col g' | obtain ⟨y, rfl⟩ := ext_of g'); clear g') | ((with_reducible refine (HD.out _).mono ?_); rintro e w' ⟨rfl, rfl⟩))
  refine (sortInts w.heap.size _ 2 2 [to, pc + 1] _ ?_ (by omega)).mono ?_
  · exact own_lit' rfl rfl (show Grew w _ from by repeat (first | with_reducible exact Below.refl _ _ | with_reducible assumption | with_reducible apply grew_ext | with_reducible apply grew_al | with_reducible apply grew_dn | with_reducible apply grew_d | (with_reducible refine grew_set ?_ (by first | omega | (repeat (first | with_reducible exact Nat.le_refl _ | with_reducible apply le_pl | with_reducible apply le_ext | with_reducible apply le_al))) _))).size (by show 2 ≤ maxLen; decide) rfl
  rintro e w1 ⟨rfl, o1, g1⟩
  have o1 := o1
  rw [sort2, if_neg (show ¬ to ≤ pc + 1 from by omega)] at o1
  have BW := Lib.hid (Below.trans (show Grew w _ from by repeat (first | with_reducible exact Below.refl _ _ | with_reducible assumption | with_reducible apply grew_ext | with_reducible apply grew_al | with_reducible apply grew_dn | with_reducible apply grew_d | (with_reducible refine grew_set ?_ (by first | omega | (repeat (first | with_reducible exact Nat.le_refl _ | with_reducible apply le_pl | with_reducible apply le_ext | with_reducible apply le_al))) _))) (g1.belowB (show Grew w _ from by repeat (first | with_reducible exact Below.refl _ _ | with_reducible assumption | with_reducible apply grew_ext | with_reducible apply grew_al | with_reducible apply grew_dn | with_reducible apply grew_d | (with_reducible refine grew_set ?_ (by first | omega | (repeat (first | with_reducible exact Nat.le_refl _ | with_reducible apply le_pl | with_reducible apply le_ext | with_reducible apply le_al))) _))).size (fun b hF => by exact (o1.lt b hF).1)))
  have O1 := Lib.hid o1; clear o1 g1
  go_wp2_with fail
  refine (compactInts w.heap.size _ 2 2 [pc + 1, to] _ O1.out (by omega)).mono ?_
  rintro e w2 ⟨m, hm, rfl, o2, g2⟩
  rw [comp2, if_neg (show ¬ pc + 1 = to from by omega)] at hm o2
  subst hm
  have BW2 := Lib.hid (BW.out.trans (g2.belowB BW.out.size (fun b hF => (O1.out.lt b hF).1)))
  have O2 := Lib.hid o2; clear o2 g2 O1 BW
  go_wp2
  go_ret
  exact ⟨_, _, rfl, O2.out, BW2.out⟩

set_option maxHeartbeats 2000000 in
theorem implInsNextI3 (d a b rel lo hi pc : Int) (w : World) (hB : insOkB ⟨8, d, a, b, rel, lo, hi, pc + 1⟩ 4 10 = true) (hp : (decide (0 ≤ pc) && decide (pc < 10)) = true) :
    Calls Try.prog 70 #[Ins.v ⟨8, d, a, b, rel, lo, hi, pc + 1⟩, .int .i64 pc] w fun e w' => RetIs (nextL ⟨8, d, a, b, rel, lo, hi, pc + 1⟩ pc) w e w' := by
  have HE : Hid (nextL ⟨8, d, a, b, rel, lo, hi, pc + 1⟩ pc = [pc + 1]) := Lib.hid (by simp [nextL, hB, hp])
  rw [HE.out]
  clear HE
  have C := fun w => implInsOk ⟨8, d, a, b, rel, lo, hi, pc + 1⟩ 4 10 w
  rw [hB] at C
  have HC := Lib.hid C; clear C hB
  have D := fun w => below pc 10 w
  rw [hp] at D
  have HD := Lib.hid D; clear D
  obtain ⟨p0, p1⟩ : 0 ≤ pc ∧ pc < 10 := by simpa using hp
  clear hp
  go_enter Try.func70, Try.ntmps70
  go_wp2_with (first | ((with_reducible refine (HC.out _).mono ?_); rintro e w' ⟨rfl, g'⟩; (first | obtain ⟨y, rfl⟩ := ext_cold g' | obtain ⟨y, rfl⟩ := ext_col g' | obtain ⟨y, rfl⟩ := ext_of g'); clear g') | ((with_reducible refine (HD.out _).mono ?_); rintro e w' ⟨rfl, rfl⟩))
  refine (sortInts w.heap.size _ 2 2 [pc + 1, pc + 1] _ ?_ (by omega)).mono ?_
  · exact own_lit' rfl rfl (show Grew w _ from by repeat (first | with_reducible exact Below.refl _ _ | with_reducible assumption | with_reducible apply grew_ext | with_reducible apply grew_al | with_reducible apply grew_dn | with_reducible apply grew_d | (with_reducible refine grew_set ?_ (by first | omega | (repeat (first | with_reducible exact Nat.le_refl _ | with_reducible apply le_pl | with_reducible apply le_ext | with_reducible apply le_al))) _))).size (by show 2 ≤ maxLen; decide) rfl
  rintro e w1 ⟨rfl, o1, g1⟩
  have o1 := o1
  rw [sort2, if_pos (Int.le_refl _)] at o1
  have BW := Lib.hid (Below.trans (show Grew w _ from by repeat (first | with_reducible exact Below.refl _ _ | with_reducible assumption | with_reducible apply grew_ext | with_reducible apply grew_al | with_reducible apply grew_dn | with_reducible apply grew_d | (with_reducible refine grew_set ?_ (by first | omega | (repeat (first | with_reducible exact Nat.le_refl _ | with_reducible apply le_pl | with_reducible apply le_ext | with_reducible apply le_al))) _))) (g1.belowB (show Grew w _ from by repeat (first | with_reducible exact Below.refl _ _ | with_reducible assumption | with_reducible apply grew_ext | with_reducible apply grew_al | with_reducible apply grew_dn | with_reducible apply grew_d | (with_reducible refine grew_set ?_ (by first | omega | (repeat (first | with_reducible exact Nat.le_refl _ | with_reducible apply le_pl | with_reducible apply le_ext | with_reducible apply le_al))) _))).size (fun b hF => by exact (o1.lt b hF).1)))
  have O1 := Lib.hid o1; clear o1 g1
  go_wp2_with fail
  refine (compactInts w.heap.size _ 2 2 [pc + 1, pc + 1] _ O1.out (by omega)).mono ?_
  rintro e w2 ⟨m, hm, rfl, o2, g2⟩
  rw [comp2, if_pos rfl] at hm o2
  subst hm
  have BW2 := Lib.hid (BW.out.trans (g2.belowB BW.out.size (fun b hF => (O1.out.lt b hF).1)))
  have O2 := Lib.hid o2; clear o2 g2 O1 BW
  go_wp2
  go_ret
  exact ⟨_, _, rfl, O2.out, BW2.out⟩

set_option maxHeartbeats 2000000 in
theorem implInsNextD (op d a b rel lo hi to pc : Int) (w : World) (hB : insOkB ⟨op, d, a, b, rel, lo, hi, to⟩ 4 10 = true) (hp : (decide (0 ≤ pc) && decide (pc < 10)) = true) (n1 : ¬ op = 12) (n2 : ¬ op = 9) (n3 : ¬ op = 8) :
    Calls Try.prog 70 #[Ins.v ⟨op, d, a, b, rel, lo, hi, to⟩, .int .i64 pc] w fun e w' => RetIs (nextL ⟨op, d, a, b, rel, lo, hi, to⟩ pc) w e w' := by
  have HE : Hid (nextL ⟨op, d, a, b, rel, lo, hi, to⟩ pc = [pc + 1]) := Lib.hid (by simp [nextL, hB, hp, n1, n2, n3])
  rw [HE.out]
  clear HE
  have C := fun w => implInsOk ⟨op, d, a, b, rel, lo, hi, to⟩ 4 10 w
  rw [hB] at C
  have HC := Lib.hid C; clear C hB
  have D := fun w => below pc 10 w
  rw [hp] at D
  have HD := Lib.hid D; clear D
  obtain ⟨p0, p1⟩ : 0 ≤ pc ∧ pc < 10 := by simpa using hp
  clear hp
  go_enter Try.func70, Try.ntmps70
  go_wp2_with (first | ((with_reducible refine (HC.out _).mono ?_); rintro e w' ⟨rfl, g'⟩; (first | obtain ⟨y, rfl⟩ := ext_cold g' | obtain ⟨y, rfl⟩ := ext_col g' | obtain ⟨y, rfl⟩ := ext_of g'); clear g') | ((with_reducible refine (HD.out _).mono ?_); rintro e w' ⟨rfl, rfl⟩))
  refine (sortInts w.heap.size _ 1 1 [pc + 1] _ ?_ (by omega)).mono ?_
  · exact own_lit' rfl rfl (show Grew w _ from by repeat (first | with_reducible exact Below.refl _ _ | with_reducible assumption | with_reducible apply grew_ext | with_reducible apply grew_al | with_reducible apply grew_dn | with_reducible apply grew_d | (with_reducible refine grew_set ?_ (by first | omega | (repeat (first | with_reducible exact Nat.le_refl _ | with_reducible apply le_pl | with_reducible apply le_ext | with_reducible apply le_al))) _))).size (by show 1 ≤ maxLen; decide) rfl
  rintro e w1 ⟨rfl, o1, g1⟩
  have o1 := o1
  rw [sort1] at o1
  have BW := Lib.hid (Below.trans (show Grew w _ from by repeat (first | with_reducible exact Below.refl _ _ | with_reducible assumption | with_reducible apply grew_ext | with_reducible apply grew_al | with_reducible apply grew_dn | with_reducible apply grew_d | (with_reducible refine grew_set ?_ (by first | omega | (repeat (first | with_reducible exact Nat.le_refl _ | with_reducible apply le_pl | with_reducible apply le_ext | with_reducible apply le_al))) _))) (g1.belowB (show Grew w _ from by repeat (first | with_reducible exact Below.refl _ _ | with_reducible assumption | with_reducible apply grew_ext | with_reducible apply grew_al | with_reducible apply grew_dn | with_reducible apply grew_d | (with_reducible refine grew_set ?_ (by first | omega | (repeat (first | with_reducible exact Nat.le_refl _ | with_reducible apply le_pl | with_reducible apply le_ext | with_reducible apply le_al))) _))).size (fun b hF => by exact (o1.lt b hF).1)))
  have O1 := Lib.hid o1; clear o1 g1
  go_wp2_with fail
  refine (compactInts w.heap.size _ 1 1 [pc + 1] _ O1.out (by omega)).mono ?_
  rintro e w2 ⟨m, hm, rfl, o2, g2⟩
  rw [comp1] at hm o2
  subst hm
  have BW2 := Lib.hid (BW.out.trans (g2.belowB BW.out.size (fun b hF => (O1.out.lt b hF).1)))
  have O2 := Lib.hid o2; clear o2 g2 O1 BW
  go_wp2
  go_ret
  exact ⟨_, _, rfl, O2.out, BW2.out⟩

theorem implInsNext (i : Ins) (pc : Int) (w : World) :
    Calls Try.prog 70 #[i.v, .int .i64 pc] w fun e w' => RetIs (nextL i pc) w e w' := by
  obtain ⟨op, d, a, b, rel, lo, hi, to⟩ := i
  cases hB : insOkB ⟨op, d, a, b, rel, lo, hi, to⟩ 4 10
  · exact implInsNextN1 _ _ _ _ _ _ _ _ _ _ hB
  cases hp : (decide (0 ≤ pc) && decide (pc < 10))
  · exact implInsNextN2 _ _ _ _ _ _ _ _ _ _ hB hp
  by_cases n1 : op = 12
  · subst n1
    exact implInsNextR _ _ _ _ _ _ _ _ _ hB hp
  by_cases n2 : op = 9
  · subst n2
    exact implInsNextJ _ _ _ _ _ _ _ _ _ hB hp
  by_cases n3 : op = 8
  · subst n3
    by_cases t1 : to < pc + 1
    · exact implInsNextI1 _ _ _ _ _ _ _ _ _ hB hp t1
    by_cases t2 : pc + 1 < to
    · exact implInsNextI2 _ _ _ _ _ _ _ _ _ hB hp t2
    · obtain rfl : to = pc + 1 := by omega
      exact implInsNextI3 _ _ _ _ _ _ _ _ hB hp
  · exact implInsNextD _ _ _ _ _ _ _ _ _ _ hB hp n1 n2 n3

theorem next_len (i : Ins) (pc : Int) : (nextL i pc).length ≤ 2 := by
  unfold nextL
  repeat' split
  all_goals simp

end Go.Proofs.Ytmknnbbhhnmpaaa