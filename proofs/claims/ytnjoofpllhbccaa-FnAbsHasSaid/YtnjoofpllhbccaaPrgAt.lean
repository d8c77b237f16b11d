/- The step at a place of a program: PrgAt, reference and program. No condition. -/
import Derived.Test.YtnjoofpllhbccaaPrgOkI
import Derived.Test.YtnjoofpllhbccaaState
namespace Go.Proofs.Ytnjoofpllhbccaa
open Go.RowKit
set_option linter.unusedVariables false
attribute [local go_sem] ext_cell ext_frozen ext_lt ext_le ext_le1 lt_s2 lt_s3 lt_s4 lt_s5 lt_s6 ext_lt1 ext_lt2 ext_lt3

/-- The step at a place, if there is one. -/
def atO (ps : List Prc) (proc pc : Int) : Option Ins := if 0 ≤ proc ∧ 0 ≤ pc then (ps[proc.toNat]?).bind fun p => p.code[pc.toNat]? else none
def insOf (o : Option Ins) : Ins := o.getD ⟨0, 0, 0, 0, 0, 0, 0, 0⟩
theorem atO_neg (ps : List Prc) {proc pc : Int} (h : ¬ (0 ≤ proc ∧ 0 ≤ pc)) : atO ps proc pc = none := by rw [atO, if_neg h]
theorem atO_nat (ps : List Prc) (k j : Nat) : atO ps k j = (ps[k]?).bind fun p => p.code[j]? := by rw [atO, if_pos ⟨by omega, by omega⟩]; rfl
/-- The answer of PrgAt. -/
def RetAt (o : Option Ins) (w : World) (e : Ending) (w' : World) : Prop := e = .returned (.tuple #[(insOf o).v, .bool o.isSome]) ∧ Grew w w'

set_option maxHeartbeats 2000000 in
theorem specPrgAt (a : Option Addr) (n cap : Nat) (ps : List Prc) (proc pc : Int) (w : World) (hr : RdP w a n ps) (hn : n ≤ 9223372036854775807) :
    Calls Try.prog 29 #[.agg #[.slice a n cap], .int .i64 proc, .int .i64 pc] w fun e w' => RetAt (atO ps proc pc) w e w' := by
  have HR := Lib.hid hr; clear hr
  have HL := Lib.hid HR.out.len
  by_cases h1 : proc < 0
  · rw [atO_neg ps (by omega)]
    go_enter Try.func29, Try.ntmps29
    go_wp2
    go_returns
    refine ⟨rfl, ?_⟩
    repeat (first | with_reducible exact Below.refl _ _ | with_reducible assumption | with_reducible apply grew_ext | with_reducible apply grew_al | with_reducible apply grew_dn | with_reducible apply grew_d | (with_reducible refine grew_set ?_ (by first | omega | (repeat (first | with_reducible exact Nat.le_refl _ | with_reducible apply le_pl | with_reducible apply le_ext | with_reducible apply le_al))) _))
  by_cases h2 : proc ≥ n
  · obtain ⟨k, rfl⟩ := Int.eq_ofNat_of_zero_le (show 0 ≤ proc by omega)
    have hnone : atO ps k pc = none := by
      unfold atO
      split
      · rw [show ps[(k : Int).toNat]? = none from List.getElem?_eq_none (by have := HL.out; simp; omega)]; rfl
      · rfl
    rw [hnone]
    clear hnone
    go_enter Try.func29, Try.ntmps29
    go_wp2
    go_returns
    refine ⟨rfl, ?_⟩
    repeat (first | with_reducible exact Below.refl _ _ | with_reducible assumption | with_reducible apply grew_ext | with_reducible apply grew_al | with_reducible apply grew_dn | with_reducible apply grew_d | (with_reducible refine grew_set ?_ (by first | omega | (repeat (first | with_reducible exact Nat.le_refl _ | with_reducible apply le_pl | with_reducible apply le_ext | with_reducible apply le_al))) _))
  obtain ⟨k, rfl⟩ := Int.eq_ofNat_of_zero_le (show 0 ≤ proc by omega)
  obtain ⟨b, off, lo, hi, is, ia, ic, rfl, hx, c0, c1, c2, hb, hi1, hi2, hi3⟩ := rdP_at HR.out (k := k) (by omega)
  have HX := Lib.hid hx; clear hx
  have HI := Lib.hid hi1; clear hi1
  have hic : is.length ≤ 9223372036854775807 := by unfold maxLen at hi3; omega
  clear hi2 hi3
  by_cases h3 : pc < 0
  · rw [atO_neg ps (by omega)]
    go_enter Try.func29, Try.ntmps29
    go_wp2
    go_returns
    refine ⟨rfl, ?_⟩
    repeat (first | with_reducible exact Below.refl _ _ | with_reducible assumption | with_reducible apply grew_ext | with_reducible apply grew_al | with_reducible apply grew_dn | with_reducible apply grew_d | (with_reducible refine grew_set ?_ (by first | omega | (repeat (first | with_reducible exact Nat.le_refl _ | with_reducible apply le_pl | with_reducible apply le_ext | with_reducible apply le_al))) _))
  obtain ⟨j, rfl⟩ := Int.eq_ofNat_of_zero_le (show 0 ≤ pc by omega)
  by_cases h4 : (j : Int) ≥ is.length
  · rw [atO_nat, HX.out, show (some (⟨lo, hi, is⟩ : Prc)).bind (fun p => p.code[j]?) = none from List.getElem?_eq_none (by show is.length ≤ j; omega)]
    go_enter Try.func29, Try.ntmps29
    go_wp2
    go_returns
    refine ⟨rfl, ?_⟩
    repeat (first | with_reducible exact Below.refl _ _ | with_reducible assumption | with_reducible apply grew_ext | with_reducible apply grew_al | with_reducible apply grew_dn | with_reducible apply grew_d | (with_reducible refine grew_set ?_ (by first | omega | (repeat (first | with_reducible exact Nat.le_refl _ | with_reducible apply le_pl | with_reducible apply le_ext | with_reducible apply le_al))) _))
  · obtain ⟨ib, ioff, op, d, a1, b1, rel, lo1, hi1, to, rfl, hy, d0, d1, d2, d3, d4, d5, d6, d7, hib⟩ := rdI_at HI.out (k := j) (by omega)
    rw [atO_nat, HX.out, show (some (⟨lo, hi, is⟩ : Prc)).bind (fun p => p.code[j]?) = some ⟨op, d, a1, b1, rel, lo1, hi1, to⟩ from hy]
    clear hy
    go_enter Try.func29, Try.ntmps29
    go_wp2
    go_returns
    refine ⟨rfl, ?_⟩
    repeat (first | with_reducible exact Below.refl _ _ | with_reducible assumption | with_reducible apply grew_ext | with_reducible apply grew_al | with_reducible apply grew_dn | with_reducible apply grew_d | (with_reducible refine grew_set ?_ (by first | omega | (repeat (first | with_reducible exact Nat.le_refl _ | with_reducible apply le_pl | with_reducible apply le_ext | with_reducible apply le_al))) _))

theorem implProcOut (a : Option Addr) (n cap : Nat) (proc : Int) (w : World) (h : (decide (0 ≤ proc) && decide (proc < n)) = false) (hn : n ≤ 9223372036854775807) :
    Calls Try.prog 89 #[.agg #[.slice a n cap], .int .i64 proc] w fun e w' => e = .returned (.tuple #[.agg #[.int .i64 0, .int .i64 0, .slice none 0 0], .bool false]) ∧ Grew w w' := by
  have C := fun w => below proc n w
  rw [h] at C
  have HC := Lib.hid C; clear C h
  go_enter Try.func89, Try.ntmps89
  go_wp2_with ((with_reducible refine (HC.out _).mono ?_); rintro e w' ⟨rfl, rfl⟩)
  go_returns
  refine ⟨rfl, ?_⟩
  repeat (first | with_reducible exact Below.refl _ _ | with_reducible assumption | with_reducible apply grew_ext | with_reducible apply grew_al | with_reducible apply grew_dn | with_reducible apply grew_d | (with_reducible refine grew_set ?_ (by first | omega | (repeat (first | with_reducible exact Nat.le_refl _ | with_reducible apply le_pl | with_reducible apply le_ext | with_reducible apply le_al))) _))
theorem implProcIn (b off n cap k : Nat) (lo hi : Int) (ia : Option Addr) (m ic : Nat) (w : World) (hk : k < n) (hn : n ≤ 9223372036854775807) (c0 : w.cell? ⟨b, off + k * 3, none⟩ = some (.int .i64 lo)) (c1 : w.cell? ⟨b, off + k * 3 + 1, none⟩ = some (.int .i64 hi)) (c2 : w.cell? ⟨b, off + k * 3 + 2, none⟩ = some (.slice ia m ic)) (hb : b < w.heap.size) :
    Calls Try.prog 89 #[.agg #[.slice (some ⟨b, off, none⟩) n cap], .int .i64 k] w fun e w' => e = .returned (.tuple #[.agg #[.int .i64 lo, .int .i64 hi, .slice ia m ic], .bool true]) ∧ Grew w w' := by
  have C := fun w => below k n w
  rw [show (decide ((0 : Int) ≤ (k : Int)) && decide ((k : Int) < (n : Int))) = true from by simp; omega] at C
  have HC := Lib.hid C; clear C
  go_enter Try.func89, Try.ntmps89
  go_wp2_with ((with_reducible refine (HC.out _).mono ?_); rintro e w' ⟨rfl, rfl⟩)
  go_returns
  refine ⟨rfl, ?_⟩
  repeat (first | with_reducible exact Below.refl _ _ | with_reducible assumption | with_reducible apply grew_ext | with_reducible apply grew_al | with_reducible apply grew_dn | with_reducible apply grew_d | (with_reducible refine grew_set ?_ (by first | omega | (repeat (first | with_reducible exact Nat.le_refl _ | with_reducible apply le_pl | with_reducible apply le_ext | with_reducible apply le_al))) _))

set_option maxHeartbeats 2000000 in
theorem implPrgAt (a : Option Addr) (n cap : Nat) (ps : List Prc) (proc pc : Int) (w : World) (hr : RdP w a n ps) (hn : n ≤ 9223372036854775807) :
    Calls Try.prog 28 #[.agg #[.slice a n cap], .int .i64 proc, .int .i64 pc] w fun e w' => RetAt (atO ps proc pc) w e w' := by
  have HR := Lib.hid hr; clear hr
  have HL := Lib.hid HR.out.len
  by_cases h1 : proc < 0
  · rw [atO_neg ps (by omega)]
    have HP := Lib.hid (fun w => implProcOut a n cap proc w (by simp; omega) hn)
    go_enter Try.func28, Try.ntmps28
    go_wp2_with ((with_reducible refine (HP.out _).mono ?_); rintro e w' ⟨rfl, g'⟩; (first | obtain ⟨y, rfl⟩ := ext_cold g' | obtain ⟨y, rfl⟩ := ext_col g' | obtain ⟨y, rfl⟩ := ext_of g'); clear g')
    go_returns
    refine ⟨rfl, ?_⟩
    repeat (first | with_reducible exact Below.refl _ _ | with_reducible assumption | with_reducible apply grew_ext | with_reducible apply grew_al | with_reducible apply grew_dn | with_reducible apply grew_d | (with_reducible refine grew_set ?_ (by first | omega | (repeat (first | with_reducible exact Nat.le_refl _ | with_reducible apply le_pl | with_reducible apply le_ext | with_reducible apply le_al))) _))
  by_cases h2 : proc ≥ n
  · obtain ⟨k, rfl⟩ := Int.eq_ofNat_of_zero_le (show 0 ≤ proc by omega)
    have hnone : atO ps k pc = none := by
      unfold atO
      split
      · rw [show ps[(k : Int).toNat]? = none from List.getElem?_eq_none (by have := HL.out; simp; omega)]; rfl
      · rfl
    rw [hnone]
    clear hnone
    have HP := Lib.hid (fun w => implProcOut a n cap k w (by simp; omega) hn)
    go_enter Try.func28, Try.ntmps28
    go_wp2_with ((with_reducible refine (HP.out _).mono ?_); rintro e w' ⟨rfl, g'⟩; (first | obtain ⟨y, rfl⟩ := ext_cold g' | obtain ⟨y, rfl⟩ := ext_col g' | obtain ⟨y, rfl⟩ := ext_of g'); clear g')
    go_returns
    refine ⟨rfl, ?_⟩
    repeat (first | with_reducible exact Below.refl _ _ | with_reducible assumption | with_reducible apply grew_ext | with_reducible apply grew_al | with_reducible apply grew_dn | with_reducible apply grew_d | (with_reducible refine grew_set ?_ (by first | omega | (repeat (first | with_reducible exact Nat.le_refl _ | with_reducible apply le_pl | with_reducible apply le_ext | with_reducible apply le_al))) _))
  obtain ⟨k, rfl⟩ := Int.eq_ofNat_of_zero_le (show 0 ≤ proc by omega)
  obtain ⟨b, off, lo, hi, is, ia, ic, rfl, hx, c0, c1, c2, hb, hi1, hi2, hi3⟩ := rdP_at HR.out (k := k) (by omega)
  have HX := Lib.hid hx; clear hx
  have HI := Lib.hid hi1; clear hi1
  have hic : is.length ≤ 9223372036854775807 := by unfold maxLen at hi3; omega
  clear hi2 hi3
  have HP := Lib.hid (fun W (h : Grew w W) => implProcIn b off n cap k lo hi ia is.length ic W (by omega) hn ((h.cell (p := ⟨b, off + k * 3, none⟩) hb).trans c0) ((h.cell (p := ⟨b, off + k * 3 + 1, none⟩) hb).trans c1) ((h.cell (p := ⟨b, off + k * 3 + 2, none⟩) hb).trans c2) (Nat.lt_of_lt_of_le hb h.size))
  by_cases h3 : pc < 0
  · rw [atO_neg ps (by omega)]
    have C := fun w => below pc is.length w
    rw [show (decide (0 ≤ pc) && decide (pc < (is.length : Int))) = false from by simp; omega] at C
    have HC := Lib.hid C; clear C
    go_enter Try.func28, Try.ntmps28
    go_wp2_with (first | ((with_reducible refine (HP.out _ (by repeat (first | with_reducible exact Below.refl _ _ | with_reducible assumption | with_reducible apply grew_ext | with_reducible apply grew_al | with_reducible apply grew_dn | with_reducible apply grew_d | (with_reducible refine grew_set ?_ (by first | omega | (repeat (first | with_reducible exact Nat.le_refl _ | with_reducible apply le_pl | with_reducible apply le_ext | with_reducible apply le_al))) _)))).mono ?_); rintro e w' ⟨rfl, g'⟩; (first | obtain ⟨y, rfl⟩ := ext_cold g' | obtain ⟨y, rfl⟩ := ext_col g' | obtain ⟨y, rfl⟩ := ext_of g'); clear g') | ((with_reducible refine (HC.out _).mono ?_); rintro e w' ⟨rfl, rfl⟩))
    go_returns
    refine ⟨rfl, ?_⟩
    repeat (first | with_reducible exact Below.refl _ _ | with_reducible assumption | with_reducible apply grew_ext | with_reducible apply grew_al | with_reducible apply grew_dn | with_reducible apply grew_d | (with_reducible refine grew_set ?_ (by first | omega | (repeat (first | with_reducible exact Nat.le_refl _ | with_reducible apply le_pl | with_reducible apply le_ext | with_reducible apply le_al))) _))
  obtain ⟨j, rfl⟩ := Int.eq_ofNat_of_zero_le (show 0 ≤ pc by omega)
  by_cases h4 : (j : Int) ≥ is.length
  · rw [atO_nat, HX.out, show (some (⟨lo, hi, is⟩ : Prc)).bind (fun p => p.code[j]?) = none from List.getElem?_eq_none (by show is.length ≤ j; omega)]
    have C := fun w => below j is.length w
    rw [show (decide ((0 : Int) ≤ (j : Int)) && decide ((j : Int) < (is.length : Int))) = false from by simp; omega] at C
    have HC := Lib.hid C; clear C
    go_enter Try.func28, Try.ntmps28
    go_wp2_with (first | ((with_reducible refine (HP.out _ (by repeat (first | with_reducible exact Below.refl _ _ | with_reducible assumption | with_reducible apply grew_ext | with_reducible apply grew_al | with_reducible apply grew_dn | with_reducible apply grew_d | (with_reducible refine grew_set ?_ (by first | omega | (repeat (first | with_reducible exact Nat.le_refl _ | with_reducible apply le_pl | with_reducible apply le_ext | with_reducible apply le_al))) _)))).mono ?_); rintro e w' ⟨rfl, g'⟩; (first | obtain ⟨y, rfl⟩ := ext_cold g' | obtain ⟨y, rfl⟩ := ext_col g' | obtain ⟨y, rfl⟩ := ext_of g'); clear g') | ((with_reducible refine (HC.out _).mono ?_); rintro e w' ⟨rfl, rfl⟩))
    go_returns
    refine ⟨rfl, ?_⟩
    repeat (first | with_reducible exact Below.refl _ _ | with_reducible assumption | with_reducible apply grew_ext | with_reducible apply grew_al | with_reducible apply grew_dn | with_reducible apply grew_d | (with_reducible refine grew_set ?_ (by first | omega | (repeat (first | with_reducible exact Nat.le_refl _ | with_reducible apply le_pl | with_reducible apply le_ext | with_reducible apply le_al))) _))
  · obtain ⟨ib, ioff, op, d, a1, b1, rel, lo1, hi1, to, rfl, hy, d0, d1, d2, d3, d4, d5, d6, d7, hib⟩ := rdI_at HI.out (k := j) (by omega)
    rw [atO_nat, HX.out, show (some (⟨lo, hi, is⟩ : Prc)).bind (fun p => p.code[j]?) = some ⟨op, d, a1, b1, rel, lo1, hi1, to⟩ from hy]
    clear hy
    obtain ⟨q0, q1, q2⟩ := lt3 hib
    have C := fun w => below j is.length w
    rw [show (decide ((0 : Int) ≤ (j : Int)) && decide ((j : Int) < (is.length : Int))) = true from by simp; omega] at C
    have HC := Lib.hid C; clear C
    go_enter Try.func28, Try.ntmps28
    go_wp2_with (first | ((with_reducible refine (HP.out _ (by repeat (first | with_reducible exact Below.refl _ _ | with_reducible assumption | with_reducible apply grew_ext | with_reducible apply grew_al | with_reducible apply grew_dn | with_reducible apply grew_d | (with_reducible refine grew_set ?_ (by first | omega | (repeat (first | with_reducible exact Nat.le_refl _ | with_reducible apply le_pl | with_reducible apply le_ext | with_reducible apply le_al))) _)))).mono ?_); rintro e w' ⟨rfl, g'⟩; (first | obtain ⟨y, rfl⟩ := ext_cold g' | obtain ⟨y, rfl⟩ := ext_col g' | obtain ⟨y, rfl⟩ := ext_of g'); clear g') | ((with_reducible refine (HC.out _).mono ?_); rintro e w' ⟨rfl, rfl⟩))
    go_returns
    refine ⟨rfl, ?_⟩
    repeat (first | with_reducible exact Below.refl _ _ | with_reducible assumption | with_reducible apply grew_ext | with_reducible apply grew_al | with_reducible apply grew_dn | with_reducible apply grew_d | (with_reducible refine grew_set ?_ (by first | omega | (repeat (first | with_reducible exact Nat.le_refl _ | with_reducible apply le_pl | with_reducible apply le_ext | with_reducible apply le_al))) _))
end Go.Proofs.Ytnjoofpllhbccaa
