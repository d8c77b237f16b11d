/- AbsHas of a state that is on and ok. No condition. -/
import Derived.Test.YtnjoofpllhbccaaHas
namespace Go.Proofs.Ytnjoofpllhbccaa
open Go.RowKit
set_option linter.unusedVariables false
attribute [local go_sem] ext_cell ext_frozen ext_lt ext_le ext_le1 lt_s2 lt_s3 lt_s4 lt_s5 lt_s6 ext_lt1 ext_lt2 ext_lt3

set_option maxHeartbeats 4000000 in
theorem implAbsHas4B (B0 B1 B2 B3 Bz : Bool) (a : Option Addr) (c : Nat) (x0 x1 x2 x3 : Itv) (lo hi : Int) (va : Option Addr) (vc : Nat) (v0 v1 v2 v3 : Int) (ca : Option Addr) (cc : Nat) (zs : List Int) (w : World) (hr : RdL EItv 2 w a 4 [x0, x1, x2, x3]) (hok : itvOkB lo hi = true) (hall : [x0, x1, x2, x3].all itvB = true) (hc : 4 ≤ c)
    (hv : Rd w va 4 1 (ints .i64 [v0, v1, v2, v3])) (hz : Rd w ca 4 1 (ints .i64 zs)) (hB0 : inB x0.lo x0.hi v0 = B0) (hB1 : inB x1.lo x1.hi v1 = B1) (hB2 : inB x2.lo x2.hi v2 = B2) (hB3 : inB x3.lo x3.hi v3 = B3) (hBz : zs.all (inB lo hi) = Bz) :
    Calls Try.prog 19 #[.agg #[.bool true, .slice a 4 c, .int .i64 lo, .int .i64 hi], .slice va 4 vc, .slice ca 4 cc] w fun e w' => e = .returned (.bool (B0 && B1 && B2 && B3 && Bz)) ∧ Grew w w' := by
  have C0 := fun W => implItvHas x0.lo x0.hi v0 W (by simp only [List.all_cons, List.all_nil, Bool.and_eq_true, itvB] at hall; exact hall.1)
  have C1 := fun W => implItvHas x1.lo x1.hi v1 W (by simp only [List.all_cons, List.all_nil, Bool.and_eq_true, itvB] at hall; exact hall.2.1)
  have C2 := fun W => implItvHas x2.lo x2.hi v2 W (by simp only [List.all_cons, List.all_nil, Bool.and_eq_true, itvB] at hall; exact hall.2.2.1)
  have C3 := fun W => implItvHas x3.lo x3.hi v3 W (by simp only [List.all_cons, List.all_nil, Bool.and_eq_true, itvB] at hall; exact hall.2.2.2.1)
  have R := readState4 a c x0 x1 x2 x3 lo hi
  obtain ⟨x0l, x0h⟩ := x0
  obtain ⟨x1l, x1h⟩ := x1
  obtain ⟨x2l, x2h⟩ := x2
  obtain ⟨x3l, x3h⟩ := x3
  dsimp only at C0 C1 C2 C3 R hB0 hB1 hB2 hB3 ⊢
  have HC0 : Hid (∀ W, Calls Try.prog 76 #[.agg #[.int .i64 x0l, .int .i64 x0h], .int .i64 v0] W fun e w' => e = .returned (.bool B0) ∧ Grew W w') := Lib.hid (by rw [← hB0]; exact C0); clear C0 hB0
  have HC1 : Hid (∀ W, Calls Try.prog 76 #[.agg #[.int .i64 x1l, .int .i64 x1h], .int .i64 v1] W fun e w' => e = .returned (.bool B1) ∧ Grew W w') := Lib.hid (by rw [← hB1]; exact C1); clear C1 hB1
  have HC2 : Hid (∀ W, Calls Try.prog 76 #[.agg #[.int .i64 x2l, .int .i64 x2h], .int .i64 v2] W fun e w' => e = .returned (.bool B2) ∧ Grew W w') := Lib.hid (by rw [← hB2]; exact C2); clear C2 hB2
  have HC3 : Hid (∀ W, Calls Try.prog 76 #[.agg #[.int .i64 x3l, .int .i64 x3h], .int .i64 v3] W fun e w' => e = .returned (.bool B3) ∧ Grew W w') := Lib.hid (by rw [← hB3]; exact C3); clear C3 hB3
  have HRS := Lib.hid (fun W (g : Grew w W) => R W (hr.grew staysItv g) hok hall hc); clear R hr hall
  have HV := Lib.hid hv; clear hv
  have HZ := Lib.hid hz; clear hz
  go_enter Try.func19, Try.ntmps19
  go_wp2_with fail
  refine (HRS.out _ (by repeat (first | with_reducible exact Below.refl _ _ | with_reducible assumption | with_reducible apply grew_ext | with_reducible apply grew_al | with_reducible apply grew_dn | with_reducible apply grew_d | (with_reducible refine grew_set ?_ (by first | omega | (repeat (first | with_reducible exact Nat.le_refl _ | with_reducible apply le_pl | with_reducible apply le_ext | with_reducible apply le_al))) _)))).mono ?_
  rintro e w1 ⟨b, rfl, lb, g1, hb⟩
  have G1 : Grew w w1 := grew_tr (by repeat (first | with_reducible exact Below.refl _ _ | with_reducible assumption | with_reducible apply grew_ext | with_reducible apply grew_al | with_reducible apply grew_dn | with_reducible apply grew_d | (with_reducible refine grew_set ?_ (by first | omega | (repeat (first | with_reducible exact Nat.le_refl _ | with_reducible apply le_pl | with_reducible apply le_ext | with_reducible apply le_al))) _))) g1
  obtain ⟨bv, ov, y0, rfl, hy0, e0⟩ := (HV.out.grew G1).at1 (show 0 < 4 by omega)
  obtain ⟨bv1, ov1, y1, hv1, hy1, e1⟩ := (HV.out.grew G1).at1 (show 1 < 4 by omega)
  simp only [Option.some.injEq, Addr.mk.injEq, and_true] at hv1
  obtain ⟨rfl, rfl⟩ := hv1
  obtain ⟨bv2, ov2, y2, hv2, hy2, e2⟩ := (HV.out.grew G1).at1 (show 2 < 4 by omega)
  simp only [Option.some.injEq, Addr.mk.injEq, and_true] at hv2
  obtain ⟨rfl, rfl⟩ := hv2
  obtain ⟨bv3, ov3, y3, hv3, hy3, e3⟩ := (HV.out.grew G1).at1 (show 3 < 4 by omega)
  simp only [Option.some.injEq, Addr.mk.injEq, and_true] at hv3
  obtain ⟨rfl, rfl⟩ := hv3
  simp only [List.getElem?_cons_zero, List.getElem?_cons_succ, Option.some.injEq] at hy0 hy1 hy2 hy3
  subst hy0 hy1 hy2 hy3
  simp only [Nat.add_zero] at e0
  have s0 : w1.cell? ⟨b, 0, none⟩ = some (.int .i64 x0l) := hb.cell 0
  have s1 : w1.cell? ⟨b, 1, none⟩ = some (.int .i64 x0h) := hb.cell 1
  have s2 : w1.cell? ⟨b, 2, none⟩ = some (.int .i64 x1l) := hb.cell 2
  have s3 : w1.cell? ⟨b, 3, none⟩ = some (.int .i64 x1h) := hb.cell 3
  have s4 : w1.cell? ⟨b, 4, none⟩ = some (.int .i64 x2l) := hb.cell 4
  have s5 : w1.cell? ⟨b, 5, none⟩ = some (.int .i64 x2h) := hb.cell 5
  have s6 : w1.cell? ⟨b, 6, none⟩ = some (.int .i64 x3l) := hb.cell 6
  have s7 : w1.cell? ⟨b, 7, none⟩ = some (.int .i64 x3h) := hb.cell 7
  have s8 : w1.cell? ⟨b, 8, none⟩ = some (.int .i64 lo) := hb.cell 8
  have s9 : w1.cell? ⟨b, 9, none⟩ = some (.int .i64 hi) := hb.cell 9
  have sl := hb.lt
  have el := World.block_lt_of_cell? w1 _ e0
  have HG := Lib.hid G1
  obtain ⟨q0, q1, q2⟩ := lt3 sl
  obtain ⟨r0, r1, r2⟩ := lt3 el
  clear hb g1 G1 HRS
  have HD : Hid (∀ W, Grew (w1.alloc (.cells #[.pointer (some ⟨b, 0, none⟩)] 96)) W → Calls Try.prog 77 #[.slice ca 4 cc, .func (.func 78) #[] #[.pointer (some ⟨w1.heap.size, 0, none⟩)]] W fun e w' => e = .returned (.bool (!Bz)) ∧ Grew W w') := Lib.hid (fun W g => by rw [← hBz]; exact containsFuncHas ca 4 cc zs lo hi w1.heap.size b W (HZ.out.grew (grew_tr (grew_al HG.out _) g)) (by omega) ((g.cell (p := ⟨w1.heap.size, 0, none⟩) (by simp)).trans (by simp [go_sem])) ((g.cell (p := ⟨b, 8, none⟩) (by simp; omega)).trans (by simp [go_sem, s8, sl])) ((g.cell (p := ⟨b, 9, none⟩) (by simp; omega)).trans (by simp [go_sem, s9, sl])) hok)
  clear hBz
  go_wp2
  refine wp_loop_rounds 5 ?_
  rw [rounds_succ]
  go_wp2_with fail
  refine (HC0.out _).mono ?_
  rintro e w2 ⟨rfl, g0⟩
  (first | obtain ⟨z0, rfl⟩ := ext_col g0 | obtain ⟨z0, rfl⟩ := ext_of g0); clear g0
  cases B0
  · go_wp2
    go_ret
    refine ⟨by simp, ?_⟩
    have h := HG.out
    repeat (first | with_reducible exact Below.refl _ _ | with_reducible assumption | with_reducible apply grew_ext | with_reducible apply grew_al | with_reducible apply grew_dn | with_reducible apply grew_d | (with_reducible refine grew_set ?_ (by first | omega | (repeat (first | with_reducible exact Nat.le_refl _ | with_reducible apply le_pl | with_reducible apply le_ext | with_reducible apply le_al))) _))
  go_wp2
  rw [rounds_succ]
  go_wp2_with fail
  refine (HC1.out _).mono ?_
  rintro e w2 ⟨rfl, g1⟩
  (first | obtain ⟨z1, rfl⟩ := ext_col g1 | obtain ⟨z1, rfl⟩ := ext_of g1); clear g1
  cases B1
  · go_wp2
    go_ret
    refine ⟨by simp, ?_⟩
    have h := HG.out
    repeat (first | with_reducible exact Below.refl _ _ | with_reducible assumption | with_reducible apply grew_ext | with_reducible apply grew_al | with_reducible apply grew_dn | with_reducible apply grew_d | (with_reducible refine grew_set ?_ (by first | omega | (repeat (first | with_reducible exact Nat.le_refl _ | with_reducible apply le_pl | with_reducible apply le_ext | with_reducible apply le_al))) _))
  go_wp2
  rw [rounds_succ]
  go_wp2_with fail
  refine (HC2.out _).mono ?_
  rintro e w2 ⟨rfl, g2⟩
  (first | obtain ⟨z2, rfl⟩ := ext_col g2 | obtain ⟨z2, rfl⟩ := ext_of g2); clear g2
  cases B2
  · go_wp2
    go_ret
    refine ⟨by simp, ?_⟩
    have h := HG.out
    repeat (first | with_reducible exact Below.refl _ _ | with_reducible assumption | with_reducible apply grew_ext | with_reducible apply grew_al | with_reducible apply grew_dn | with_reducible apply grew_d | (with_reducible refine grew_set ?_ (by first | omega | (repeat (first | with_reducible exact Nat.le_refl _ | with_reducible apply le_pl | with_reducible apply le_ext | with_reducible apply le_al))) _))
  go_wp2
  rw [rounds_succ]
  go_wp2_with fail
  refine (HC3.out _).mono ?_
  rintro e w2 ⟨rfl, g3⟩
  (first | obtain ⟨z3, rfl⟩ := ext_col g3 | obtain ⟨z3, rfl⟩ := ext_of g3); clear g3
  cases B3
  · go_wp2
    go_ret
    refine ⟨by simp, ?_⟩
    have h := HG.out
    repeat (first | with_reducible exact Below.refl _ _ | with_reducible assumption | with_reducible apply grew_ext | with_reducible apply grew_al | with_reducible apply grew_dn | with_reducible apply grew_d | (with_reducible refine grew_set ?_ (by first | omega | (repeat (first | with_reducible exact Nat.le_refl _ | with_reducible apply le_pl | with_reducible apply le_ext | with_reducible apply le_al))) _))
  go_wp2
  rw [rounds_succ]
  go_wp2_with fail
  refine (HD.out _ (by repeat (first | with_reducible exact Below.refl _ _ | with_reducible assumption | with_reducible apply grew_ext | with_reducible apply grew_al | with_reducible apply grew_dn | with_reducible apply grew_d | (with_reducible refine grew_set ?_ (by first | omega | (repeat (first | with_reducible exact Nat.le_refl _ | with_reducible apply le_pl | with_reducible apply le_ext | with_reducible apply le_al))) _)))).mono ?_
  rintro e w2 ⟨rfl, g⟩
  obtain ⟨u, rfl⟩ := ext_col g; clear g
  go_wp2
  go_ret
  refine ⟨by cases Bz <;> rfl, ?_⟩
  have h := HG.out
  repeat (first | with_reducible exact Below.refl _ _ | with_reducible assumption | with_reducible apply grew_ext | with_reducible apply grew_al | with_reducible apply grew_dn | with_reducible apply grew_d | (with_reducible refine grew_set ?_ (by first | omega | (repeat (first | with_reducible exact Nat.le_refl _ | with_reducible apply le_pl | with_reducible apply le_ext | with_reducible apply le_al))) _))
theorem implAbsHas4 (a : Option Addr) (c : Nat) (x0 x1 x2 x3 : Itv) (lo hi : Int) (va : Option Addr) (vc : Nat) (v0 v1 v2 v3 : Int) (ca : Option Addr) (cc : Nat) (zs : List Int) (w : World) (hr : RdL EItv 2 w a 4 [x0, x1, x2, x3]) (hok : itvOkB lo hi = true) (hall : [x0, x1, x2, x3].all itvB = true) (hc : 4 ≤ c)
    (hv : Rd w va 4 1 (ints .i64 [v0, v1, v2, v3])) (hz : Rd w ca 4 1 (ints .i64 zs)) :
    Calls Try.prog 19 #[.agg #[.bool true, .slice a 4 c, .int .i64 lo, .int .i64 hi], .slice va 4 vc, .slice ca 4 cc] w fun e w' => e = .returned (.bool (inB x0.lo x0.hi v0 && inB x1.lo x1.hi v1 && inB x2.lo x2.hi v2 && inB x3.lo x3.hi v3 && zs.all (inB lo hi))) ∧ Grew w w' :=
  implAbsHas4B _ _ _ _ _ a c x0 x1 x2 x3 lo hi va vc v0 v1 v2 v3 ca cc zs w hr hok hall hc hv hz rfl rfl rfl rfl rfl
end Go.Proofs.Ytnjoofpllhbccaa
