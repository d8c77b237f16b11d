/- The reference's reader of a step, by kinds. No condition. -/
import Derived.Test.YtcdfomoglkhboaaGreatDoorTso
import Derived.Test.YtcdfomoglkhboaaGreatDoorTir
namespace Go.Proofs.YtcdfomoglkhboaaGreatDoor
open Go.RowKit Go.Lib
set_option linter.unusedVariables false
set_option linter.unusedSimpArgs false
attribute [local go_sem] ext_cell ext_frozen ext_lt ext_le ext_le1 lt_s2 lt_s3 lt_s4 lt_s5 lt_s6 ext_lt1 ext_lt2 ext_lt3
/-- An instruction as a value. -/
def insA (i : Ins) : Value := .agg #[.int .i64 i.op, .int .i64 i.d, .int .i64 i.a, .int .i64 i.b, .int .i64 i.rel, .int .i64 i.lo, .int .i64 i.hi, .int .i64 i.to]
theorem wp_letC {P : Program} {c : Code} {Q : Exit → Act → World → Prop} {a : Act} {W : World} (h : ∀ E, E = W → c.wp P Q a E) : c.wp P Q a W := h W rfl
theorem calls_letW {P : Program} {f : FuncId} {args : Array Value} {W : World} {Q : Ending → World → Prop} (h : ∀ E, E = W → Calls P f args E Q) : Calls P f args W Q := h W rfl

set_option maxRecDepth 100000 in
set_option maxHeartbeats 8000000 in
theorem specStep5a (a : Option Addr) (c : Nat) (ws : List (List UInt8)) (w : World) (hr : Rd w a ws.length 1 (strs ws)) (hw : ∀ k, (atS ws k).length ≤ 1100000) (ho : opOfS (atS ws 0) = 5) (ha : (atS ws 0 == [97, 110, 121]) = true) :
    Calls Tryz.prog 35 #[.slice a ws.length c] w fun e w' => e = .returned (.agg #[.int .i64 (5), .int .i64 (varOfS (atS ws 1)), .int .i64 0, .int .i64 0, .int .i64 0, .int .i64 (numOfS (atS ws 2)), .int .i64 (numOfS (atS ws 3)), .int .i64 0]) ∧ Grew w w' := by
  have HW := Lib.hid hw
  have HR := Lib.hid hr
  have HOP := fun w => specOp (atS ws 0) w
  rw [ho] at HOP
  clear ho
  have HO := Lib.hid HOP
  clear hr hw HOP
  go_enter Tryz.func35, Tryz.ntmps35
  go_wp2_with fail
  have HB := Lib.hid (Blk.new w 38 #[.int .i64 0, .int .i64 0, .int .i64 0, .int .i64 0, .int .i64 0, .int .i64 0, .int .i64 0, .int .i64 0])
  have HG := Lib.hid (grew_al (Below.refl _ w) (.cells #[.int .i64 0, .int .i64 0, .int .i64 0, .int .i64 0, .int .i64 0, .int .i64 0, .int .i64 0, .int .i64 0] 38))
  refine (specAt a c ws 1 _ (HR.out.grew HG.out) (by omega)).mono ?_
  rintro e W ⟨rfl, rfl⟩
  go_wp2_with fail
  refine (specAt a c ws 2 _ (HR.out.grew HG.out) (by omega)).mono ?_
  rintro e W ⟨rfl, rfl⟩
  go_wp2_with fail
  refine (specAt a c ws 3 _ (HR.out.grew HG.out) (by omega)).mono ?_
  rintro e W ⟨rfl, rfl⟩
  go_wp2_with fail
  refine (specAt a c ws 0 _ (HR.out.grew HG.out) (by omega)).mono ?_
  rintro e W ⟨rfl, rfl⟩
  go_wp2_with fail
  refine (HO.out _).mono ?_
  rintro e w1 ⟨rfl, g1⟩
  have HB1 := Lib.hid (HB.out.grew g1)
  have HG1 := Lib.hid (grew_tr HG.out g1)
  have HI1 := Lib.hid (Blk.new w1 38 #[.int .i64 (5), .int .i64 0, .int .i64 0, .int .i64 0, .int .i64 0, .int .i64 0, .int .i64 0, .int .i64 0])
  clear g1 HB HG HO
  go_wp2_with fail
  have HN := Lib.hid (show w.heap.size ≠ w1.heap.size by have := HB1.out.lt; omega)
  have HNL := Lib.hid (show w.heap.size ≤ w1.heap.size by have := HB1.out.lt; omega)
  have HI0 := HI1; have HR0 := HB1; have HE0 := HG1; clear HI1 HB1 HG1
  refine calls_letW ?_
  intro E1 hE
  have HI1 : Hid (Blk E1 w1.heap.size 38 #[.int .i64 (5), .int .i64 0, .int .i64 0, .int .i64 0, .int .i64 0, .int .i64 0, .int .i64 0, .int .i64 0]) := Lib.hid (by rw [hE]; exact HI0.out)
  have HR1 : Hid (Blk E1 w.heap.size 38 #[.int .i64 0, .int .i64 0, .int .i64 0, .int .i64 0, .int .i64 0, .int .i64 0, .int .i64 0, .int .i64 0]) := Lib.hid (by rw [hE]; exact HR0.out.alloc _)
  have HE1 : Hid (Grew w E1) := Lib.hid (by rw [hE]; exact grew_al HE0.out _)
  clear hE HI0 HR0 HE0
  have y := fun j => HR1.out.cell j
  have y0 := y 0
  have y1 := y 1
  have y2 := y 2
  have y3 := y 3
  have y4 := y 4
  have y5 := y 5
  have y6 := y 6
  have y7 := y 7
  simp only [List.getElem?_toArray, List.getElem?_cons_zero, List.getElem?_cons_succ] at y0 y1 y2 y3 y4 y5 y6 y7
  have yl := HR1.out.lt
  have yf := fun j => HR1.out.frozen j
  clear y
  have z := fun j => HI1.out.cell j
  have z0 := z 0
  have z1 := z 1
  have z2 := z 2
  have z3 := z 3
  have z4 := z 4
  have z5 := z 5
  have z6 := z 6
  have z7 := z 7
  simp only [List.getElem?_toArray, List.getElem?_cons_zero, List.getElem?_cons_succ] at z0 z1 z2 z3 z4 z5 z6 z7
  have zl := HI1.out.lt
  have zf := fun j => HI1.out.frozen j
  clear z
  refine (specVarOf (atS ws 1) _).mono ?_
  rintro e W ⟨rfl, rfl⟩
  go_wp2_with fail
  refine calls_letW ?_
  intro E2 hE
  have HI2 : Hid (Blk E2 w1.heap.size 38 #[.int .i64 (5), .int .i64 (varOfS (atS ws 1)), .int .i64 0, .int .i64 0, .int .i64 0, .int .i64 0, .int .i64 0, .int .i64 0]) := Lib.hid (by rw [hE]; exact (HI1.out.set_ 1 (.int .i64 (varOfS (atS ws 1)))))
  have HR2 : Hid (Blk E2 w.heap.size 38 #[.int .i64 0, .int .i64 0, .int .i64 0, .int .i64 0, .int .i64 0, .int .i64 0, .int .i64 0, .int .i64 0]) := Lib.hid (by rw [hE]; exact (HR1.out.far (p := ⟨w1.heap.size, 1, none⟩) HN.out (.int .i64 (varOfS (atS ws 1)))))
  have HE2 : Hid (Grew w E2) := Lib.hid (by rw [hE]; repeat (first | exact HE1.out | refine grew_set ?_ HNL.out _))
  clear hE HI1 HR1 HE1 y0 y1 y2 y3 y4 y5 y6 y7 yl yf z0 z1 z2 z3 z4 z5 z6 z7 zl zf
  have y := fun j => HR2.out.cell j
  have y0 := y 0
  have y1 := y 1
  have y2 := y 2
  have y3 := y 3
  have y4 := y 4
  have y5 := y 5
  have y6 := y 6
  have y7 := y 7
  simp only [List.getElem?_toArray, List.getElem?_cons_zero, List.getElem?_cons_succ] at y0 y1 y2 y3 y4 y5 y6 y7
  have yl := HR2.out.lt
  have yf := fun j => HR2.out.frozen j
  clear y
  have z := fun j => HI2.out.cell j
  have z0 := z 0
  have z1 := z 1
  have z2 := z 2
  have z3 := z 3
  have z4 := z 4
  have z5 := z 5
  have z6 := z 6
  have z7 := z 7
  simp only [List.getElem?_toArray, List.getElem?_cons_zero, List.getElem?_cons_succ] at z0 z1 z2 z3 z4 z5 z6 z7
  have zl := HI2.out.lt
  have zf := fun j => HI2.out.frozen j
  clear z
  refine (specNum (atS ws 2) _ (HW.out _)).mono ?_
  rintro e w3 ⟨rfl, g⟩
  have HI3 := Lib.hid (HI2.out.grew g)
  have HR3 := Lib.hid (HR2.out.grew g)
  have HE3 := Lib.hid (grew_tr HE2.out g)
  clear g HI2 HR2 HE2 y0 y1 y2 y3 y4 y5 y6 y7 yl yf z0 z1 z2 z3 z4 z5 z6 z7 zl zf
  have y := fun j => HR3.out.cell j
  have y0 := y 0
  have y1 := y 1
  have y2 := y 2
  have y3 := y 3
  have y4 := y 4
  have y5 := y 5
  have y6 := y 6
  have y7 := y 7
  simp only [List.getElem?_toArray, List.getElem?_cons_zero, List.getElem?_cons_succ] at y0 y1 y2 y3 y4 y5 y6 y7
  have yl := HR3.out.lt
  have yf := fun j => HR3.out.frozen j
  clear y
  have z := fun j => HI3.out.cell j
  have z0 := z 0
  have z1 := z 1
  have z2 := z 2
  have z3 := z 3
  have z4 := z 4
  have z5 := z 5
  have z6 := z 6
  have z7 := z 7
  simp only [List.getElem?_toArray, List.getElem?_cons_zero, List.getElem?_cons_succ] at z0 z1 z2 z3 z4 z5 z6 z7
  have zl := HI3.out.lt
  have zf := fun j => HI3.out.frozen j
  clear z
  go_wp2_with fail
  refine calls_letW ?_
  intro E4 hE
  have HI4 : Hid (Blk E4 w1.heap.size 38 #[.int .i64 (5), .int .i64 (varOfS (atS ws 1)), .int .i64 0, .int .i64 0, .int .i64 0, .int .i64 (numOfS (atS ws 2)), .int .i64 (numOfS (atS ws 2)), .int .i64 0]) := Lib.hid (by rw [hE]; exact ((HI3.out.set_ 5 (.int .i64 (numOfS (atS ws 2)))).set_ 6 (.int .i64 (numOfS (atS ws 2)))))
  have HR4 : Hid (Blk E4 w.heap.size 38 #[.int .i64 0, .int .i64 0, .int .i64 0, .int .i64 0, .int .i64 0, .int .i64 0, .int .i64 0, .int .i64 0]) := Lib.hid (by rw [hE]; exact ((HR3.out.far (p := ⟨w1.heap.size, 5, none⟩) HN.out (.int .i64 (numOfS (atS ws 2)))).far (p := ⟨w1.heap.size, 6, none⟩) HN.out (.int .i64 (numOfS (atS ws 2)))))
  have HE4 : Hid (Grew w E4) := Lib.hid (by rw [hE]; repeat (first | exact HE3.out | refine grew_set ?_ HNL.out _))
  clear hE HI3 HR3 HE3 y0 y1 y2 y3 y4 y5 y6 y7 yl yf z0 z1 z2 z3 z4 z5 z6 z7 zl zf
  have y := fun j => HR4.out.cell j
  have y0 := y 0
  have y1 := y 1
  have y2 := y 2
  have y3 := y 3
  have y4 := y 4
  have y5 := y 5
  have y6 := y 6
  have y7 := y 7
  simp only [List.getElem?_toArray, List.getElem?_cons_zero, List.getElem?_cons_succ] at y0 y1 y2 y3 y4 y5 y6 y7
  have yl := HR4.out.lt
  have yf := fun j => HR4.out.frozen j
  clear y
  have z := fun j => HI4.out.cell j
  have z0 := z 0
  have z1 := z 1
  have z2 := z 2
  have z3 := z 3
  have z4 := z 4
  have z5 := z 5
  have z6 := z 6
  have z7 := z 7
  simp only [List.getElem?_toArray, List.getElem?_cons_zero, List.getElem?_cons_succ] at z0 z1 z2 z3 z4 z5 z6 z7
  have zl := HI4.out.lt
  have zf := fun j => HI4.out.frozen j
  clear z
  refine (specAt a c ws 0 _ (HR.out.grew HE4.out) (by omega)).mono ?_
  rintro e W ⟨rfl, rfl⟩
  go_wp2_with fail
  refine (specNum (atS ws 3) _ (HW.out _)).mono ?_
  rintro e w5 ⟨rfl, g⟩
  have HI5 := Lib.hid (HI4.out.grew g)
  have HR5 := Lib.hid (HR4.out.grew g)
  have HE5 := Lib.hid (grew_tr HE4.out g)
  clear g HI4 HR4 HE4 y0 y1 y2 y3 y4 y5 y6 y7 yl yf z0 z1 z2 z3 z4 z5 z6 z7 zl zf
  have y := fun j => HR5.out.cell j
  have y0 := y 0
  have y1 := y 1
  have y2 := y 2
  have y3 := y 3
  have y4 := y 4
  have y5 := y 5
  have y6 := y 6
  have y7 := y 7
  simp only [List.getElem?_toArray, List.getElem?_cons_zero, List.getElem?_cons_succ] at y0 y1 y2 y3 y4 y5 y6 y7
  have yl := HR5.out.lt
  have yf := fun j => HR5.out.frozen j
  clear y
  have z := fun j => HI5.out.cell j
  have z0 := z 0
  have z1 := z 1
  have z2 := z 2
  have z3 := z 3
  have z4 := z 4
  have z5 := z 5
  have z6 := z 6
  have z7 := z 7
  simp only [List.getElem?_toArray, List.getElem?_cons_zero, List.getElem?_cons_succ] at z0 z1 z2 z3 z4 z5 z6 z7
  have zl := HI5.out.lt
  have zf := fun j => HI5.out.frozen j
  clear z
  go_upto_region 38 with fail
  refine wp_letC ?_
  intro E6 hE
  have HI6 : Hid (Blk E6 w1.heap.size 38 #[.int .i64 (5), .int .i64 (varOfS (atS ws 1)), .int .i64 0, .int .i64 0, .int .i64 0, .int .i64 (numOfS (atS ws 2)), .int .i64 (numOfS (atS ws 3)), .int .i64 0]) := Lib.hid (by rw [hE]; exact (HI5.out.set_ 6 (.int .i64 (numOfS (atS ws 3)))))
  have HR6 : Hid (Blk E6 w.heap.size 38 #[.int .i64 0, .int .i64 0, .int .i64 0, .int .i64 0, .int .i64 0, .int .i64 0, .int .i64 0, .int .i64 0]) := Lib.hid (by rw [hE]; exact (HR5.out.far (p := ⟨w1.heap.size, 6, none⟩) HN.out (.int .i64 (numOfS (atS ws 3)))))
  have HE6 : Hid (Grew w E6) := Lib.hid (by rw [hE]; repeat (first | exact HE5.out | refine grew_set ?_ HNL.out _))
  clear hE HI5 HR5 HE5 y0 y1 y2 y3 y4 y5 y6 y7 yl yf z0 z1 z2 z3 z4 z5 z6 z7 zl zf
  have y := fun j => HR6.out.cell j
  have y0 := y 0
  have y1 := y 1
  have y2 := y 2
  have y3 := y 3
  have y4 := y 4
  have y5 := y 5
  have y6 := y 6
  have y7 := y 7
  simp only [List.getElem?_toArray, List.getElem?_cons_zero, List.getElem?_cons_succ] at y0 y1 y2 y3 y4 y5 y6 y7
  have yl := HR6.out.lt
  have yf := fun j => HR6.out.frozen j
  clear y
  have z := fun j => HI6.out.cell j
  have z0 := z 0
  have z1 := z 1
  have z2 := z 2
  have z3 := z 3
  have z4 := z 4
  have z5 := z 5
  have z6 := z 6
  have z7 := z 7
  simp only [List.getElem?_toArray, List.getElem?_cons_zero, List.getElem?_cons_succ] at z0 z1 z2 z3 z4 z5 z6 z7
  have zl := HI6.out.lt
  have zf := fun j => HI6.out.frozen j
  clear z
  have HRZ := HR6; have HEZ := HE6; clear HR6 HE6
  go_wp2
  refine body_letW ?_
  intro E hE
  have HBE : Blk E w.heap.size 38 #[.int .i64 (5), .int .i64 (varOfS (atS ws 1)), .int .i64 0, .int .i64 0, .int .i64 0, .int .i64 (numOfS (atS ws 2)), .int .i64 (numOfS (atS ws 3)), .int .i64 0] := by rw [hE]; exact ((((((((HRZ.out.set_ 0 _).set_ 1 _).set_ 2 _).set_ 3 _).set_ 4 _).set_ 5 _).set_ 6 _).set_ 7 _)
  have GE : Grew w E := by rw [hE]; repeat (first | with_reducible exact HEZ.out | with_reducible refine grew_set ?_ (by exact Nat.le_refl _) _)
  clear hE
  have k0 := HBE.cell 0
  have k1 := HBE.cell 1
  have k2 := HBE.cell 2
  have k3 := HBE.cell 3
  have k4 := HBE.cell 4
  have k5 := HBE.cell 5
  have k6 := HBE.cell 6
  have k7 := HBE.cell 7
  simp only [List.getElem?_toArray, List.getElem?_cons_zero, List.getElem?_cons_succ] at k0 k1 k2 k3 k4 k5 k6 k7
  have kl := HBE.lt
  refine bodyPost_ret (by simp [results, Tryz.results35, go_sem, k0, k1, k2, k3, k4, k5, k6, k7, kl]; try rfl) rfl ?_
  exact ⟨rfl, GE⟩

set_option maxRecDepth 100000 in
set_option maxHeartbeats 8000000 in
theorem specStep5b (a : Option Addr) (c : Nat) (ws : List (List UInt8)) (w : World) (hr : Rd w a ws.length 1 (strs ws)) (hw : ∀ k, (atS ws k).length ≤ 1100000) (ho : opOfS (atS ws 0) = 5) (ha : (atS ws 0 == [97, 110, 121]) = false) :
    Calls Tryz.prog 35 #[.slice a ws.length c] w fun e w' => e = .returned (.agg #[.int .i64 (5), .int .i64 (varOfS (atS ws 1)), .int .i64 0, .int .i64 0, .int .i64 0, .int .i64 (numOfS (atS ws 2)), .int .i64 (numOfS (atS ws 2)), .int .i64 0]) ∧ Grew w w' := by
  have HW := Lib.hid hw
  have HR := Lib.hid hr
  have HOP := fun w => specOp (atS ws 0) w
  rw [ho] at HOP
  clear ho
  have HO := Lib.hid HOP
  clear hr hw HOP
  go_enter Tryz.func35, Tryz.ntmps35
  go_wp2_with fail
  have HB := Lib.hid (Blk.new w 38 #[.int .i64 0, .int .i64 0, .int .i64 0, .int .i64 0, .int .i64 0, .int .i64 0, .int .i64 0, .int .i64 0])
  have HG := Lib.hid (grew_al (Below.refl _ w) (.cells #[.int .i64 0, .int .i64 0, .int .i64 0, .int .i64 0, .int .i64 0, .int .i64 0, .int .i64 0, .int .i64 0] 38))
  refine (specAt a c ws 1 _ (HR.out.grew HG.out) (by omega)).mono ?_
  rintro e W ⟨rfl, rfl⟩
  go_wp2_with fail
  refine (specAt a c ws 2 _ (HR.out.grew HG.out) (by omega)).mono ?_
  rintro e W ⟨rfl, rfl⟩
  go_wp2_with fail
  refine (specAt a c ws 3 _ (HR.out.grew HG.out) (by omega)).mono ?_
  rintro e W ⟨rfl, rfl⟩
  go_wp2_with fail
  refine (specAt a c ws 0 _ (HR.out.grew HG.out) (by omega)).mono ?_
  rintro e W ⟨rfl, rfl⟩
  go_wp2_with fail
  refine (HO.out _).mono ?_
  rintro e w1 ⟨rfl, g1⟩
  have HB1 := Lib.hid (HB.out.grew g1)
  have HG1 := Lib.hid (grew_tr HG.out g1)
  have HI1 := Lib.hid (Blk.new w1 38 #[.int .i64 (5), .int .i64 0, .int .i64 0, .int .i64 0, .int .i64 0, .int .i64 0, .int .i64 0, .int .i64 0])
  clear g1 HB HG HO
  go_wp2_with fail
  have HN := Lib.hid (show w.heap.size ≠ w1.heap.size by have := HB1.out.lt; omega)
  have HNL := Lib.hid (show w.heap.size ≤ w1.heap.size by have := HB1.out.lt; omega)
  have HI0 := HI1; have HR0 := HB1; have HE0 := HG1; clear HI1 HB1 HG1
  refine calls_letW ?_
  intro E1 hE
  have HI1 : Hid (Blk E1 w1.heap.size 38 #[.int .i64 (5), .int .i64 0, .int .i64 0, .int .i64 0, .int .i64 0, .int .i64 0, .int .i64 0, .int .i64 0]) := Lib.hid (by rw [hE]; exact HI0.out)
  have HR1 : Hid (Blk E1 w.heap.size 38 #[.int .i64 0, .int .i64 0, .int .i64 0, .int .i64 0, .int .i64 0, .int .i64 0, .int .i64 0, .int .i64 0]) := Lib.hid (by rw [hE]; exact HR0.out.alloc _)
  have HE1 : Hid (Grew w E1) := Lib.hid (by rw [hE]; exact grew_al HE0.out _)
  clear hE HI0 HR0 HE0
  have y := fun j => HR1.out.cell j
  have y0 := y 0
  have y1 := y 1
  have y2 := y 2
  have y3 := y 3
  have y4 := y 4
  have y5 := y 5
  have y6 := y 6
  have y7 := y 7
  simp only [List.getElem?_toArray, List.getElem?_cons_zero, List.getElem?_cons_succ] at y0 y1 y2 y3 y4 y5 y6 y7
  have yl := HR1.out.lt
  have yf := fun j => HR1.out.frozen j
  clear y
  have z := fun j => HI1.out.cell j
  have z0 := z 0
  have z1 := z 1
  have z2 := z 2
  have z3 := z 3
  have z4 := z 4
  have z5 := z 5
  have z6 := z 6
  have z7 := z 7
  simp only [List.getElem?_toArray, List.getElem?_cons_zero, List.getElem?_cons_succ] at z0 z1 z2 z3 z4 z5 z6 z7
  have zl := HI1.out.lt
  have zf := fun j => HI1.out.frozen j
  clear z
  refine (specVarOf (atS ws 1) _).mono ?_
  rintro e W ⟨rfl, rfl⟩
  go_wp2_with fail
  refine calls_letW ?_
  intro E2 hE
  have HI2 : Hid (Blk E2 w1.heap.size 38 #[.int .i64 (5), .int .i64 (varOfS (atS ws 1)), .int .i64 0, .int .i64 0, .int .i64 0, .int .i64 0, .int .i64 0, .int .i64 0]) := Lib.hid (by rw [hE]; exact (HI1.out.set_ 1 (.int .i64 (varOfS (atS ws 1)))))
  have HR2 : Hid (Blk E2 w.heap.size 38 #[.int .i64 0, .int .i64 0, .int .i64 0, .int .i64 0, .int .i64 0, .int .i64 0, .int .i64 0, .int .i64 0]) := Lib.hid (by rw [hE]; exact (HR1.out.far (p := ⟨w1.heap.size, 1, none⟩) HN.out (.int .i64 (varOfS (atS ws 1)))))
  have HE2 : Hid (Grew w E2) := Lib.hid (by rw [hE]; repeat (first | exact HE1.out | refine grew_set ?_ HNL.out _))
  clear hE HI1 HR1 HE1 y0 y1 y2 y3 y4 y5 y6 y7 yl yf z0 z1 z2 z3 z4 z5 z6 z7 zl zf
  have y := fun j => HR2.out.cell j
  have y0 := y 0
  have y1 := y 1
  have y2 := y 2
  have y3 := y 3
  have y4 := y 4
  have y5 := y 5
  have y6 := y 6
  have y7 := y 7
  simp only [List.getElem?_toArray, List.getElem?_cons_zero, List.getElem?_cons_succ] at y0 y1 y2 y3 y4 y5 y6 y7
  have yl := HR2.out.lt
  have yf := fun j => HR2.out.frozen j
  clear y
  have z := fun j => HI2.out.cell j
  have z0 := z 0
  have z1 := z 1
  have z2 := z 2
  have z3 := z 3
  have z4 := z 4
  have z5 := z 5
  have z6 := z 6
  have z7 := z 7
  simp only [List.getElem?_toArray, List.getElem?_cons_zero, List.getElem?_cons_succ] at z0 z1 z2 z3 z4 z5 z6 z7
  have zl := HI2.out.lt
  have zf := fun j => HI2.out.frozen j
  clear z
  refine (specNum (atS ws 2) _ (HW.out _)).mono ?_
  rintro e w3 ⟨rfl, g⟩
  have HI3 := Lib.hid (HI2.out.grew g)
  have HR3 := Lib.hid (HR2.out.grew g)
  have HE3 := Lib.hid (grew_tr HE2.out g)
  clear g HI2 HR2 HE2 y0 y1 y2 y3 y4 y5 y6 y7 yl yf z0 z1 z2 z3 z4 z5 z6 z7 zl zf
  have y := fun j => HR3.out.cell j
  have y0 := y 0
  have y1 := y 1
  have y2 := y 2
  have y3 := y 3
  have y4 := y 4
  have y5 := y 5
  have y6 := y 6
  have y7 := y 7
  simp only [List.getElem?_toArray, List.getElem?_cons_zero, List.getElem?_cons_succ] at y0 y1 y2 y3 y4 y5 y6 y7
  have yl := HR3.out.lt
  have yf := fun j => HR3.out.frozen j
  clear y
  have z := fun j => HI3.out.cell j
  have z0 := z 0
  have z1 := z 1
  have z2 := z 2
  have z3 := z 3
  have z4 := z 4
  have z5 := z 5
  have z6 := z 6
  have z7 := z 7
  simp only [List.getElem?_toArray, List.getElem?_cons_zero, List.getElem?_cons_succ] at z0 z1 z2 z3 z4 z5 z6 z7
  have zl := HI3.out.lt
  have zf := fun j => HI3.out.frozen j
  clear z
  go_wp2_with fail
  refine calls_letW ?_
  intro E4 hE
  have HI4 : Hid (Blk E4 w1.heap.size 38 #[.int .i64 (5), .int .i64 (varOfS (atS ws 1)), .int .i64 0, .int .i64 0, .int .i64 0, .int .i64 (numOfS (atS ws 2)), .int .i64 (numOfS (atS ws 2)), .int .i64 0]) := Lib.hid (by rw [hE]; exact ((HI3.out.set_ 5 (.int .i64 (numOfS (atS ws 2)))).set_ 6 (.int .i64 (numOfS (atS ws 2)))))
  have HR4 : Hid (Blk E4 w.heap.size 38 #[.int .i64 0, .int .i64 0, .int .i64 0, .int .i64 0, .int .i64 0, .int .i64 0, .int .i64 0, .int .i64 0]) := Lib.hid (by rw [hE]; exact ((HR3.out.far (p := ⟨w1.heap.size, 5, none⟩) HN.out (.int .i64 (numOfS (atS ws 2)))).far (p := ⟨w1.heap.size, 6, none⟩) HN.out (.int .i64 (numOfS (atS ws 2)))))
  have HE4 : Hid (Grew w E4) := Lib.hid (by rw [hE]; repeat (first | exact HE3.out | refine grew_set ?_ HNL.out _))
  clear hE HI3 HR3 HE3 y0 y1 y2 y3 y4 y5 y6 y7 yl yf z0 z1 z2 z3 z4 z5 z6 z7 zl zf
  have y := fun j => HR4.out.cell j
  have y0 := y 0
  have y1 := y 1
  have y2 := y 2
  have y3 := y 3
  have y4 := y 4
  have y5 := y 5
  have y6 := y 6
  have y7 := y 7
  simp only [List.getElem?_toArray, List.getElem?_cons_zero, List.getElem?_cons_succ] at y0 y1 y2 y3 y4 y5 y6 y7
  have yl := HR4.out.lt
  have yf := fun j => HR4.out.frozen j
  clear y
  have z := fun j => HI4.out.cell j
  have z0 := z 0
  have z1 := z 1
  have z2 := z 2
  have z3 := z 3
  have z4 := z 4
  have z5 := z 5
  have z6 := z 6
  have z7 := z 7
  simp only [List.getElem?_toArray, List.getElem?_cons_zero, List.getElem?_cons_succ] at z0 z1 z2 z3 z4 z5 z6 z7
  have zl := HI4.out.lt
  have zf := fun j => HI4.out.frozen j
  clear z
  refine (specAt a c ws 0 _ (HR.out.grew HE4.out) (by omega)).mono ?_
  rintro e W ⟨rfl, rfl⟩
  go_upto_region 38 with fail
  have HRZ := HR4; have HEZ := HE4; clear HR4 HE4
  go_wp2
  refine body_letW ?_
  intro E hE
  have HBE : Blk E w.heap.size 38 #[.int .i64 (5), .int .i64 (varOfS (atS ws 1)), .int .i64 0, .int .i64 0, .int .i64 0, .int .i64 (numOfS (atS ws 2)), .int .i64 (numOfS (atS ws 2)), .int .i64 0] := by rw [hE]; exact ((((((((HRZ.out.set_ 0 _).set_ 1 _).set_ 2 _).set_ 3 _).set_ 4 _).set_ 5 _).set_ 6 _).set_ 7 _)
  have GE : Grew w E := by rw [hE]; repeat (first | with_reducible exact HEZ.out | with_reducible refine grew_set ?_ (by exact Nat.le_refl _) _)
  clear hE
  have k0 := HBE.cell 0
  have k1 := HBE.cell 1
  have k2 := HBE.cell 2
  have k3 := HBE.cell 3
  have k4 := HBE.cell 4
  have k5 := HBE.cell 5
  have k6 := HBE.cell 6
  have k7 := HBE.cell 7
  simp only [List.getElem?_toArray, List.getElem?_cons_zero, List.getElem?_cons_succ] at k0 k1 k2 k3 k4 k5 k6 k7
  have kl := HBE.lt
  refine bodyPost_ret (by simp [results, Tryz.results35, go_sem, k0, k1, k2, k3, k4, k5, k6, k7, kl]; try rfl) rfl ?_
  exact ⟨rfl, GE⟩

set_option maxRecDepth 100000 in
set_option maxHeartbeats 8000000 in
theorem specStep6 (a : Option Addr) (c : Nat) (ws : List (List UInt8)) (w : World) (hr : Rd w a ws.length 1 (strs ws)) (hw : ∀ k, (atS ws k).length ≤ 1100000) (ho : opOfS (atS ws 0) = 6) :
    Calls Tryz.prog 35 #[.slice a ws.length c] w fun e w' => e = .returned (.agg #[.int .i64 (6), .int .i64 (varOfS (atS ws 1)), .int .i64 (varOfS (atS ws 2)), .int .i64 0, .int .i64 0, .int .i64 0, .int .i64 0, .int .i64 0]) ∧ Grew w w' := by
  have HW := Lib.hid hw
  have HR := Lib.hid hr
  have HOP := fun w => specOp (atS ws 0) w
  rw [ho] at HOP
  clear ho
  have HO := Lib.hid HOP
  clear hr hw HOP
  go_enter Tryz.func35, Tryz.ntmps35
  go_wp2_with fail
  have HB := Lib.hid (Blk.new w 38 #[.int .i64 0, .int .i64 0, .int .i64 0, .int .i64 0, .int .i64 0, .int .i64 0, .int .i64 0, .int .i64 0])
  have HG := Lib.hid (grew_al (Below.refl _ w) (.cells #[.int .i64 0, .int .i64 0, .int .i64 0, .int .i64 0, .int .i64 0, .int .i64 0, .int .i64 0, .int .i64 0] 38))
  refine (specAt a c ws 1 _ (HR.out.grew HG.out) (by omega)).mono ?_
  rintro e W ⟨rfl, rfl⟩
  go_wp2_with fail
  refine (specAt a c ws 2 _ (HR.out.grew HG.out) (by omega)).mono ?_
  rintro e W ⟨rfl, rfl⟩
  go_wp2_with fail
  refine (specAt a c ws 3 _ (HR.out.grew HG.out) (by omega)).mono ?_
  rintro e W ⟨rfl, rfl⟩
  go_wp2_with fail
  refine (specAt a c ws 0 _ (HR.out.grew HG.out) (by omega)).mono ?_
  rintro e W ⟨rfl, rfl⟩
  go_wp2_with fail
  refine (HO.out _).mono ?_
  rintro e w1 ⟨rfl, g1⟩
  have HB1 := Lib.hid (HB.out.grew g1)
  have HG1 := Lib.hid (grew_tr HG.out g1)
  have HI1 := Lib.hid (Blk.new w1 38 #[.int .i64 (6), .int .i64 0, .int .i64 0, .int .i64 0, .int .i64 0, .int .i64 0, .int .i64 0, .int .i64 0])
  clear g1 HB HG HO
  go_wp2_with fail
  have HN := Lib.hid (show w.heap.size ≠ w1.heap.size by have := HB1.out.lt; omega)
  have HNL := Lib.hid (show w.heap.size ≤ w1.heap.size by have := HB1.out.lt; omega)
  have HI0 := HI1; have HR0 := HB1; have HE0 := HG1; clear HI1 HB1 HG1
  refine calls_letW ?_
  intro E1 hE
  have HI1 : Hid (Blk E1 w1.heap.size 38 #[.int .i64 (6), .int .i64 0, .int .i64 0, .int .i64 0, .int .i64 0, .int .i64 0, .int .i64 0, .int .i64 0]) := Lib.hid (by rw [hE]; exact HI0.out)
  have HR1 : Hid (Blk E1 w.heap.size 38 #[.int .i64 0, .int .i64 0, .int .i64 0, .int .i64 0, .int .i64 0, .int .i64 0, .int .i64 0, .int .i64 0]) := Lib.hid (by rw [hE]; exact HR0.out.alloc _)
  have HE1 : Hid (Grew w E1) := Lib.hid (by rw [hE]; exact grew_al HE0.out _)
  clear hE HI0 HR0 HE0
  have y := fun j => HR1.out.cell j
  have y0 := y 0
  have y1 := y 1
  have y2 := y 2
  have y3 := y 3
  have y4 := y 4
  have y5 := y 5
  have y6 := y 6
  have y7 := y 7
  simp only [List.getElem?_toArray, List.getElem?_cons_zero, List.getElem?_cons_succ] at y0 y1 y2 y3 y4 y5 y6 y7
  have yl := HR1.out.lt
  have yf := fun j => HR1.out.frozen j
  clear y
  have z := fun j => HI1.out.cell j
  have z0 := z 0
  have z1 := z 1
  have z2 := z 2
  have z3 := z 3
  have z4 := z 4
  have z5 := z 5
  have z6 := z 6
  have z7 := z 7
  simp only [List.getElem?_toArray, List.getElem?_cons_zero, List.getElem?_cons_succ] at z0 z1 z2 z3 z4 z5 z6 z7
  have zl := HI1.out.lt
  have zf := fun j => HI1.out.frozen j
  clear z
  refine (specVarOf (atS ws 1) _).mono ?_
  rintro e W ⟨rfl, rfl⟩
  go_wp2_with fail
  refine calls_letW ?_
  intro E2 hE
  have HI2 : Hid (Blk E2 w1.heap.size 38 #[.int .i64 (6), .int .i64 (varOfS (atS ws 1)), .int .i64 0, .int .i64 0, .int .i64 0, .int .i64 0, .int .i64 0, .int .i64 0]) := Lib.hid (by rw [hE]; exact (HI1.out.set_ 1 (.int .i64 (varOfS (atS ws 1)))))
  have HR2 : Hid (Blk E2 w.heap.size 38 #[.int .i64 0, .int .i64 0, .int .i64 0, .int .i64 0, .int .i64 0, .int .i64 0, .int .i64 0, .int .i64 0]) := Lib.hid (by rw [hE]; exact (HR1.out.far (p := ⟨w1.heap.size, 1, none⟩) HN.out (.int .i64 (varOfS (atS ws 1)))))
  have HE2 : Hid (Grew w E2) := Lib.hid (by rw [hE]; repeat (first | exact HE1.out | refine grew_set ?_ HNL.out _))
  clear hE HI1 HR1 HE1 y0 y1 y2 y3 y4 y5 y6 y7 yl yf z0 z1 z2 z3 z4 z5 z6 z7 zl zf
  have y := fun j => HR2.out.cell j
  have y0 := y 0
  have y1 := y 1
  have y2 := y 2
  have y3 := y 3
  have y4 := y 4
  have y5 := y 5
  have y6 := y 6
  have y7 := y 7
  simp only [List.getElem?_toArray, List.getElem?_cons_zero, List.getElem?_cons_succ] at y0 y1 y2 y3 y4 y5 y6 y7
  have yl := HR2.out.lt
  have yf := fun j => HR2.out.frozen j
  clear y
  have z := fun j => HI2.out.cell j
  have z0 := z 0
  have z1 := z 1
  have z2 := z 2
  have z3 := z 3
  have z4 := z 4
  have z5 := z 5
  have z6 := z 6
  have z7 := z 7
  simp only [List.getElem?_toArray, List.getElem?_cons_zero, List.getElem?_cons_succ] at z0 z1 z2 z3 z4 z5 z6 z7
  have zl := HI2.out.lt
  have zf := fun j => HI2.out.frozen j
  clear z
  refine (specVarOf (atS ws 2) _).mono ?_
  rintro e W ⟨rfl, rfl⟩
  go_upto_region 38 with fail
  refine wp_letC ?_
  intro E3 hE
  have HI3 : Hid (Blk E3 w1.heap.size 38 #[.int .i64 (6), .int .i64 (varOfS (atS ws 1)), .int .i64 (varOfS (atS ws 2)), .int .i64 0, .int .i64 0, .int .i64 0, .int .i64 0, .int .i64 0]) := Lib.hid (by rw [hE]; exact (HI2.out.set_ 2 (.int .i64 (varOfS (atS ws 2)))))
  have HR3 : Hid (Blk E3 w.heap.size 38 #[.int .i64 0, .int .i64 0, .int .i64 0, .int .i64 0, .int .i64 0, .int .i64 0, .int .i64 0, .int .i64 0]) := Lib.hid (by rw [hE]; exact (HR2.out.far (p := ⟨w1.heap.size, 2, none⟩) HN.out (.int .i64 (varOfS (atS ws 2)))))
  have HE3 : Hid (Grew w E3) := Lib.hid (by rw [hE]; repeat (first | exact HE2.out | refine grew_set ?_ HNL.out _))
  clear hE HI2 HR2 HE2 y0 y1 y2 y3 y4 y5 y6 y7 yl yf z0 z1 z2 z3 z4 z5 z6 z7 zl zf
  have y := fun j => HR3.out.cell j
  have y0 := y 0
  have y1 := y 1
  have y2 := y 2
  have y3 := y 3
  have y4 := y 4
  have y5 := y 5
  have y6 := y 6
  have y7 := y 7
  simp only [List.getElem?_toArray, List.getElem?_cons_zero, List.getElem?_cons_succ] at y0 y1 y2 y3 y4 y5 y6 y7
  have yl := HR3.out.lt
  have yf := fun j => HR3.out.frozen j
  clear y
  have z := fun j => HI3.out.cell j
  have z0 := z 0
  have z1 := z 1
  have z2 := z 2
  have z3 := z 3
  have z4 := z 4
  have z5 := z 5
  have z6 := z 6
  have z7 := z 7
  simp only [List.getElem?_toArray, List.getElem?_cons_zero, List.getElem?_cons_succ] at z0 z1 z2 z3 z4 z5 z6 z7
  have zl := HI3.out.lt
  have zf := fun j => HI3.out.frozen j
  clear z
  have HRZ := HR3; have HEZ := HE3; clear HR3 HE3
  go_wp2
  refine body_letW ?_
  intro E hE
  have HBE : Blk E w.heap.size 38 #[.int .i64 (6), .int .i64 (varOfS (atS ws 1)), .int .i64 (varOfS (atS ws 2)), .int .i64 0, .int .i64 0, .int .i64 0, .int .i64 0, .int .i64 0] := by rw [hE]; exact ((((((((HRZ.out.set_ 0 _).set_ 1 _).set_ 2 _).set_ 3 _).set_ 4 _).set_ 5 _).set_ 6 _).set_ 7 _)
  have GE : Grew w E := by rw [hE]; repeat (first | with_reducible exact HEZ.out | with_reducible refine grew_set ?_ (by exact Nat.le_refl _) _)
  clear hE
  have k0 := HBE.cell 0
  have k1 := HBE.cell 1
  have k2 := HBE.cell 2
  have k3 := HBE.cell 3
  have k4 := HBE.cell 4
  have k5 := HBE.cell 5
  have k6 := HBE.cell 6
  have k7 := HBE.cell 7
  simp only [List.getElem?_toArray, List.getElem?_cons_zero, List.getElem?_cons_succ] at k0 k1 k2 k3 k4 k5 k6 k7
  have kl := HBE.lt
  refine bodyPost_ret (by simp [results, Tryz.results35, go_sem, k0, k1, k2, k3, k4, k5, k6, k7, kl]; try rfl) rfl ?_
  exact ⟨rfl, GE⟩

set_option maxRecDepth 100000 in
set_option maxHeartbeats 8000000 in
theorem specStep7 (a : Option Addr) (c : Nat) (ws : List (List UInt8)) (w : World) (hr : Rd w a ws.length 1 (strs ws)) (hw : ∀ k, (atS ws k).length ≤ 1100000) (ho : opOfS (atS ws 0) = 7) :
    Calls Tryz.prog 35 #[.slice a ws.length c] w fun e w' => e = .returned (.agg #[.int .i64 (7), .int .i64 0, .int .i64 (varOfS (atS ws 1)), .int .i64 (varOfS (atS ws 2)), .int .i64 0, .int .i64 0, .int .i64 0, .int .i64 0]) ∧ Grew w w' := by
  have HW := Lib.hid hw
  have HR := Lib.hid hr
  have HOP := fun w => specOp (atS ws 0) w
  rw [ho] at HOP
  clear ho
  have HO := Lib.hid HOP
  clear hr hw HOP
  go_enter Tryz.func35, Tryz.ntmps35
  go_wp2_with fail
  have HB := Lib.hid (Blk.new w 38 #[.int .i64 0, .int .i64 0, .int .i64 0, .int .i64 0, .int .i64 0, .int .i64 0, .int .i64 0, .int .i64 0])
  have HG := Lib.hid (grew_al (Below.refl _ w) (.cells #[.int .i64 0, .int .i64 0, .int .i64 0, .int .i64 0, .int .i64 0, .int .i64 0, .int .i64 0, .int .i64 0] 38))
  refine (specAt a c ws 1 _ (HR.out.grew HG.out) (by omega)).mono ?_
  rintro e W ⟨rfl, rfl⟩
  go_wp2_with fail
  refine (specAt a c ws 2 _ (HR.out.grew HG.out) (by omega)).mono ?_
  rintro e W ⟨rfl, rfl⟩
  go_wp2_with fail
  refine (specAt a c ws 3 _ (HR.out.grew HG.out) (by omega)).mono ?_
  rintro e W ⟨rfl, rfl⟩
  go_wp2_with fail
  refine (specAt a c ws 0 _ (HR.out.grew HG.out) (by omega)).mono ?_
  rintro e W ⟨rfl, rfl⟩
  go_wp2_with fail
  refine (HO.out _).mono ?_
  rintro e w1 ⟨rfl, g1⟩
  have HB1 := Lib.hid (HB.out.grew g1)
  have HG1 := Lib.hid (grew_tr HG.out g1)
  have HI1 := Lib.hid (Blk.new w1 38 #[.int .i64 (7), .int .i64 0, .int .i64 0, .int .i64 0, .int .i64 0, .int .i64 0, .int .i64 0, .int .i64 0])
  clear g1 HB HG HO
  go_wp2_with fail
  have HN := Lib.hid (show w.heap.size ≠ w1.heap.size by have := HB1.out.lt; omega)
  have HNL := Lib.hid (show w.heap.size ≤ w1.heap.size by have := HB1.out.lt; omega)
  have HI0 := HI1; have HR0 := HB1; have HE0 := HG1; clear HI1 HB1 HG1
  refine calls_letW ?_
  intro E1 hE
  have HI1 : Hid (Blk E1 w1.heap.size 38 #[.int .i64 (7), .int .i64 0, .int .i64 0, .int .i64 0, .int .i64 0, .int .i64 0, .int .i64 0, .int .i64 0]) := Lib.hid (by rw [hE]; exact HI0.out)
  have HR1 : Hid (Blk E1 w.heap.size 38 #[.int .i64 0, .int .i64 0, .int .i64 0, .int .i64 0, .int .i64 0, .int .i64 0, .int .i64 0, .int .i64 0]) := Lib.hid (by rw [hE]; exact HR0.out.alloc _)
  have HE1 : Hid (Grew w E1) := Lib.hid (by rw [hE]; exact grew_al HE0.out _)
  clear hE HI0 HR0 HE0
  have y := fun j => HR1.out.cell j
  have y0 := y 0
  have y1 := y 1
  have y2 := y 2
  have y3 := y 3
  have y4 := y 4
  have y5 := y 5
  have y6 := y 6
  have y7 := y 7
  simp only [List.getElem?_toArray, List.getElem?_cons_zero, List.getElem?_cons_succ] at y0 y1 y2 y3 y4 y5 y6 y7
  have yl := HR1.out.lt
  have yf := fun j => HR1.out.frozen j
  clear y
  have z := fun j => HI1.out.cell j
  have z0 := z 0
  have z1 := z 1
  have z2 := z 2
  have z3 := z 3
  have z4 := z 4
  have z5 := z 5
  have z6 := z 6
  have z7 := z 7
  simp only [List.getElem?_toArray, List.getElem?_cons_zero, List.getElem?_cons_succ] at z0 z1 z2 z3 z4 z5 z6 z7
  have zl := HI1.out.lt
  have zf := fun j => HI1.out.frozen j
  clear z
  refine (specVarOf (atS ws 1) _).mono ?_
  rintro e W ⟨rfl, rfl⟩
  go_wp2_with fail
  refine calls_letW ?_
  intro E2 hE
  have HI2 : Hid (Blk E2 w1.heap.size 38 #[.int .i64 (7), .int .i64 0, .int .i64 (varOfS (atS ws 1)), .int .i64 0, .int .i64 0, .int .i64 0, .int .i64 0, .int .i64 0]) := Lib.hid (by rw [hE]; exact (HI1.out.set_ 2 (.int .i64 (varOfS (atS ws 1)))))
  have HR2 : Hid (Blk E2 w.heap.size 38 #[.int .i64 0, .int .i64 0, .int .i64 0, .int .i64 0, .int .i64 0, .int .i64 0, .int .i64 0, .int .i64 0]) := Lib.hid (by rw [hE]; exact (HR1.out.far (p := ⟨w1.heap.size, 2, none⟩) HN.out (.int .i64 (varOfS (atS ws 1)))))
  have HE2 : Hid (Grew w E2) := Lib.hid (by rw [hE]; repeat (first | exact HE1.out | refine grew_set ?_ HNL.out _))
  clear hE HI1 HR1 HE1 y0 y1 y2 y3 y4 y5 y6 y7 yl yf z0 z1 z2 z3 z4 z5 z6 z7 zl zf
  have y := fun j => HR2.out.cell j
  have y0 := y 0
  have y1 := y 1
  have y2 := y 2
  have y3 := y 3
  have y4 := y 4
  have y5 := y 5
  have y6 := y 6
  have y7 := y 7
  simp only [List.getElem?_toArray, List.getElem?_cons_zero, List.getElem?_cons_succ] at y0 y1 y2 y3 y4 y5 y6 y7
  have yl := HR2.out.lt
  have yf := fun j => HR2.out.frozen j
  clear y
  have z := fun j => HI2.out.cell j
  have z0 := z 0
  have z1 := z 1
  have z2 := z 2
  have z3 := z 3
  have z4 := z 4
  have z5 := z 5
  have z6 := z 6
  have z7 := z 7
  simp only [List.getElem?_toArray, List.getElem?_cons_zero, List.getElem?_cons_succ] at z0 z1 z2 z3 z4 z5 z6 z7
  have zl := HI2.out.lt
  have zf := fun j => HI2.out.frozen j
  clear z
  refine (specVarOf (atS ws 2) _).mono ?_
  rintro e W ⟨rfl, rfl⟩
  go_upto_region 38 with fail
  refine wp_letC ?_
  intro E3 hE
  have HI3 : Hid (Blk E3 w1.heap.size 38 #[.int .i64 (7), .int .i64 0, .int .i64 (varOfS (atS ws 1)), .int .i64 (varOfS (atS ws 2)), .int .i64 0, .int .i64 0, .int .i64 0, .int .i64 0]) := Lib.hid (by rw [hE]; exact (HI2.out.set_ 3 (.int .i64 (varOfS (atS ws 2)))))
  have HR3 : Hid (Blk E3 w.heap.size 38 #[.int .i64 0, .int .i64 0, .int .i64 0, .int .i64 0, .int .i64 0, .int .i64 0, .int .i64 0, .int .i64 0]) := Lib.hid (by rw [hE]; exact (HR2.out.far (p := ⟨w1.heap.size, 3, none⟩) HN.out (.int .i64 (varOfS (atS ws 2)))))
  have HE3 : Hid (Grew w E3) := Lib.hid (by rw [hE]; repeat (first | exact HE2.out | refine grew_set ?_ HNL.out _))
  clear hE HI2 HR2 HE2 y0 y1 y2 y3 y4 y5 y6 y7 yl yf z0 z1 z2 z3 z4 z5 z6 z7 zl zf
  have y := fun j => HR3.out.cell j
  have y0 := y 0
  have y1 := y 1
  have y2 := y 2
  have y3 := y 3
  have y4 := y 4
  have y5 := y 5
  have y6 := y 6
  have y7 := y 7
  simp only [List.getElem?_toArray, List.getElem?_cons_zero, List.getElem?_cons_succ] at y0 y1 y2 y3 y4 y5 y6 y7
  have yl := HR3.out.lt
  have yf := fun j => HR3.out.frozen j
  clear y
  have z := fun j => HI3.out.cell j
  have z0 := z 0
  have z1 := z 1
  have z2 := z 2
  have z3 := z 3
  have z4 := z 4
  have z5 := z 5
  have z6 := z 6
  have z7 := z 7
  simp only [List.getElem?_toArray, List.getElem?_cons_zero, List.getElem?_cons_succ] at z0 z1 z2 z3 z4 z5 z6 z7
  have zl := HI3.out.lt
  have zf := fun j => HI3.out.frozen j
  clear z
  have HRZ := HR3; have HEZ := HE3; clear HR3 HE3
  go_wp2
  refine body_letW ?_
  intro E hE
  have HBE : Blk E w.heap.size 38 #[.int .i64 (7), .int .i64 0, .int .i64 (varOfS (atS ws 1)), .int .i64 (varOfS (atS ws 2)), .int .i64 0, .int .i64 0, .int .i64 0, .int .i64 0] := by rw [hE]; exact ((((((((HRZ.out.set_ 0 _).set_ 1 _).set_ 2 _).set_ 3 _).set_ 4 _).set_ 5 _).set_ 6 _).set_ 7 _)
  have GE : Grew w E := by rw [hE]; repeat (first | with_reducible exact HEZ.out | with_reducible refine grew_set ?_ (by exact Nat.le_refl _) _)
  clear hE
  have k0 := HBE.cell 0
  have k1 := HBE.cell 1
  have k2 := HBE.cell 2
  have k3 := HBE.cell 3
  have k4 := HBE.cell 4
  have k5 := HBE.cell 5
  have k6 := HBE.cell 6
  have k7 := HBE.cell 7
  simp only [List.getElem?_toArray, List.getElem?_cons_zero, List.getElem?_cons_succ] at k0 k1 k2 k3 k4 k5 k6 k7
  have kl := HBE.lt
  refine bodyPost_ret (by simp [results, Tryz.results35, go_sem, k0, k1, k2, k3, k4, k5, k6, k7, kl]; try rfl) rfl ?_
  exact ⟨rfl, GE⟩

set_option maxRecDepth 100000 in
set_option maxHeartbeats 8000000 in
theorem specStep8 (a : Option Addr) (c : Nat) (ws : List (List UInt8)) (w : World) (hr : Rd w a ws.length 1 (strs ws)) (hw : ∀ k, (atS ws k).length ≤ 1100000) (ho : opOfS (atS ws 0) = 8) :
    Calls Tryz.prog 35 #[.slice a ws.length c] w fun e w' => e = .returned (.agg #[.int .i64 (8), .int .i64 0, .int .i64 (varOfS (atS ws 1)), .int .i64 (varOfS (atS ws 3)), .int .i64 (relOfS (atS ws 2)), .int .i64 0, .int .i64 0, .int .i64 (numOfS (atS ws 4))]) ∧ Grew w w' := by
  have HW := Lib.hid hw
  have HR := Lib.hid hr
  have HOP := fun w => specOp (atS ws 0) w
  rw [ho] at HOP
  clear ho
  have HO := Lib.hid HOP
  clear hr hw HOP
  go_enter Tryz.func35, Tryz.ntmps35
  go_wp2_with fail
  have HB := Lib.hid (Blk.new w 38 #[.int .i64 0, .int .i64 0, .int .i64 0, .int .i64 0, .int .i64 0, .int .i64 0, .int .i64 0, .int .i64 0])
  have HG := Lib.hid (grew_al (Below.refl _ w) (.cells #[.int .i64 0, .int .i64 0, .int .i64 0, .int .i64 0, .int .i64 0, .int .i64 0, .int .i64 0, .int .i64 0] 38))
  refine (specAt a c ws 1 _ (HR.out.grew HG.out) (by omega)).mono ?_
  rintro e W ⟨rfl, rfl⟩
  go_wp2_with fail
  refine (specAt a c ws 2 _ (HR.out.grew HG.out) (by omega)).mono ?_
  rintro e W ⟨rfl, rfl⟩
  go_wp2_with fail
  refine (specAt a c ws 3 _ (HR.out.grew HG.out) (by omega)).mono ?_
  rintro e W ⟨rfl, rfl⟩
  go_wp2_with fail
  refine (specAt a c ws 0 _ (HR.out.grew HG.out) (by omega)).mono ?_
  rintro e W ⟨rfl, rfl⟩
  go_wp2_with fail
  refine (HO.out _).mono ?_
  rintro e w1 ⟨rfl, g1⟩
  have HB1 := Lib.hid (HB.out.grew g1)
  have HG1 := Lib.hid (grew_tr HG.out g1)
  have HI1 := Lib.hid (Blk.new w1 38 #[.int .i64 (8), .int .i64 0, .int .i64 0, .int .i64 0, .int .i64 0, .int .i64 0, .int .i64 0, .int .i64 0])
  clear g1 HB HG HO
  go_wp2_with fail
  have HN := Lib.hid (show w.heap.size ≠ w1.heap.size by have := HB1.out.lt; omega)
  have HNL := Lib.hid (show w.heap.size ≤ w1.heap.size by have := HB1.out.lt; omega)
  have HI0 := HI1; have HR0 := HB1; have HE0 := HG1; clear HI1 HB1 HG1
  refine calls_letW ?_
  intro E1 hE
  have HI1 : Hid (Blk E1 w1.heap.size 38 #[.int .i64 (8), .int .i64 0, .int .i64 0, .int .i64 0, .int .i64 0, .int .i64 0, .int .i64 0, .int .i64 0]) := Lib.hid (by rw [hE]; exact HI0.out)
  have HR1 : Hid (Blk E1 w.heap.size 38 #[.int .i64 0, .int .i64 0, .int .i64 0, .int .i64 0, .int .i64 0, .int .i64 0, .int .i64 0, .int .i64 0]) := Lib.hid (by rw [hE]; exact HR0.out.alloc _)
  have HE1 : Hid (Grew w E1) := Lib.hid (by rw [hE]; exact grew_al HE0.out _)
  clear hE HI0 HR0 HE0
  have y := fun j => HR1.out.cell j
  have y0 := y 0
  have y1 := y 1
  have y2 := y 2
  have y3 := y 3
  have y4 := y 4
  have y5 := y 5
  have y6 := y 6
  have y7 := y 7
  simp only [List.getElem?_toArray, List.getElem?_cons_zero, List.getElem?_cons_succ] at y0 y1 y2 y3 y4 y5 y6 y7
  have yl := HR1.out.lt
  have yf := fun j => HR1.out.frozen j
  clear y
  have z := fun j => HI1.out.cell j
  have z0 := z 0
  have z1 := z 1
  have z2 := z 2
  have z3 := z 3
  have z4 := z 4
  have z5 := z 5
  have z6 := z 6
  have z7 := z 7
  simp only [List.getElem?_toArray, List.getElem?_cons_zero, List.getElem?_cons_succ] at z0 z1 z2 z3 z4 z5 z6 z7
  have zl := HI1.out.lt
  have zf := fun j => HI1.out.frozen j
  clear z
  refine (specVarOf (atS ws 1) _).mono ?_
  rintro e W ⟨rfl, rfl⟩
  go_wp2_with fail
  refine calls_letW ?_
  intro E2 hE
  have HI2 : Hid (Blk E2 w1.heap.size 38 #[.int .i64 (8), .int .i64 0, .int .i64 (varOfS (atS ws 1)), .int .i64 0, .int .i64 0, .int .i64 0, .int .i64 0, .int .i64 0]) := Lib.hid (by rw [hE]; exact (HI1.out.set_ 2 (.int .i64 (varOfS (atS ws 1)))))
  have HR2 : Hid (Blk E2 w.heap.size 38 #[.int .i64 0, .int .i64 0, .int .i64 0, .int .i64 0, .int .i64 0, .int .i64 0, .int .i64 0, .int .i64 0]) := Lib.hid (by rw [hE]; exact (HR1.out.far (p := ⟨w1.heap.size, 2, none⟩) HN.out (.int .i64 (varOfS (atS ws 1)))))
  have HE2 : Hid (Grew w E2) := Lib.hid (by rw [hE]; repeat (first | exact HE1.out | refine grew_set ?_ HNL.out _))
  clear hE HI1 HR1 HE1 y0 y1 y2 y3 y4 y5 y6 y7 yl yf z0 z1 z2 z3 z4 z5 z6 z7 zl zf
  have y := fun j => HR2.out.cell j
  have y0 := y 0
  have y1 := y 1
  have y2 := y 2
  have y3 := y 3
  have y4 := y 4
  have y5 := y 5
  have y6 := y 6
  have y7 := y 7
  simp only [List.getElem?_toArray, List.getElem?_cons_zero, List.getElem?_cons_succ] at y0 y1 y2 y3 y4 y5 y6 y7
  have yl := HR2.out.lt
  have yf := fun j => HR2.out.frozen j
  clear y
  have z := fun j => HI2.out.cell j
  have z0 := z 0
  have z1 := z 1
  have z2 := z 2
  have z3 := z 3
  have z4 := z 4
  have z5 := z 5
  have z6 := z 6
  have z7 := z 7
  simp only [List.getElem?_toArray, List.getElem?_cons_zero, List.getElem?_cons_succ] at z0 z1 z2 z3 z4 z5 z6 z7
  have zl := HI2.out.lt
  have zf := fun j => HI2.out.frozen j
  clear z
  refine (specRelOf (atS ws 2) _).mono ?_
  rintro e w3 ⟨rfl, g⟩
  have HI3 := Lib.hid (HI2.out.grew g)
  have HR3 := Lib.hid (HR2.out.grew g)
  have HE3 := Lib.hid (grew_tr HE2.out g)
  clear g HI2 HR2 HE2 y0 y1 y2 y3 y4 y5 y6 y7 yl yf z0 z1 z2 z3 z4 z5 z6 z7 zl zf
  have y := fun j => HR3.out.cell j
  have y0 := y 0
  have y1 := y 1
  have y2 := y 2
  have y3 := y 3
  have y4 := y 4
  have y5 := y 5
  have y6 := y 6
  have y7 := y 7
  simp only [List.getElem?_toArray, List.getElem?_cons_zero, List.getElem?_cons_succ] at y0 y1 y2 y3 y4 y5 y6 y7
  have yl := HR3.out.lt
  have yf := fun j => HR3.out.frozen j
  clear y
  have z := fun j => HI3.out.cell j
  have z0 := z 0
  have z1 := z 1
  have z2 := z 2
  have z3 := z 3
  have z4 := z 4
  have z5 := z 5
  have z6 := z 6
  have z7 := z 7
  simp only [List.getElem?_toArray, List.getElem?_cons_zero, List.getElem?_cons_succ] at z0 z1 z2 z3 z4 z5 z6 z7
  have zl := HI3.out.lt
  have zf := fun j => HI3.out.frozen j
  clear z
  go_wp2_with fail
  refine calls_letW ?_
  intro E4 hE
  have HI4 : Hid (Blk E4 w1.heap.size 38 #[.int .i64 (8), .int .i64 0, .int .i64 (varOfS (atS ws 1)), .int .i64 0, .int .i64 (relOfS (atS ws 2)), .int .i64 0, .int .i64 0, .int .i64 0]) := Lib.hid (by rw [hE]; exact (HI3.out.set_ 4 (.int .i64 (relOfS (atS ws 2)))))
  have HR4 : Hid (Blk E4 w.heap.size 38 #[.int .i64 0, .int .i64 0, .int .i64 0, .int .i64 0, .int .i64 0, .int .i64 0, .int .i64 0, .int .i64 0]) := Lib.hid (by rw [hE]; exact (HR3.out.far (p := ⟨w1.heap.size, 4, none⟩) HN.out (.int .i64 (relOfS (atS ws 2)))))
  have HE4 : Hid (Grew w E4) := Lib.hid (by rw [hE]; repeat (first | exact HE3.out | refine grew_set ?_ HNL.out _))
  clear hE HI3 HR3 HE3 y0 y1 y2 y3 y4 y5 y6 y7 yl yf z0 z1 z2 z3 z4 z5 z6 z7 zl zf
  have y := fun j => HR4.out.cell j
  have y0 := y 0
  have y1 := y 1
  have y2 := y 2
  have y3 := y 3
  have y4 := y 4
  have y5 := y 5
  have y6 := y 6
  have y7 := y 7
  simp only [List.getElem?_toArray, List.getElem?_cons_zero, List.getElem?_cons_succ] at y0 y1 y2 y3 y4 y5 y6 y7
  have yl := HR4.out.lt
  have yf := fun j => HR4.out.frozen j
  clear y
  have z := fun j => HI4.out.cell j
  have z0 := z 0
  have z1 := z 1
  have z2 := z 2
  have z3 := z 3
  have z4 := z 4
  have z5 := z 5
  have z6 := z 6
  have z7 := z 7
  simp only [List.getElem?_toArray, List.getElem?_cons_zero, List.getElem?_cons_succ] at z0 z1 z2 z3 z4 z5 z6 z7
  have zl := HI4.out.lt
  have zf := fun j => HI4.out.frozen j
  clear z
  refine (specVarOf (atS ws 3) _).mono ?_
  rintro e W ⟨rfl, rfl⟩
  go_wp2_with fail
  refine calls_letW ?_
  intro E5 hE
  have HI5 : Hid (Blk E5 w1.heap.size 38 #[.int .i64 (8), .int .i64 0, .int .i64 (varOfS (atS ws 1)), .int .i64 (varOfS (atS ws 3)), .int .i64 (relOfS (atS ws 2)), .int .i64 0, .int .i64 0, .int .i64 0]) := Lib.hid (by rw [hE]; exact (HI4.out.set_ 3 (.int .i64 (varOfS (atS ws 3)))))
  have HR5 : Hid (Blk E5 w.heap.size 38 #[.int .i64 0, .int .i64 0, .int .i64 0, .int .i64 0, .int .i64 0, .int .i64 0, .int .i64 0, .int .i64 0]) := Lib.hid (by rw [hE]; exact (HR4.out.far (p := ⟨w1.heap.size, 3, none⟩) HN.out (.int .i64 (varOfS (atS ws 3)))))
  have HE5 : Hid (Grew w E5) := Lib.hid (by rw [hE]; repeat (first | exact HE4.out | refine grew_set ?_ HNL.out _))
  clear hE HI4 HR4 HE4 y0 y1 y2 y3 y4 y5 y6 y7 yl yf z0 z1 z2 z3 z4 z5 z6 z7 zl zf
  have y := fun j => HR5.out.cell j
  have y0 := y 0
  have y1 := y 1
  have y2 := y 2
  have y3 := y 3
  have y4 := y 4
  have y5 := y 5
  have y6 := y 6
  have y7 := y 7
  simp only [List.getElem?_toArray, List.getElem?_cons_zero, List.getElem?_cons_succ] at y0 y1 y2 y3 y4 y5 y6 y7
  have yl := HR5.out.lt
  have yf := fun j => HR5.out.frozen j
  clear y
  have z := fun j => HI5.out.cell j
  have z0 := z 0
  have z1 := z 1
  have z2 := z 2
  have z3 := z 3
  have z4 := z 4
  have z5 := z 5
  have z6 := z 6
  have z7 := z 7
  simp only [List.getElem?_toArray, List.getElem?_cons_zero, List.getElem?_cons_succ] at z0 z1 z2 z3 z4 z5 z6 z7
  have zl := HI5.out.lt
  have zf := fun j => HI5.out.frozen j
  clear z
  refine (specAt a c ws 4 _ (HR.out.grew HE5.out) (by omega)).mono ?_
  rintro e W ⟨rfl, rfl⟩
  go_wp2_with fail
  refine (specNum (atS ws 4) _ (HW.out _)).mono ?_
  rintro e w6 ⟨rfl, g⟩
  have HI6 := Lib.hid (HI5.out.grew g)
  have HR6 := Lib.hid (HR5.out.grew g)
  have HE6 := Lib.hid (grew_tr HE5.out g)
  clear g HI5 HR5 HE5 y0 y1 y2 y3 y4 y5 y6 y7 yl yf z0 z1 z2 z3 z4 z5 z6 z7 zl zf
  have y := fun j => HR6.out.cell j
  have y0 := y 0
  have y1 := y 1
  have y2 := y 2
  have y3 := y 3
  have y4 := y 4
  have y5 := y 5
  have y6 := y 6
  have y7 := y 7
  simp only [List.getElem?_toArray, List.getElem?_cons_zero, List.getElem?_cons_succ] at y0 y1 y2 y3 y4 y5 y6 y7
  have yl := HR6.out.lt
  have yf := fun j => HR6.out.frozen j
  clear y
  have z := fun j => HI6.out.cell j
  have z0 := z 0
  have z1 := z 1
  have z2 := z 2
  have z3 := z 3
  have z4 := z 4
  have z5 := z 5
  have z6 := z 6
  have z7 := z 7
  simp only [List.getElem?_toArray, List.getElem?_cons_zero, List.getElem?_cons_succ] at z0 z1 z2 z3 z4 z5 z6 z7
  have zl := HI6.out.lt
  have zf := fun j => HI6.out.frozen j
  clear z
  go_upto_region 38 with fail
  refine wp_letC ?_
  intro E7 hE
  have HI7 : Hid (Blk E7 w1.heap.size 38 #[.int .i64 (8), .int .i64 0, .int .i64 (varOfS (atS ws 1)), .int .i64 (varOfS (atS ws 3)), .int .i64 (relOfS (atS ws 2)), .int .i64 0, .int .i64 0, .int .i64 (numOfS (atS ws 4))]) := Lib.hid (by rw [hE]; exact (HI6.out.set_ 7 (.int .i64 (numOfS (atS ws 4)))))
  have HR7 : Hid (Blk E7 w.heap.size 38 #[.int .i64 0, .int .i64 0, .int .i64 0, .int .i64 0, .int .i64 0, .int .i64 0, .int .i64 0, .int .i64 0]) := Lib.hid (by rw [hE]; exact (HR6.out.far (p := ⟨w1.heap.size, 7, none⟩) HN.out (.int .i64 (numOfS (atS ws 4)))))
  have HE7 : Hid (Grew w E7) := Lib.hid (by rw [hE]; repeat (first | exact HE6.out | refine grew_set ?_ HNL.out _))
  clear hE HI6 HR6 HE6 y0 y1 y2 y3 y4 y5 y6 y7 yl yf z0 z1 z2 z3 z4 z5 z6 z7 zl zf
  have y := fun j => HR7.out.cell j
  have y0 := y 0
  have y1 := y 1
  have y2 := y 2
  have y3 := y 3
  have y4 := y 4
  have y5 := y 5
  have y6 := y 6
  have y7 := y 7
  simp only [List.getElem?_toArray, List.getElem?_cons_zero, List.getElem?_cons_succ] at y0 y1 y2 y3 y4 y5 y6 y7
  have yl := HR7.out.lt
  have yf := fun j => HR7.out.frozen j
  clear y
  have z := fun j => HI7.out.cell j
  have z0 := z 0
  have z1 := z 1
  have z2 := z 2
  have z3 := z 3
  have z4 := z 4
  have z5 := z 5
  have z6 := z 6
  have z7 := z 7
  simp only [List.getElem?_toArray, List.getElem?_cons_zero, List.getElem?_cons_succ] at z0 z1 z2 z3 z4 z5 z6 z7
  have zl := HI7.out.lt
  have zf := fun j => HI7.out.frozen j
  clear z
  have HRZ := HR7; have HEZ := HE7; clear HR7 HE7
  go_wp2
  refine body_letW ?_
  intro E hE
  have HBE : Blk E w.heap.size 38 #[.int .i64 (8), .int .i64 0, .int .i64 (varOfS (atS ws 1)), .int .i64 (varOfS (atS ws 3)), .int .i64 (relOfS (atS ws 2)), .int .i64 0, .int .i64 0, .int .i64 (numOfS (atS ws 4))] := by rw [hE]; exact ((((((((HRZ.out.set_ 0 _).set_ 1 _).set_ 2 _).set_ 3 _).set_ 4 _).set_ 5 _).set_ 6 _).set_ 7 _)
  have GE : Grew w E := by rw [hE]; repeat (first | with_reducible exact HEZ.out | with_reducible refine grew_set ?_ (by exact Nat.le_refl _) _)
  clear hE
  have k0 := HBE.cell 0
  have k1 := HBE.cell 1
  have k2 := HBE.cell 2
  have k3 := HBE.cell 3
  have k4 := HBE.cell 4
  have k5 := HBE.cell 5
  have k6 := HBE.cell 6
  have k7 := HBE.cell 7
  simp only [List.getElem?_toArray, List.getElem?_cons_zero, List.getElem?_cons_succ] at k0 k1 k2 k3 k4 k5 k6 k7
  have kl := HBE.lt
  refine bodyPost_ret (by simp [results, Tryz.results35, go_sem, k0, k1, k2, k3, k4, k5, k6, k7, kl]; try rfl) rfl ?_
  exact ⟨rfl, GE⟩

set_option maxRecDepth 100000 in
set_option maxHeartbeats 8000000 in
theorem specStep9 (a : Option Addr) (c : Nat) (ws : List (List UInt8)) (w : World) (hr : Rd w a ws.length 1 (strs ws)) (hw : ∀ k, (atS ws k).length ≤ 1100000) (ho : opOfS (atS ws 0) = 9) :
    Calls Tryz.prog 35 #[.slice a ws.length c] w fun e w' => e = .returned (.agg #[.int .i64 (9), .int .i64 0, .int .i64 0, .int .i64 0, .int .i64 0, .int .i64 0, .int .i64 0, .int .i64 (numOfS (atS ws 1))]) ∧ Grew w w' := by
  have HW := Lib.hid hw
  have HR := Lib.hid hr
  have HOP := fun w => specOp (atS ws 0) w
  rw [ho] at HOP
  clear ho
  have HO := Lib.hid HOP
  clear hr hw HOP
  go_enter Tryz.func35, Tryz.ntmps35
  go_wp2_with fail
  have HB := Lib.hid (Blk.new w 38 #[.int .i64 0, .int .i64 0, .int .i64 0, .int .i64 0, .int .i64 0, .int .i64 0, .int .i64 0, .int .i64 0])
  have HG := Lib.hid (grew_al (Below.refl _ w) (.cells #[.int .i64 0, .int .i64 0, .int .i64 0, .int .i64 0, .int .i64 0, .int .i64 0, .int .i64 0, .int .i64 0] 38))
  refine (specAt a c ws 1 _ (HR.out.grew HG.out) (by omega)).mono ?_
  rintro e W ⟨rfl, rfl⟩
  go_wp2_with fail
  refine (specAt a c ws 2 _ (HR.out.grew HG.out) (by omega)).mono ?_
  rintro e W ⟨rfl, rfl⟩
  go_wp2_with fail
  refine (specAt a c ws 3 _ (HR.out.grew HG.out) (by omega)).mono ?_
  rintro e W ⟨rfl, rfl⟩
  go_wp2_with fail
  refine (specAt a c ws 0 _ (HR.out.grew HG.out) (by omega)).mono ?_
  rintro e W ⟨rfl, rfl⟩
  go_wp2_with fail
  refine (HO.out _).mono ?_
  rintro e w1 ⟨rfl, g1⟩
  have HB1 := Lib.hid (HB.out.grew g1)
  have HG1 := Lib.hid (grew_tr HG.out g1)
  have HI1 := Lib.hid (Blk.new w1 38 #[.int .i64 (9), .int .i64 0, .int .i64 0, .int .i64 0, .int .i64 0, .int .i64 0, .int .i64 0, .int .i64 0])
  clear g1 HB HG HO
  go_wp2_with fail
  have HN := Lib.hid (show w.heap.size ≠ w1.heap.size by have := HB1.out.lt; omega)
  have HNL := Lib.hid (show w.heap.size ≤ w1.heap.size by have := HB1.out.lt; omega)
  have HI0 := HI1; have HR0 := HB1; have HE0 := HG1; clear HI1 HB1 HG1
  refine calls_letW ?_
  intro E1 hE
  have HI1 : Hid (Blk E1 w1.heap.size 38 #[.int .i64 (9), .int .i64 0, .int .i64 0, .int .i64 0, .int .i64 0, .int .i64 0, .int .i64 0, .int .i64 0]) := Lib.hid (by rw [hE]; exact HI0.out)
  have HR1 : Hid (Blk E1 w.heap.size 38 #[.int .i64 0, .int .i64 0, .int .i64 0, .int .i64 0, .int .i64 0, .int .i64 0, .int .i64 0, .int .i64 0]) := Lib.hid (by rw [hE]; exact HR0.out.alloc _)
  have HE1 : Hid (Grew w E1) := Lib.hid (by rw [hE]; exact grew_al HE0.out _)
  clear hE HI0 HR0 HE0
  have y := fun j => HR1.out.cell j
  have y0 := y 0
  have y1 := y 1
  have y2 := y 2
  have y3 := y 3
  have y4 := y 4
  have y5 := y 5
  have y6 := y 6
  have y7 := y 7
  simp only [List.getElem?_toArray, List.getElem?_cons_zero, List.getElem?_cons_succ] at y0 y1 y2 y3 y4 y5 y6 y7
  have yl := HR1.out.lt
  have yf := fun j => HR1.out.frozen j
  clear y
  have z := fun j => HI1.out.cell j
  have z0 := z 0
  have z1 := z 1
  have z2 := z 2
  have z3 := z 3
  have z4 := z 4
  have z5 := z 5
  have z6 := z 6
  have z7 := z 7
  simp only [List.getElem?_toArray, List.getElem?_cons_zero, List.getElem?_cons_succ] at z0 z1 z2 z3 z4 z5 z6 z7
  have zl := HI1.out.lt
  have zf := fun j => HI1.out.frozen j
  clear z
  refine (specNum (atS ws 1) _ (HW.out _)).mono ?_
  rintro e w2 ⟨rfl, g⟩
  have HI2 := Lib.hid (HI1.out.grew g)
  have HR2 := Lib.hid (HR1.out.grew g)
  have HE2 := Lib.hid (grew_tr HE1.out g)
  clear g HI1 HR1 HE1 y0 y1 y2 y3 y4 y5 y6 y7 yl yf z0 z1 z2 z3 z4 z5 z6 z7 zl zf
  have y := fun j => HR2.out.cell j
  have y0 := y 0
  have y1 := y 1
  have y2 := y 2
  have y3 := y 3
  have y4 := y 4
  have y5 := y 5
  have y6 := y 6
  have y7 := y 7
  simp only [List.getElem?_toArray, List.getElem?_cons_zero, List.getElem?_cons_succ] at y0 y1 y2 y3 y4 y5 y6 y7
  have yl := HR2.out.lt
  have yf := fun j => HR2.out.frozen j
  clear y
  have z := fun j => HI2.out.cell j
  have z0 := z 0
  have z1 := z 1
  have z2 := z 2
  have z3 := z 3
  have z4 := z 4
  have z5 := z 5
  have z6 := z 6
  have z7 := z 7
  simp only [List.getElem?_toArray, List.getElem?_cons_zero, List.getElem?_cons_succ] at z0 z1 z2 z3 z4 z5 z6 z7
  have zl := HI2.out.lt
  have zf := fun j => HI2.out.frozen j
  clear z
  go_upto_region 38 with fail
  refine wp_letC ?_
  intro E3 hE
  have HI3 : Hid (Blk E3 w1.heap.size 38 #[.int .i64 (9), .int .i64 0, .int .i64 0, .int .i64 0, .int .i64 0, .int .i64 0, .int .i64 0, .int .i64 (numOfS (atS ws 1))]) := Lib.hid (by rw [hE]; exact (HI2.out.set_ 7 (.int .i64 (numOfS (atS ws 1)))))
  have HR3 : Hid (Blk E3 w.heap.size 38 #[.int .i64 0, .int .i64 0, .int .i64 0, .int .i64 0, .int .i64 0, .int .i64 0, .int .i64 0, .int .i64 0]) := Lib.hid (by rw [hE]; exact (HR2.out.far (p := ⟨w1.heap.size, 7, none⟩) HN.out (.int .i64 (numOfS (atS ws 1)))))
  have HE3 : Hid (Grew w E3) := Lib.hid (by rw [hE]; repeat (first | exact HE2.out | refine grew_set ?_ HNL.out _))
  clear hE HI2 HR2 HE2 y0 y1 y2 y3 y4 y5 y6 y7 yl yf z0 z1 z2 z3 z4 z5 z6 z7 zl zf
  have y := fun j => HR3.out.cell j
  have y0 := y 0
  have y1 := y 1
  have y2 := y 2
  have y3 := y 3
  have y4 := y 4
  have y5 := y 5
  have y6 := y 6
  have y7 := y 7
  simp only [List.getElem?_toArray, List.getElem?_cons_zero, List.getElem?_cons_succ] at y0 y1 y2 y3 y4 y5 y6 y7
  have yl := HR3.out.lt
  have yf := fun j => HR3.out.frozen j
  clear y
  have z := fun j => HI3.out.cell j
  have z0 := z 0
  have z1 := z 1
  have z2 := z 2
  have z3 := z 3
  have z4 := z 4
  have z5 := z 5
  have z6 := z 6
  have z7 := z 7
  simp only [List.getElem?_toArray, List.getElem?_cons_zero, List.getElem?_cons_succ] at z0 z1 z2 z3 z4 z5 z6 z7
  have zl := HI3.out.lt
  have zf := fun j => HI3.out.frozen j
  clear z
  have HRZ := HR3; have HEZ := HE3; clear HR3 HE3
  go_wp2
  refine body_letW ?_
  intro E hE
  have HBE : Blk E w.heap.size 38 #[.int .i64 (9), .int .i64 0, .int .i64 0, .int .i64 0, .int .i64 0, .int .i64 0, .int .i64 0, .int .i64 (numOfS (atS ws 1))] := by rw [hE]; exact ((((((((HRZ.out.set_ 0 _).set_ 1 _).set_ 2 _).set_ 3 _).set_ 4 _).set_ 5 _).set_ 6 _).set_ 7 _)
  have GE : Grew w E := by rw [hE]; repeat (first | with_reducible exact HEZ.out | with_reducible refine grew_set ?_ (by exact Nat.le_refl _) _)
  clear hE
  have k0 := HBE.cell 0
  have k1 := HBE.cell 1
  have k2 := HBE.cell 2
  have k3 := HBE.cell 3
  have k4 := HBE.cell 4
  have k5 := HBE.cell 5
  have k6 := HBE.cell 6
  have k7 := HBE.cell 7
  simp only [List.getElem?_toArray, List.getElem?_cons_zero, List.getElem?_cons_succ] at k0 k1 k2 k3 k4 k5 k6 k7
  have kl := HBE.lt
  refine bodyPost_ret (by simp [results, Tryz.results35, go_sem, k0, k1, k2, k3, k4, k5, k6, k7, kl]; try rfl) rfl ?_
  exact ⟨rfl, GE⟩

set_option maxRecDepth 100000 in
set_option maxHeartbeats 8000000 in
theorem specStep10 (a : Option Addr) (c : Nat) (ws : List (List UInt8)) (w : World) (hr : Rd w a ws.length 1 (strs ws)) (hw : ∀ k, (atS ws k).length ≤ 1100000) (ho : opOfS (atS ws 0) = 10) :
    Calls Tryz.prog 35 #[.slice a ws.length c] w fun e w' => e = .returned (.agg #[.int .i64 (10), .int .i64 (varOfS (atS ws 1)), .int .i64 (varOfS (atS ws 3)), .int .i64 0, .int .i64 0, .int .i64 0, .int .i64 0, .int .i64 (numOfS (atS ws 2))]) ∧ Grew w w' := by
  have HW := Lib.hid hw
  have HR := Lib.hid hr
  have HOP := fun w => specOp (atS ws 0) w
  rw [ho] at HOP
  clear ho
  have HO := Lib.hid HOP
  clear hr hw HOP
  go_enter Tryz.func35, Tryz.ntmps35
  go_wp2_with fail
  have HB := Lib.hid (Blk.new w 38 #[.int .i64 0, .int .i64 0, .int .i64 0, .int .i64 0, .int .i64 0, .int .i64 0, .int .i64 0, .int .i64 0])
  have HG := Lib.hid (grew_al (Below.refl _ w) (.cells #[.int .i64 0, .int .i64 0, .int .i64 0, .int .i64 0, .int .i64 0, .int .i64 0, .int .i64 0, .int .i64 0] 38))
  refine (specAt a c ws 1 _ (HR.out.grew HG.out) (by omega)).mono ?_
  rintro e W ⟨rfl, rfl⟩
  go_wp2_with fail
  refine (specAt a c ws 2 _ (HR.out.grew HG.out) (by omega)).mono ?_
  rintro e W ⟨rfl, rfl⟩
  go_wp2_with fail
  refine (specAt a c ws 3 _ (HR.out.grew HG.out) (by omega)).mono ?_
  rintro e W ⟨rfl, rfl⟩
  go_wp2_with fail
  refine (specAt a c ws 0 _ (HR.out.grew HG.out) (by omega)).mono ?_
  rintro e W ⟨rfl, rfl⟩
  go_wp2_with fail
  refine (HO.out _).mono ?_
  rintro e w1 ⟨rfl, g1⟩
  have HB1 := Lib.hid (HB.out.grew g1)
  have HG1 := Lib.hid (grew_tr HG.out g1)
  have HI1 := Lib.hid (Blk.new w1 38 #[.int .i64 (10), .int .i64 0, .int .i64 0, .int .i64 0, .int .i64 0, .int .i64 0, .int .i64 0, .int .i64 0])
  clear g1 HB HG HO
  go_wp2_with fail
  have HN := Lib.hid (show w.heap.size ≠ w1.heap.size by have := HB1.out.lt; omega)
  have HNL := Lib.hid (show w.heap.size ≤ w1.heap.size by have := HB1.out.lt; omega)
  have HI0 := HI1; have HR0 := HB1; have HE0 := HG1; clear HI1 HB1 HG1
  refine calls_letW ?_
  intro E1 hE
  have HI1 : Hid (Blk E1 w1.heap.size 38 #[.int .i64 (10), .int .i64 0, .int .i64 0, .int .i64 0, .int .i64 0, .int .i64 0, .int .i64 0, .int .i64 0]) := Lib.hid (by rw [hE]; exact HI0.out)
  have HR1 : Hid (Blk E1 w.heap.size 38 #[.int .i64 0, .int .i64 0, .int .i64 0, .int .i64 0, .int .i64 0, .int .i64 0, .int .i64 0, .int .i64 0]) := Lib.hid (by rw [hE]; exact HR0.out.alloc _)
  have HE1 : Hid (Grew w E1) := Lib.hid (by rw [hE]; exact grew_al HE0.out _)
  clear hE HI0 HR0 HE0
  have y := fun j => HR1.out.cell j
  have y0 := y 0
  have y1 := y 1
  have y2 := y 2
  have y3 := y 3
  have y4 := y 4
  have y5 := y 5
  have y6 := y 6
  have y7 := y 7
  simp only [List.getElem?_toArray, List.getElem?_cons_zero, List.getElem?_cons_succ] at y0 y1 y2 y3 y4 y5 y6 y7
  have yl := HR1.out.lt
  have yf := fun j => HR1.out.frozen j
  clear y
  have z := fun j => HI1.out.cell j
  have z0 := z 0
  have z1 := z 1
  have z2 := z 2
  have z3 := z 3
  have z4 := z 4
  have z5 := z 5
  have z6 := z 6
  have z7 := z 7
  simp only [List.getElem?_toArray, List.getElem?_cons_zero, List.getElem?_cons_succ] at z0 z1 z2 z3 z4 z5 z6 z7
  have zl := HI1.out.lt
  have zf := fun j => HI1.out.frozen j
  clear z
  refine (specVarOf (atS ws 1) _).mono ?_
  rintro e W ⟨rfl, rfl⟩
  go_wp2_with fail
  refine calls_letW ?_
  intro E2 hE
  have HI2 : Hid (Blk E2 w1.heap.size 38 #[.int .i64 (10), .int .i64 (varOfS (atS ws 1)), .int .i64 0, .int .i64 0, .int .i64 0, .int .i64 0, .int .i64 0, .int .i64 0]) := Lib.hid (by rw [hE]; exact (HI1.out.set_ 1 (.int .i64 (varOfS (atS ws 1)))))
  have HR2 : Hid (Blk E2 w.heap.size 38 #[.int .i64 0, .int .i64 0, .int .i64 0, .int .i64 0, .int .i64 0, .int .i64 0, .int .i64 0, .int .i64 0]) := Lib.hid (by rw [hE]; exact (HR1.out.far (p := ⟨w1.heap.size, 1, none⟩) HN.out (.int .i64 (varOfS (atS ws 1)))))
  have HE2 : Hid (Grew w E2) := Lib.hid (by rw [hE]; repeat (first | exact HE1.out | refine grew_set ?_ HNL.out _))
  clear hE HI1 HR1 HE1 y0 y1 y2 y3 y4 y5 y6 y7 yl yf z0 z1 z2 z3 z4 z5 z6 z7 zl zf
  have y := fun j => HR2.out.cell j
  have y0 := y 0
  have y1 := y 1
  have y2 := y 2
  have y3 := y 3
  have y4 := y 4
  have y5 := y 5
  have y6 := y 6
  have y7 := y 7
  simp only [List.getElem?_toArray, List.getElem?_cons_zero, List.getElem?_cons_succ] at y0 y1 y2 y3 y4 y5 y6 y7
  have yl := HR2.out.lt
  have yf := fun j => HR2.out.frozen j
  clear y
  have z := fun j => HI2.out.cell j
  have z0 := z 0
  have z1 := z 1
  have z2 := z 2
  have z3 := z 3
  have z4 := z 4
  have z5 := z 5
  have z6 := z 6
  have z7 := z 7
  simp only [List.getElem?_toArray, List.getElem?_cons_zero, List.getElem?_cons_succ] at z0 z1 z2 z3 z4 z5 z6 z7
  have zl := HI2.out.lt
  have zf := fun j => HI2.out.frozen j
  clear z
  refine (specNum (atS ws 2) _ (HW.out _)).mono ?_
  rintro e w3 ⟨rfl, g⟩
  have HI3 := Lib.hid (HI2.out.grew g)
  have HR3 := Lib.hid (HR2.out.grew g)
  have HE3 := Lib.hid (grew_tr HE2.out g)
  clear g HI2 HR2 HE2 y0 y1 y2 y3 y4 y5 y6 y7 yl yf z0 z1 z2 z3 z4 z5 z6 z7 zl zf
  have y := fun j => HR3.out.cell j
  have y0 := y 0
  have y1 := y 1
  have y2 := y 2
  have y3 := y 3
  have y4 := y 4
  have y5 := y 5
  have y6 := y 6
  have y7 := y 7
  simp only [List.getElem?_toArray, List.getElem?_cons_zero, List.getElem?_cons_succ] at y0 y1 y2 y3 y4 y5 y6 y7
  have yl := HR3.out.lt
  have yf := fun j => HR3.out.frozen j
  clear y
  have z := fun j => HI3.out.cell j
  have z0 := z 0
  have z1 := z 1
  have z2 := z 2
  have z3 := z 3
  have z4 := z 4
  have z5 := z 5
  have z6 := z 6
  have z7 := z 7
  simp only [List.getElem?_toArray, List.getElem?_cons_zero, List.getElem?_cons_succ] at z0 z1 z2 z3 z4 z5 z6 z7
  have zl := HI3.out.lt
  have zf := fun j => HI3.out.frozen j
  clear z
  go_wp2_with fail
  refine calls_letW ?_
  intro E4 hE
  have HI4 : Hid (Blk E4 w1.heap.size 38 #[.int .i64 (10), .int .i64 (varOfS (atS ws 1)), .int .i64 0, .int .i64 0, .int .i64 0, .int .i64 0, .int .i64 0, .int .i64 (numOfS (atS ws 2))]) := Lib.hid (by rw [hE]; exact (HI3.out.set_ 7 (.int .i64 (numOfS (atS ws 2)))))
  have HR4 : Hid (Blk E4 w.heap.size 38 #[.int .i64 0, .int .i64 0, .int .i64 0, .int .i64 0, .int .i64 0, .int .i64 0, .int .i64 0, .int .i64 0]) := Lib.hid (by rw [hE]; exact (HR3.out.far (p := ⟨w1.heap.size, 7, none⟩) HN.out (.int .i64 (numOfS (atS ws 2)))))
  have HE4 : Hid (Grew w E4) := Lib.hid (by rw [hE]; repeat (first | exact HE3.out | refine grew_set ?_ HNL.out _))
  clear hE HI3 HR3 HE3 y0 y1 y2 y3 y4 y5 y6 y7 yl yf z0 z1 z2 z3 z4 z5 z6 z7 zl zf
  have y := fun j => HR4.out.cell j
  have y0 := y 0
  have y1 := y 1
  have y2 := y 2
  have y3 := y 3
  have y4 := y 4
  have y5 := y 5
  have y6 := y 6
  have y7 := y 7
  simp only [List.getElem?_toArray, List.getElem?_cons_zero, List.getElem?_cons_succ] at y0 y1 y2 y3 y4 y5 y6 y7
  have yl := HR4.out.lt
  have yf := fun j => HR4.out.frozen j
  clear y
  have z := fun j => HI4.out.cell j
  have z0 := z 0
  have z1 := z 1
  have z2 := z 2
  have z3 := z 3
  have z4 := z 4
  have z5 := z 5
  have z6 := z 6
  have z7 := z 7
  simp only [List.getElem?_toArray, List.getElem?_cons_zero, List.getElem?_cons_succ] at z0 z1 z2 z3 z4 z5 z6 z7
  have zl := HI4.out.lt
  have zf := fun j => HI4.out.frozen j
  clear z
  refine (specVarOf (atS ws 3) _).mono ?_
  rintro e W ⟨rfl, rfl⟩
  go_upto_region 38 with fail
  refine wp_letC ?_
  intro E5 hE
  have HI5 : Hid (Blk E5 w1.heap.size 38 #[.int .i64 (10), .int .i64 (varOfS (atS ws 1)), .int .i64 (varOfS (atS ws 3)), .int .i64 0, .int .i64 0, .int .i64 0, .int .i64 0, .int .i64 (numOfS (atS ws 2))]) := Lib.hid (by rw [hE]; exact (HI4.out.set_ 2 (.int .i64 (varOfS (atS ws 3)))))
  have HR5 : Hid (Blk E5 w.heap.size 38 #[.int .i64 0, .int .i64 0, .int .i64 0, .int .i64 0, .int .i64 0, .int .i64 0, .int .i64 0, .int .i64 0]) := Lib.hid (by rw [hE]; exact (HR4.out.far (p := ⟨w1.heap.size, 2, none⟩) HN.out (.int .i64 (varOfS (atS ws 3)))))
  have HE5 : Hid (Grew w E5) := Lib.hid (by rw [hE]; repeat (first | exact HE4.out | refine grew_set ?_ HNL.out _))
  clear hE HI4 HR4 HE4 y0 y1 y2 y3 y4 y5 y6 y7 yl yf z0 z1 z2 z3 z4 z5 z6 z7 zl zf
  have y := fun j => HR5.out.cell j
  have y0 := y 0
  have y1 := y 1
  have y2 := y 2
  have y3 := y 3
  have y4 := y 4
  have y5 := y 5
  have y6 := y 6
  have y7 := y 7
  simp only [List.getElem?_toArray, List.getElem?_cons_zero, List.getElem?_cons_succ] at y0 y1 y2 y3 y4 y5 y6 y7
  have yl := HR5.out.lt
  have yf := fun j => HR5.out.frozen j
  clear y
  have z := fun j => HI5.out.cell j
  have z0 := z 0
  have z1 := z 1
  have z2 := z 2
  have z3 := z 3
  have z4 := z 4
  have z5 := z 5
  have z6 := z 6
  have z7 := z 7
  simp only [List.getElem?_toArray, List.getElem?_cons_zero, List.getElem?_cons_succ] at z0 z1 z2 z3 z4 z5 z6 z7
  have zl := HI5.out.lt
  have zf := fun j => HI5.out.frozen j
  clear z
  have HRZ := HR5; have HEZ := HE5; clear HR5 HE5
  go_wp2
  refine body_letW ?_
  intro E hE
  have HBE : Blk E w.heap.size 38 #[.int .i64 (10), .int .i64 (varOfS (atS ws 1)), .int .i64 (varOfS (atS ws 3)), .int .i64 0, .int .i64 0, .int .i64 0, .int .i64 0, .int .i64 (numOfS (atS ws 2))] := by rw [hE]; exact ((((((((HRZ.out.set_ 0 _).set_ 1 _).set_ 2 _).set_ 3 _).set_ 4 _).set_ 5 _).set_ 6 _).set_ 7 _)
  have GE : Grew w E := by rw [hE]; repeat (first | with_reducible exact HEZ.out | with_reducible refine grew_set ?_ (by exact Nat.le_refl _) _)
  clear hE
  have k0 := HBE.cell 0
  have k1 := HBE.cell 1
  have k2 := HBE.cell 2
  have k3 := HBE.cell 3
  have k4 := HBE.cell 4
  have k5 := HBE.cell 5
  have k6 := HBE.cell 6
  have k7 := HBE.cell 7
  simp only [List.getElem?_toArray, List.getElem?_cons_zero, List.getElem?_cons_succ] at k0 k1 k2 k3 k4 k5 k6 k7
  have kl := HBE.lt
  refine bodyPost_ret (by simp [results, Tryz.results35, go_sem, k0, k1, k2, k3, k4, k5, k6, k7, kl]; try rfl) rfl ?_
  exact ⟨rfl, GE⟩

set_option maxRecDepth 100000 in
set_option maxHeartbeats 8000000 in
theorem specStep11 (a : Option Addr) (c : Nat) (ws : List (List UInt8)) (w : World) (hr : Rd w a ws.length 1 (strs ws)) (hw : ∀ k, (atS ws k).length ≤ 1100000) (ho : opOfS (atS ws 0) = 11) :
    Calls Tryz.prog 35 #[.slice a ws.length c] w fun e w' => e = .returned (.agg #[.int .i64 (11), .int .i64 0, .int .i64 (varOfS (atS ws 1)), .int .i64 (varOfS (atS ws 3)), .int .i64 (relOfS (atS ws 2)), .int .i64 0, .int .i64 0, .int .i64 0]) ∧ Grew w w' := by
  have HW := Lib.hid hw
  have HR := Lib.hid hr
  have HOP := fun w => specOp (atS ws 0) w
  rw [ho] at HOP
  clear ho
  have HO := Lib.hid HOP
  clear hr hw HOP
  go_enter Tryz.func35, Tryz.ntmps35
  go_wp2_with fail
  have HB := Lib.hid (Blk.new w 38 #[.int .i64 0, .int .i64 0, .int .i64 0, .int .i64 0, .int .i64 0, .int .i64 0, .int .i64 0, .int .i64 0])
  have HG := Lib.hid (grew_al (Below.refl _ w) (.cells #[.int .i64 0, .int .i64 0, .int .i64 0, .int .i64 0, .int .i64 0, .int .i64 0, .int .i64 0, .int .i64 0] 38))
  refine (specAt a c ws 1 _ (HR.out.grew HG.out) (by omega)).mono ?_
  rintro e W ⟨rfl, rfl⟩
  go_wp2_with fail
  refine (specAt a c ws 2 _ (HR.out.grew HG.out) (by omega)).mono ?_
  rintro e W ⟨rfl, rfl⟩
  go_wp2_with fail
  refine (specAt a c ws 3 _ (HR.out.grew HG.out) (by omega)).mono ?_
  rintro e W ⟨rfl, rfl⟩
  go_wp2_with fail
  refine (specAt a c ws 0 _ (HR.out.grew HG.out) (by omega)).mono ?_
  rintro e W ⟨rfl, rfl⟩
  go_wp2_with fail
  refine (HO.out _).mono ?_
  rintro e w1 ⟨rfl, g1⟩
  have HB1 := Lib.hid (HB.out.grew g1)
  have HG1 := Lib.hid (grew_tr HG.out g1)
  have HI1 := Lib.hid (Blk.new w1 38 #[.int .i64 (11), .int .i64 0, .int .i64 0, .int .i64 0, .int .i64 0, .int .i64 0, .int .i64 0, .int .i64 0])
  clear g1 HB HG HO
  go_wp2_with fail
  have HN := Lib.hid (show w.heap.size ≠ w1.heap.size by have := HB1.out.lt; omega)
  have HNL := Lib.hid (show w.heap.size ≤ w1.heap.size by have := HB1.out.lt; omega)
  have HI0 := HI1; have HR0 := HB1; have HE0 := HG1; clear HI1 HB1 HG1
  refine calls_letW ?_
  intro E1 hE
  have HI1 : Hid (Blk E1 w1.heap.size 38 #[.int .i64 (11), .int .i64 0, .int .i64 0, .int .i64 0, .int .i64 0, .int .i64 0, .int .i64 0, .int .i64 0]) := Lib.hid (by rw [hE]; exact HI0.out)
  have HR1 : Hid (Blk E1 w.heap.size 38 #[.int .i64 0, .int .i64 0, .int .i64 0, .int .i64 0, .int .i64 0, .int .i64 0, .int .i64 0, .int .i64 0]) := Lib.hid (by rw [hE]; exact HR0.out.alloc _)
  have HE1 : Hid (Grew w E1) := Lib.hid (by rw [hE]; exact grew_al HE0.out _)
  clear hE HI0 HR0 HE0
  have y := fun j => HR1.out.cell j
  have y0 := y 0
  have y1 := y 1
  have y2 := y 2
  have y3 := y 3
  have y4 := y 4
  have y5 := y 5
  have y6 := y 6
  have y7 := y 7
  simp only [List.getElem?_toArray, List.getElem?_cons_zero, List.getElem?_cons_succ] at y0 y1 y2 y3 y4 y5 y6 y7
  have yl := HR1.out.lt
  have yf := fun j => HR1.out.frozen j
  clear y
  have z := fun j => HI1.out.cell j
  have z0 := z 0
  have z1 := z 1
  have z2 := z 2
  have z3 := z 3
  have z4 := z 4
  have z5 := z 5
  have z6 := z 6
  have z7 := z 7
  simp only [List.getElem?_toArray, List.getElem?_cons_zero, List.getElem?_cons_succ] at z0 z1 z2 z3 z4 z5 z6 z7
  have zl := HI1.out.lt
  have zf := fun j => HI1.out.frozen j
  clear z
  refine (specVarOf (atS ws 1) _).mono ?_
  rintro e W ⟨rfl, rfl⟩
  go_wp2_with fail
  refine calls_letW ?_
  intro E2 hE
  have HI2 : Hid (Blk E2 w1.heap.size 38 #[.int .i64 (11), .int .i64 0, .int .i64 (varOfS (atS ws 1)), .int .i64 0, .int .i64 0, .int .i64 0, .int .i64 0, .int .i64 0]) := Lib.hid (by rw [hE]; exact (HI1.out.set_ 2 (.int .i64 (varOfS (atS ws 1)))))
  have HR2 : Hid (Blk E2 w.heap.size 38 #[.int .i64 0, .int .i64 0, .int .i64 0, .int .i64 0, .int .i64 0, .int .i64 0, .int .i64 0, .int .i64 0]) := Lib.hid (by rw [hE]; exact (HR1.out.far (p := ⟨w1.heap.size, 2, none⟩) HN.out (.int .i64 (varOfS (atS ws 1)))))
  have HE2 : Hid (Grew w E2) := Lib.hid (by rw [hE]; repeat (first | exact HE1.out | refine grew_set ?_ HNL.out _))
  clear hE HI1 HR1 HE1 y0 y1 y2 y3 y4 y5 y6 y7 yl yf z0 z1 z2 z3 z4 z5 z6 z7 zl zf
  have y := fun j => HR2.out.cell j
  have y0 := y 0
  have y1 := y 1
  have y2 := y 2
  have y3 := y 3
  have y4 := y 4
  have y5 := y 5
  have y6 := y 6
  have y7 := y 7
  simp only [List.getElem?_toArray, List.getElem?_cons_zero, List.getElem?_cons_succ] at y0 y1 y2 y3 y4 y5 y6 y7
  have yl := HR2.out.lt
  have yf := fun j => HR2.out.frozen j
  clear y
  have z := fun j => HI2.out.cell j
  have z0 := z 0
  have z1 := z 1
  have z2 := z 2
  have z3 := z 3
  have z4 := z 4
  have z5 := z 5
  have z6 := z 6
  have z7 := z 7
  simp only [List.getElem?_toArray, List.getElem?_cons_zero, List.getElem?_cons_succ] at z0 z1 z2 z3 z4 z5 z6 z7
  have zl := HI2.out.lt
  have zf := fun j => HI2.out.frozen j
  clear z
  refine (specRelOf (atS ws 2) _).mono ?_
  rintro e w3 ⟨rfl, g⟩
  have HI3 := Lib.hid (HI2.out.grew g)
  have HR3 := Lib.hid (HR2.out.grew g)
  have HE3 := Lib.hid (grew_tr HE2.out g)
  clear g HI2 HR2 HE2 y0 y1 y2 y3 y4 y5 y6 y7 yl yf z0 z1 z2 z3 z4 z5 z6 z7 zl zf
  have y := fun j => HR3.out.cell j
  have y0 := y 0
  have y1 := y 1
  have y2 := y 2
  have y3 := y 3
  have y4 := y 4
  have y5 := y 5
  have y6 := y 6
  have y7 := y 7
  simp only [List.getElem?_toArray, List.getElem?_cons_zero, List.getElem?_cons_succ] at y0 y1 y2 y3 y4 y5 y6 y7
  have yl := HR3.out.lt
  have yf := fun j => HR3.out.frozen j
  clear y
  have z := fun j => HI3.out.cell j
  have z0 := z 0
  have z1 := z 1
  have z2 := z 2
  have z3 := z 3
  have z4 := z 4
  have z5 := z 5
  have z6 := z 6
  have z7 := z 7
  simp only [List.getElem?_toArray, List.getElem?_cons_zero, List.getElem?_cons_succ] at z0 z1 z2 z3 z4 z5 z6 z7
  have zl := HI3.out.lt
  have zf := fun j => HI3.out.frozen j
  clear z
  go_wp2_with fail
  refine calls_letW ?_
  intro E4 hE
  have HI4 : Hid (Blk E4 w1.heap.size 38 #[.int .i64 (11), .int .i64 0, .int .i64 (varOfS (atS ws 1)), .int .i64 0, .int .i64 (relOfS (atS ws 2)), .int .i64 0, .int .i64 0, .int .i64 0]) := Lib.hid (by rw [hE]; exact (HI3.out.set_ 4 (.int .i64 (relOfS (atS ws 2)))))
  have HR4 : Hid (Blk E4 w.heap.size 38 #[.int .i64 0, .int .i64 0, .int .i64 0, .int .i64 0, .int .i64 0, .int .i64 0, .int .i64 0, .int .i64 0]) := Lib.hid (by rw [hE]; exact (HR3.out.far (p := ⟨w1.heap.size, 4, none⟩) HN.out (.int .i64 (relOfS (atS ws 2)))))
  have HE4 : Hid (Grew w E4) := Lib.hid (by rw [hE]; repeat (first | exact HE3.out | refine grew_set ?_ HNL.out _))
  clear hE HI3 HR3 HE3 y0 y1 y2 y3 y4 y5 y6 y7 yl yf z0 z1 z2 z3 z4 z5 z6 z7 zl zf
  have y := fun j => HR4.out.cell j
  have y0 := y 0
  have y1 := y 1
  have y2 := y 2
  have y3 := y 3
  have y4 := y 4
  have y5 := y 5
  have y6 := y 6
  have y7 := y 7
  simp only [List.getElem?_toArray, List.getElem?_cons_zero, List.getElem?_cons_succ] at y0 y1 y2 y3 y4 y5 y6 y7
  have yl := HR4.out.lt
  have yf := fun j => HR4.out.frozen j
  clear y
  have z := fun j => HI4.out.cell j
  have z0 := z 0
  have z1 := z 1
  have z2 := z 2
  have z3 := z 3
  have z4 := z 4
  have z5 := z 5
  have z6 := z 6
  have z7 := z 7
  simp only [List.getElem?_toArray, List.getElem?_cons_zero, List.getElem?_cons_succ] at z0 z1 z2 z3 z4 z5 z6 z7
  have zl := HI4.out.lt
  have zf := fun j => HI4.out.frozen j
  clear z
  refine (specVarOf (atS ws 3) _).mono ?_
  rintro e W ⟨rfl, rfl⟩
  go_upto_region 38 with fail
  refine wp_letC ?_
  intro E5 hE
  have HI5 : Hid (Blk E5 w1.heap.size 38 #[.int .i64 (11), .int .i64 0, .int .i64 (varOfS (atS ws 1)), .int .i64 (varOfS (atS ws 3)), .int .i64 (relOfS (atS ws 2)), .int .i64 0, .int .i64 0, .int .i64 0]) := Lib.hid (by rw [hE]; exact (HI4.out.set_ 3 (.int .i64 (varOfS (atS ws 3)))))
  have HR5 : Hid (Blk E5 w.heap.size 38 #[.int .i64 0, .int .i64 0, .int .i64 0, .int .i64 0, .int .i64 0, .int .i64 0, .int .i64 0, .int .i64 0]) := Lib.hid (by rw [hE]; exact (HR4.out.far (p := ⟨w1.heap.size, 3, none⟩) HN.out (.int .i64 (varOfS (atS ws 3)))))
  have HE5 : Hid (Grew w E5) := Lib.hid (by rw [hE]; repeat (first | exact HE4.out | refine grew_set ?_ HNL.out _))
  clear hE HI4 HR4 HE4 y0 y1 y2 y3 y4 y5 y6 y7 yl yf z0 z1 z2 z3 z4 z5 z6 z7 zl zf
  have y := fun j => HR5.out.cell j
  have y0 := y 0
  have y1 := y 1
  have y2 := y 2
  have y3 := y 3
  have y4 := y 4
  have y5 := y 5
  have y6 := y 6
  have y7 := y 7
  simp only [List.getElem?_toArray, List.getElem?_cons_zero, List.getElem?_cons_succ] at y0 y1 y2 y3 y4 y5 y6 y7
  have yl := HR5.out.lt
  have yf := fun j => HR5.out.frozen j
  clear y
  have z := fun j => HI5.out.cell j
  have z0 := z 0
  have z1 := z 1
  have z2 := z 2
  have z3 := z 3
  have z4 := z 4
  have z5 := z 5
  have z6 := z 6
  have z7 := z 7
  simp only [List.getElem?_toArray, List.getElem?_cons_zero, List.getElem?_cons_succ] at z0 z1 z2 z3 z4 z5 z6 z7
  have zl := HI5.out.lt
  have zf := fun j => HI5.out.frozen j
  clear z
  have HRZ := HR5; have HEZ := HE5; clear HR5 HE5
  go_wp2
  refine body_letW ?_
  intro E hE
  have HBE : Blk E w.heap.size 38 #[.int .i64 (11), .int .i64 0, .int .i64 (varOfS (atS ws 1)), .int .i64 (varOfS (atS ws 3)), .int .i64 (relOfS (atS ws 2)), .int .i64 0, .int .i64 0, .int .i64 0] := by rw [hE]; exact ((((((((HRZ.out.set_ 0 _).set_ 1 _).set_ 2 _).set_ 3 _).set_ 4 _).set_ 5 _).set_ 6 _).set_ 7 _)
  have GE : Grew w E := by rw [hE]; repeat (first | with_reducible exact HEZ.out | with_reducible refine grew_set ?_ (by exact Nat.le_refl _) _)
  clear hE
  have k0 := HBE.cell 0
  have k1 := HBE.cell 1
  have k2 := HBE.cell 2
  have k3 := HBE.cell 3
  have k4 := HBE.cell 4
  have k5 := HBE.cell 5
  have k6 := HBE.cell 6
  have k7 := HBE.cell 7
  simp only [List.getElem?_toArray, List.getElem?_cons_zero, List.getElem?_cons_succ] at k0 k1 k2 k3 k4 k5 k6 k7
  have kl := HBE.lt
  refine bodyPost_ret (by simp [results, Tryz.results35, go_sem, k0, k1, k2, k3, k4, k5, k6, k7, kl]; try rfl) rfl ?_
  exact ⟨rfl, GE⟩

set_option maxRecDepth 100000 in
set_option maxHeartbeats 8000000 in
theorem specStep12 (a : Option Addr) (c : Nat) (ws : List (List UInt8)) (w : World) (hr : Rd w a ws.length 1 (strs ws)) (hw : ∀ k, (atS ws k).length ≤ 1100000) (ho : opOfS (atS ws 0) = 12) :
    Calls Tryz.prog 35 #[.slice a ws.length c] w fun e w' => e = .returned (.agg #[.int .i64 (12), .int .i64 0, .int .i64 (varOfS (atS ws 1)), .int .i64 0, .int .i64 0, .int .i64 0, .int .i64 0, .int .i64 0]) ∧ Grew w w' := by
  have HW := Lib.hid hw
  have HR := Lib.hid hr
  have HOP := fun w => specOp (atS ws 0) w
  rw [ho] at HOP
  clear ho
  have HO := Lib.hid HOP
  clear hr hw HOP
  go_enter Tryz.func35, Tryz.ntmps35
  go_wp2_with fail
  have HB := Lib.hid (Blk.new w 38 #[.int .i64 0, .int .i64 0, .int .i64 0, .int .i64 0, .int .i64 0, .int .i64 0, .int .i64 0, .int .i64 0])
  have HG := Lib.hid (grew_al (Below.refl _ w) (.cells #[.int .i64 0, .int .i64 0, .int .i64 0, .int .i64 0, .int .i64 0, .int .i64 0, .int .i64 0, .int .i64 0] 38))
  refine (specAt a c ws 1 _ (HR.out.grew HG.out) (by omega)).mono ?_
  rintro e W ⟨rfl, rfl⟩
  go_wp2_with fail
  refine (specAt a c ws 2 _ (HR.out.grew HG.out) (by omega)).mono ?_
  rintro e W ⟨rfl, rfl⟩
  go_wp2_with fail
  refine (specAt a c ws 3 _ (HR.out.grew HG.out) (by omega)).mono ?_
  rintro e W ⟨rfl, rfl⟩
  go_wp2_with fail
  refine (specAt a c ws 0 _ (HR.out.grew HG.out) (by omega)).mono ?_
  rintro e W ⟨rfl, rfl⟩
  go_wp2_with fail
  refine (HO.out _).mono ?_
  rintro e w1 ⟨rfl, g1⟩
  have HB1 := Lib.hid (HB.out.grew g1)
  have HG1 := Lib.hid (grew_tr HG.out g1)
  have HI1 := Lib.hid (Blk.new w1 38 #[.int .i64 (12), .int .i64 0, .int .i64 0, .int .i64 0, .int .i64 0, .int .i64 0, .int .i64 0, .int .i64 0])
  clear g1 HB HG HO
  go_wp2_with fail
  have HN := Lib.hid (show w.heap.size ≠ w1.heap.size by have := HB1.out.lt; omega)
  have HNL := Lib.hid (show w.heap.size ≤ w1.heap.size by have := HB1.out.lt; omega)
  have HI0 := HI1; have HR0 := HB1; have HE0 := HG1; clear HI1 HB1 HG1
  refine calls_letW ?_
  intro E1 hE
  have HI1 : Hid (Blk E1 w1.heap.size 38 #[.int .i64 (12), .int .i64 0, .int .i64 0, .int .i64 0, .int .i64 0, .int .i64 0, .int .i64 0, .int .i64 0]) := Lib.hid (by rw [hE]; exact HI0.out)
  have HR1 : Hid (Blk E1 w.heap.size 38 #[.int .i64 0, .int .i64 0, .int .i64 0, .int .i64 0, .int .i64 0, .int .i64 0, .int .i64 0, .int .i64 0]) := Lib.hid (by rw [hE]; exact HR0.out.alloc _)
  have HE1 : Hid (Grew w E1) := Lib.hid (by rw [hE]; exact grew_al HE0.out _)
  clear hE HI0 HR0 HE0
  have y := fun j => HR1.out.cell j
  have y0 := y 0
  have y1 := y 1
  have y2 := y 2
  have y3 := y 3
  have y4 := y 4
  have y5 := y 5
  have y6 := y 6
  have y7 := y 7
  simp only [List.getElem?_toArray, List.getElem?_cons_zero, List.getElem?_cons_succ] at y0 y1 y2 y3 y4 y5 y6 y7
  have yl := HR1.out.lt
  have yf := fun j => HR1.out.frozen j
  clear y
  have z := fun j => HI1.out.cell j
  have z0 := z 0
  have z1 := z 1
  have z2 := z 2
  have z3 := z 3
  have z4 := z 4
  have z5 := z 5
  have z6 := z 6
  have z7 := z 7
  simp only [List.getElem?_toArray, List.getElem?_cons_zero, List.getElem?_cons_succ] at z0 z1 z2 z3 z4 z5 z6 z7
  have zl := HI1.out.lt
  have zf := fun j => HI1.out.frozen j
  clear z
  refine (specVarOf (atS ws 1) _).mono ?_
  rintro e W ⟨rfl, rfl⟩
  go_upto_region 38 with fail
  refine wp_letC ?_
  intro E2 hE
  have HI2 : Hid (Blk E2 w1.heap.size 38 #[.int .i64 (12), .int .i64 0, .int .i64 (varOfS (atS ws 1)), .int .i64 0, .int .i64 0, .int .i64 0, .int .i64 0, .int .i64 0]) := Lib.hid (by rw [hE]; exact (HI1.out.set_ 2 (.int .i64 (varOfS (atS ws 1)))))
  have HR2 : Hid (Blk E2 w.heap.size 38 #[.int .i64 0, .int .i64 0, .int .i64 0, .int .i64 0, .int .i64 0, .int .i64 0, .int .i64 0, .int .i64 0]) := Lib.hid (by rw [hE]; exact (HR1.out.far (p := ⟨w1.heap.size, 2, none⟩) HN.out (.int .i64 (varOfS (atS ws 1)))))
  have HE2 : Hid (Grew w E2) := Lib.hid (by rw [hE]; repeat (first | exact HE1.out | refine grew_set ?_ HNL.out _))
  clear hE HI1 HR1 HE1 y0 y1 y2 y3 y4 y5 y6 y7 yl yf z0 z1 z2 z3 z4 z5 z6 z7 zl zf
  have y := fun j => HR2.out.cell j
  have y0 := y 0
  have y1 := y 1
  have y2 := y 2
  have y3 := y 3
  have y4 := y 4
  have y5 := y 5
  have y6 := y 6
  have y7 := y 7
  simp only [List.getElem?_toArray, List.getElem?_cons_zero, List.getElem?_cons_succ] at y0 y1 y2 y3 y4 y5 y6 y7
  have yl := HR2.out.lt
  have yf := fun j => HR2.out.frozen j
  clear y
  have z := fun j => HI2.out.cell j
  have z0 := z 0
  have z1 := z 1
  have z2 := z 2
  have z3 := z 3
  have z4 := z 4
  have z5 := z 5
  have z6 := z 6
  have z7 := z 7
  simp only [List.getElem?_toArray, List.getElem?_cons_zero, List.getElem?_cons_succ] at z0 z1 z2 z3 z4 z5 z6 z7
  have zl := HI2.out.lt
  have zf := fun j => HI2.out.frozen j
  clear z
  have HRZ := HR2; have HEZ := HE2; clear HR2 HE2
  go_wp2
  refine body_letW ?_
  intro E hE
  have HBE : Blk E w.heap.size 38 #[.int .i64 (12), .int .i64 0, .int .i64 (varOfS (atS ws 1)), .int .i64 0, .int .i64 0, .int .i64 0, .int .i64 0, .int .i64 0] := by rw [hE]; exact ((((((((HRZ.out.set_ 0 _).set_ 1 _).set_ 2 _).set_ 3 _).set_ 4 _).set_ 5 _).set_ 6 _).set_ 7 _)
  have GE : Grew w E := by rw [hE]; repeat (first | with_reducible exact HEZ.out | with_reducible refine grew_set ?_ (by exact Nat.le_refl _) _)
  clear hE
  have k0 := HBE.cell 0
  have k1 := HBE.cell 1
  have k2 := HBE.cell 2
  have k3 := HBE.cell 3
  have k4 := HBE.cell 4
  have k5 := HBE.cell 5
  have k6 := HBE.cell 6
  have k7 := HBE.cell 7
  simp only [List.getElem?_toArray, List.getElem?_cons_zero, List.getElem?_cons_succ] at k0 k1 k2 k3 k4 k5 k6 k7
  have kl := HBE.lt
  refine bodyPost_ret (by simp [results, Tryz.results35, go_sem, k0, k1, k2, k3, k4, k5, k6, k7, kl]; try rfl) rfl ?_
  exact ⟨rfl, GE⟩

set_option maxRecDepth 100000 in
set_option maxHeartbeats 8000000 in
theorem specStepD (a : Option Addr) (c : Nat) (ws : List (List UInt8)) (w : World) (hr : Rd w a ws.length 1 (strs ws)) (hw : ∀ k, (atS ws k).length ≤ 1100000) (h5 : ¬ opOfS (atS ws 0) = 5) (h6 : ¬ opOfS (atS ws 0) = 6) (h7 : ¬ opOfS (atS ws 0) = 7) (h8 : ¬ opOfS (atS ws 0) = 8) (h9 : ¬ opOfS (atS ws 0) = 9) (h10 : ¬ opOfS (atS ws 0) = 10) (h11 : ¬ opOfS (atS ws 0) = 11) (h12 : ¬ opOfS (atS ws 0) = 12) :
    Calls Tryz.prog 35 #[.slice a ws.length c] w fun e w' => e = .returned (.agg #[.int .i64 (opOfS (atS ws 0)), .int .i64 (varOfS (atS ws 1)), .int .i64 (varOfS (atS ws 2)), .int .i64 (varOfS (atS ws 3)), .int .i64 0, .int .i64 0, .int .i64 0, .int .i64 0]) ∧ Grew w w' := by
  have HW := Lib.hid hw
  have HR := Lib.hid hr
  have HOP := fun w => specOp (atS ws 0) w
  generalize opOfS (atS ws 0) = o at *
  have h5' : ((o == 5) = false) := by simp [h5]
  have h6' : ((o == 6) = false) := by simp [h6]
  have h7' : ((o == 7) = false) := by simp [h7]
  have h8' : ((o == 8) = false) := by simp [h8]
  have h9' : ((o == 9) = false) := by simp [h9]
  have h10' : ((o == 10) = false) := by simp [h10]
  have h11' : ((o == 11) = false) := by simp [h11]
  have h12' : ((o == 12) = false) := by simp [h12]
  have HO := Lib.hid HOP
  clear hr hw HOP
  go_enter Tryz.func35, Tryz.ntmps35
  go_wp2_with fail
  have HB := Lib.hid (Blk.new w 38 #[.int .i64 0, .int .i64 0, .int .i64 0, .int .i64 0, .int .i64 0, .int .i64 0, .int .i64 0, .int .i64 0])
  have HG := Lib.hid (grew_al (Below.refl _ w) (.cells #[.int .i64 0, .int .i64 0, .int .i64 0, .int .i64 0, .int .i64 0, .int .i64 0, .int .i64 0, .int .i64 0] 38))
  refine (specAt a c ws 1 _ (HR.out.grew HG.out) (by omega)).mono ?_
  rintro e W ⟨rfl, rfl⟩
  go_wp2_with fail
  refine (specAt a c ws 2 _ (HR.out.grew HG.out) (by omega)).mono ?_
  rintro e W ⟨rfl, rfl⟩
  go_wp2_with fail
  refine (specAt a c ws 3 _ (HR.out.grew HG.out) (by omega)).mono ?_
  rintro e W ⟨rfl, rfl⟩
  go_wp2_with fail
  refine (specAt a c ws 0 _ (HR.out.grew HG.out) (by omega)).mono ?_
  rintro e W ⟨rfl, rfl⟩
  go_wp2_with fail
  refine (HO.out _).mono ?_
  rintro e w1 ⟨rfl, g1⟩
  have HB1 := Lib.hid (HB.out.grew g1)
  have HG1 := Lib.hid (grew_tr HG.out g1)
  have HI1 := Lib.hid (Blk.new w1 38 #[.int .i64 (o), .int .i64 0, .int .i64 0, .int .i64 0, .int .i64 0, .int .i64 0, .int .i64 0, .int .i64 0])
  clear g1 HB HG HO
  go_wp2_with fail
  have HN := Lib.hid (show w.heap.size ≠ w1.heap.size by have := HB1.out.lt; omega)
  have HNL := Lib.hid (show w.heap.size ≤ w1.heap.size by have := HB1.out.lt; omega)
  have HI0 := HI1; have HR0 := HB1; have HE0 := HG1; clear HI1 HB1 HG1
  refine calls_letW ?_
  intro E1 hE
  have HI1 : Hid (Blk E1 w1.heap.size 38 #[.int .i64 (o), .int .i64 0, .int .i64 0, .int .i64 0, .int .i64 0, .int .i64 0, .int .i64 0, .int .i64 0]) := Lib.hid (by rw [hE]; exact HI0.out)
  have HR1 : Hid (Blk E1 w.heap.size 38 #[.int .i64 0, .int .i64 0, .int .i64 0, .int .i64 0, .int .i64 0, .int .i64 0, .int .i64 0, .int .i64 0]) := Lib.hid (by rw [hE]; exact HR0.out.alloc _)
  have HE1 : Hid (Grew w E1) := Lib.hid (by rw [hE]; exact grew_al HE0.out _)
  clear hE HI0 HR0 HE0
  have y := fun j => HR1.out.cell j
  have y0 := y 0
  have y1 := y 1
  have y2 := y 2
  have y3 := y 3
  have y4 := y 4
  have y5 := y 5
  have y6 := y 6
  have y7 := y 7
  simp only [List.getElem?_toArray, List.getElem?_cons_zero, List.getElem?_cons_succ] at y0 y1 y2 y3 y4 y5 y6 y7
  have yl := HR1.out.lt
  have yf := fun j => HR1.out.frozen j
  clear y
  have z := fun j => HI1.out.cell j
  have z0 := z 0
  have z1 := z 1
  have z2 := z 2
  have z3 := z 3
  have z4 := z 4
  have z5 := z 5
  have z6 := z 6
  have z7 := z 7
  simp only [List.getElem?_toArray, List.getElem?_cons_zero, List.getElem?_cons_succ] at z0 z1 z2 z3 z4 z5 z6 z7
  have zl := HI1.out.lt
  have zf := fun j => HI1.out.frozen j
  clear z
  refine (specVarOf (atS ws 1) _).mono ?_
  rintro e W ⟨rfl, rfl⟩
  go_wp2_with fail
  refine calls_letW ?_
  intro E2 hE
  have HI2 : Hid (Blk E2 w1.heap.size 38 #[.int .i64 (o), .int .i64 (varOfS (atS ws 1)), .int .i64 0, .int .i64 0, .int .i64 0, .int .i64 0, .int .i64 0, .int .i64 0]) := Lib.hid (by rw [hE]; exact (HI1.out.set_ 1 (.int .i64 (varOfS (atS ws 1)))))
  have HR2 : Hid (Blk E2 w.heap.size 38 #[.int .i64 0, .int .i64 0, .int .i64 0, .int .i64 0, .int .i64 0, .int .i64 0, .int .i64 0, .int .i64 0]) := Lib.hid (by rw [hE]; exact (HR1.out.far (p := ⟨w1.heap.size, 1, none⟩) HN.out (.int .i64 (varOfS (atS ws 1)))))
  have HE2 : Hid (Grew w E2) := Lib.hid (by rw [hE]; repeat (first | exact HE1.out | refine grew_set ?_ HNL.out _))
  clear hE HI1 HR1 HE1 y0 y1 y2 y3 y4 y5 y6 y7 yl yf z0 z1 z2 z3 z4 z5 z6 z7 zl zf
  have y := fun j => HR2.out.cell j
  have y0 := y 0
  have y1 := y 1
  have y2 := y 2
  have y3 := y 3
  have y4 := y 4
  have y5 := y 5
  have y6 := y 6
  have y7 := y 7
  simp only [List.getElem?_toArray, List.getElem?_cons_zero, List.getElem?_cons_succ] at y0 y1 y2 y3 y4 y5 y6 y7
  have yl := HR2.out.lt
  have yf := fun j => HR2.out.frozen j
  clear y
  have z := fun j => HI2.out.cell j
  have z0 := z 0
  have z1 := z 1
  have z2 := z 2
  have z3 := z 3
  have z4 := z 4
  have z5 := z 5
  have z6 := z 6
  have z7 := z 7
  simp only [List.getElem?_toArray, List.getElem?_cons_zero, List.getElem?_cons_succ] at z0 z1 z2 z3 z4 z5 z6 z7
  have zl := HI2.out.lt
  have zf := fun j => HI2.out.frozen j
  clear z
  refine (specVarOf (atS ws 2) _).mono ?_
  rintro e W ⟨rfl, rfl⟩
  go_wp2_with fail
  refine calls_letW ?_
  intro E3 hE
  have HI3 : Hid (Blk E3 w1.heap.size 38 #[.int .i64 (o), .int .i64 (varOfS (atS ws 1)), .int .i64 (varOfS (atS ws 2)), .int .i64 0, .int .i64 0, .int .i64 0, .int .i64 0, .int .i64 0]) := Lib.hid (by rw [hE]; exact (HI2.out.set_ 2 (.int .i64 (varOfS (atS ws 2)))))
  have HR3 : Hid (Blk E3 w.heap.size 38 #[.int .i64 0, .int .i64 0, .int .i64 0, .int .i64 0, .int .i64 0, .int .i64 0, .int .i64 0, .int .i64 0]) := Lib.hid (by rw [hE]; exact (HR2.out.far (p := ⟨w1.heap.size, 2, none⟩) HN.out (.int .i64 (varOfS (atS ws 2)))))
  have HE3 : Hid (Grew w E3) := Lib.hid (by rw [hE]; repeat (first | exact HE2.out | refine grew_set ?_ HNL.out _))
  clear hE HI2 HR2 HE2 y0 y1 y2 y3 y4 y5 y6 y7 yl yf z0 z1 z2 z3 z4 z5 z6 z7 zl zf
  have y := fun j => HR3.out.cell j
  have y0 := y 0
  have y1 := y 1
  have y2 := y 2
  have y3 := y 3
  have y4 := y 4
  have y5 := y 5
  have y6 := y 6
  have y7 := y 7
  simp only [List.getElem?_toArray, List.getElem?_cons_zero, List.getElem?_cons_succ] at y0 y1 y2 y3 y4 y5 y6 y7
  have yl := HR3.out.lt
  have yf := fun j => HR3.out.frozen j
  clear y
  have z := fun j => HI3.out.cell j
  have z0 := z 0
  have z1 := z 1
  have z2 := z 2
  have z3 := z 3
  have z4 := z 4
  have z5 := z 5
  have z6 := z 6
  have z7 := z 7
  simp only [List.getElem?_toArray, List.getElem?_cons_zero, List.getElem?_cons_succ] at z0 z1 z2 z3 z4 z5 z6 z7
  have zl := HI3.out.lt
  have zf := fun j => HI3.out.frozen j
  clear z
  refine (specVarOf (atS ws 3) _).mono ?_
  rintro e W ⟨rfl, rfl⟩
  go_upto_region 38 with fail
  refine wp_letC ?_
  intro E4 hE
  have HI4 : Hid (Blk E4 w1.heap.size 38 #[.int .i64 (o), .int .i64 (varOfS (atS ws 1)), .int .i64 (varOfS (atS ws 2)), .int .i64 (varOfS (atS ws 3)), .int .i64 0, .int .i64 0, .int .i64 0, .int .i64 0]) := Lib.hid (by rw [hE]; exact (HI3.out.set_ 3 (.int .i64 (varOfS (atS ws 3)))))
  have HR4 : Hid (Blk E4 w.heap.size 38 #[.int .i64 0, .int .i64 0, .int .i64 0, .int .i64 0, .int .i64 0, .int .i64 0, .int .i64 0, .int .i64 0]) := Lib.hid (by rw [hE]; exact (HR3.out.far (p := ⟨w1.heap.size, 3, none⟩) HN.out (.int .i64 (varOfS (atS ws 3)))))
  have HE4 : Hid (Grew w E4) := Lib.hid (by rw [hE]; repeat (first | exact HE3.out | refine grew_set ?_ HNL.out _))
  clear hE HI3 HR3 HE3 y0 y1 y2 y3 y4 y5 y6 y7 yl yf z0 z1 z2 z3 z4 z5 z6 z7 zl zf
  have y := fun j => HR4.out.cell j
  have y0 := y 0
  have y1 := y 1
  have y2 := y 2
  have y3 := y 3
  have y4 := y 4
  have y5 := y 5
  have y6 := y 6
  have y7 := y 7
  simp only [List.getElem?_toArray, List.getElem?_cons_zero, List.getElem?_cons_succ] at y0 y1 y2 y3 y4 y5 y6 y7
  have yl := HR4.out.lt
  have yf := fun j => HR4.out.frozen j
  clear y
  have z := fun j => HI4.out.cell j
  have z0 := z 0
  have z1 := z 1
  have z2 := z 2
  have z3 := z 3
  have z4 := z 4
  have z5 := z 5
  have z6 := z 6
  have z7 := z 7
  simp only [List.getElem?_toArray, List.getElem?_cons_zero, List.getElem?_cons_succ] at z0 z1 z2 z3 z4 z5 z6 z7
  have zl := HI4.out.lt
  have zf := fun j => HI4.out.frozen j
  clear z
  have HRZ := HR4; have HEZ := HE4; clear HR4 HE4
  go_wp2
  refine body_letW ?_
  intro E hE
  have HBE : Blk E w.heap.size 38 #[.int .i64 (o), .int .i64 (varOfS (atS ws 1)), .int .i64 (varOfS (atS ws 2)), .int .i64 (varOfS (atS ws 3)), .int .i64 0, .int .i64 0, .int .i64 0, .int .i64 0] := by rw [hE]; exact ((((((((HRZ.out.set_ 0 _).set_ 1 _).set_ 2 _).set_ 3 _).set_ 4 _).set_ 5 _).set_ 6 _).set_ 7 _)
  have GE : Grew w E := by rw [hE]; repeat (first | with_reducible exact HEZ.out | with_reducible refine grew_set ?_ (by exact Nat.le_refl _) _)
  clear hE
  have k0 := HBE.cell 0
  have k1 := HBE.cell 1
  have k2 := HBE.cell 2
  have k3 := HBE.cell 3
  have k4 := HBE.cell 4
  have k5 := HBE.cell 5
  have k6 := HBE.cell 6
  have k7 := HBE.cell 7
  simp only [List.getElem?_toArray, List.getElem?_cons_zero, List.getElem?_cons_succ] at k0 k1 k2 k3 k4 k5 k6 k7
  have kl := HBE.lt
  refine bodyPost_ret (by simp [results, Tryz.results35, go_sem, k0, k1, k2, k3, k4, k5, k6, k7, kl]; try rfl) rfl ?_
  exact ⟨rfl, GE⟩

/-- The reference's reader of a step. -/
theorem specStep (a : Option Addr) (c : Nat) (ws : List (List UInt8)) (w : World) (hr : Rd w a ws.length 1 (strs ws)) (hw : ∀ k, (atS ws k).length ≤ 1100000) :
    Calls Tryz.prog 35 #[.slice a ws.length c] w fun e w' => e = .returned (insA (stepS ws)) ∧ Grew w w' := by
  unfold stepS
  by_cases h5 : opOfS (atS ws 0) = 5
  · rw [if_pos h5]
    by_cases ha : atS ws 0 = nameT 5
    · rw [if_pos ha]
      exact specStep5a a c ws w hr hw h5 (by rw [ha]; rfl)
    · rw [if_neg ha]
      exact specStep5b a c ws w hr hw h5 (by
        have : atS ws 0 ≠ [97, 110, 121] := ha
        simpa using this)
  rw [if_neg h5]
  by_cases h6 : opOfS (atS ws 0) = 6
  · rw [if_pos h6]
    exact specStep6 a c ws w hr hw h6
  rw [if_neg h6]
  by_cases h7 : opOfS (atS ws 0) = 7
  · rw [if_pos h7]
    exact specStep7 a c ws w hr hw h7
  rw [if_neg h7]
  by_cases h8 : opOfS (atS ws 0) = 8
  · rw [if_pos h8]
    exact specStep8 a c ws w hr hw h8
  rw [if_neg h8]
  by_cases h9 : opOfS (atS ws 0) = 9
  · rw [if_pos h9]
    exact specStep9 a c ws w hr hw h9
  rw [if_neg h9]
  by_cases h10 : opOfS (atS ws 0) = 10
  · rw [if_pos h10]
    exact specStep10 a c ws w hr hw h10
  rw [if_neg h10]
  by_cases h11 : opOfS (atS ws 0) = 11
  · rw [if_pos h11]
    exact specStep11 a c ws w hr hw h11
  rw [if_neg h11]
  by_cases h12 : opOfS (atS ws 0) = 12
  · rw [if_pos h12]
    exact specStep12 a c ws w hr hw h12
  rw [if_neg h12]
  exact specStepD a c ws w hr hw h5 h6 h7 h8 h9 h10 h11 h12
end Go.Proofs.YtcdfomoglkhboaaGreatDoor
