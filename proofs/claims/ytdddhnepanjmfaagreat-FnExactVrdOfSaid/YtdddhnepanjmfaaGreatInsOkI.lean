/- Contract of the program's InsOk. No condition. -/
import Derived.Test.YtdddhnepanjmfaaGreatInsOk
import Derived.Test.YtdddhnepanjmfaaGreatKinds
namespace Go.Proofs.YtdddhnepanjmfaaGreat
open Go.RowKit
set_option linter.unusedVariables false
attribute [local go_sem] ext_cell ext_lt ext_le ext_le1
attribute [local go_sem ↓] insNeq insEql
attribute [local go_sem] asAny asNotAny asNilAny asIf asNotIf asNilIf asJump asNotJump asNilJump asCall asNotCall asNilCall asAssert asNotAssert asNilAssert

set_option maxRecDepth 100000 in
set_option maxHeartbeats 4000000 in
theorem implInsOkF (T : TypeId) (pv : Value) (fid : FuncId) (op d a b rel lo hi to procs size : Int) (V : Ins) (w : World)
    (CO : ∀ w, Calls Tryz.prog 120 #[Ins.v ⟨op, d, a, b, rel, lo, hi, to⟩] w fun e w' => e = .returned (.iface T pv) ∧ Grew w w')
    (hm : ∀ (n : Nat) (w : World), (method (n + 1) T pv "loop.example/outwork/impl.ins").run Tryz.prog w = .ok (fid, pv) w)
    (hcf : ∀ (args : Array Value) (w : World), (callFunc fid args).run Tryz.prog w = .ok (.enter fid args) w)
    (CN : ∀ w, Calls Tryz.prog fid #[pv] w fun e w' => e = .returned (.agg #[.int .i64 V.op, .int .i64 V.d, .int .i64 V.a, .int .i64 V.b, .int .i64 V.rel, .int .i64 V.lo, .int .i64 V.hi, .int .i64 V.to]) ∧ Grew w w')
    (hq : insEqB V ⟨op, d, a, b, rel, lo, hi, to⟩ = false) :
    Calls Tryz.prog 91 #[Ins.v ⟨op, d, a, b, rel, lo, hi, to⟩, .int .i64 procs, .int .i64 size] w fun e w' => e = .returned (.bool false) ∧ Grew w w' := by
  have HCO := Lib.hid CO; clear CO
  have HCN := Lib.hid CN; clear CN
  go_enter Tryz.func91, Tryz.ntmps91
  go_wp2_with fail
  (with_reducible refine (HCO.out _).mono ?_)
  rintro e w1 ⟨rfl, g1⟩
  obtain ⟨x, rfl⟩ := ext_of g1
  have HX := Lib.hid g1; clear g1
  go_wp2_with fail
  refine wp_region_ext (by kernel_rfl) (by kernel_rfl) ?_
  repeat (go_big_quiet_step ((first | (with_reducible exact ext_grow (HCN.out _)))))
  refine wpQuiet_nil ?_
  intro _ hw'
  obtain ⟨y, hw''⟩ := hw'
  subst hw''
  have HY := Lib.hid (ext_grew _ y)
  go_wp2
  go_ret
  exact ⟨rfl, (by repeat (first | exact Below.refl _ _ | apply grew_ext | apply grew_al | apply grew_dn | (refine grew_set ?_ (by repeat (first | exact Nat.le_refl _ | apply le_ext | apply le_al | apply le_pl)) _)))⟩

set_option maxRecDepth 100000 in
set_option maxHeartbeats 4000000 in
theorem implInsOkD (T : TypeId) (pv : Value) (fid : FuncId) (op d a b rel lo hi to procs size : Int) (V : Ins) (w : World)
    (CO : ∀ w, Calls Tryz.prog 120 #[Ins.v ⟨op, d, a, b, rel, lo, hi, to⟩] w fun e w' => e = .returned (.iface T pv) ∧ Grew w w')
    (hm : ∀ (n : Nat) (w : World), (method (n + 1) T pv "loop.example/outwork/impl.ins").run Tryz.prog w = .ok (fid, pv) w)
    (hcf : ∀ (args : Array Value) (w : World), (callFunc fid args).run Tryz.prog w = .ok (.enter fid args) w)
    (CN : ∀ w, Calls Tryz.prog fid #[pv] w fun e w' => e = .returned (.agg #[.int .i64 V.op, .int .i64 V.d, .int .i64 V.a, .int .i64 V.b, .int .i64 V.rel, .int .i64 V.lo, .int .i64 V.hi, .int .i64 V.to]) ∧ Grew w w')
    (hq : insEqB V ⟨op, d, a, b, rel, lo, hi, to⟩ = true) (hd : varB d = false):
    Calls Tryz.prog 91 #[Ins.v ⟨op, d, a, b, rel, lo, hi, to⟩, .int .i64 procs, .int .i64 size] w fun e w' => e = .returned (.bool false) ∧ Grew w w' := by
  have HCO := Lib.hid CO; clear CO
  have HCN := Lib.hid CN; clear CN
  have Cd : Hid (∀ w, Calls Tryz.prog 121 #[.int .i64 d] w fun e w' => e = .returned (.bool false) ∧ w = w') := Lib.hid (fun w => bool_is (isVar d w) ((varB4 d).trans hd))
  clear hd
  go_enter Tryz.func91, Tryz.ntmps91
  go_wp2_with fail
  (with_reducible refine (HCO.out _).mono ?_)
  rintro e w1 ⟨rfl, g1⟩
  obtain ⟨x, rfl⟩ := ext_of g1
  have HX := Lib.hid g1; clear g1
  go_wp2_with fail
  refine wp_region_ext (by kernel_rfl) (by kernel_rfl) ?_
  repeat (go_big_quiet_step ((first | (with_reducible exact ext_same (Cd.out _)) | (with_reducible exact ext_grow (HCN.out _)))))
  refine wpQuiet_nil ?_
  intro _ hw'
  obtain ⟨y, hw''⟩ := hw'
  subst hw''
  have HY := Lib.hid (ext_grew _ y)
  go_wp2
  go_ret
  exact ⟨rfl, (by repeat (first | exact Below.refl _ _ | apply grew_ext | apply grew_al | apply grew_dn | (refine grew_set ?_ (by repeat (first | exact Nat.le_refl _ | apply le_ext | apply le_al | apply le_pl)) _)))⟩

set_option maxRecDepth 100000 in
set_option maxHeartbeats 4000000 in
theorem implInsOkA (T : TypeId) (pv : Value) (fid : FuncId) (op d a b rel lo hi to procs size : Int) (V : Ins) (w : World)
    (CO : ∀ w, Calls Tryz.prog 120 #[Ins.v ⟨op, d, a, b, rel, lo, hi, to⟩] w fun e w' => e = .returned (.iface T pv) ∧ Grew w w')
    (hm : ∀ (n : Nat) (w : World), (method (n + 1) T pv "loop.example/outwork/impl.ins").run Tryz.prog w = .ok (fid, pv) w)
    (hcf : ∀ (args : Array Value) (w : World), (callFunc fid args).run Tryz.prog w = .ok (.enter fid args) w)
    (CN : ∀ w, Calls Tryz.prog fid #[pv] w fun e w' => e = .returned (.agg #[.int .i64 V.op, .int .i64 V.d, .int .i64 V.a, .int .i64 V.b, .int .i64 V.rel, .int .i64 V.lo, .int .i64 V.hi, .int .i64 V.to]) ∧ Grew w w')
    (hq : insEqB V ⟨op, d, a, b, rel, lo, hi, to⟩ = true) (hd : varB d = true) (ha : varB a = false):
    Calls Tryz.prog 91 #[Ins.v ⟨op, d, a, b, rel, lo, hi, to⟩, .int .i64 procs, .int .i64 size] w fun e w' => e = .returned (.bool false) ∧ Grew w w' := by
  have HCO := Lib.hid CO; clear CO
  have HCN := Lib.hid CN; clear CN
  have Cd : Hid (∀ w, Calls Tryz.prog 121 #[.int .i64 d] w fun e w' => e = .returned (.bool true) ∧ w = w') := Lib.hid (fun w => bool_is (isVar d w) ((varB4 d).trans hd))
  have Ca : Hid (∀ w, Calls Tryz.prog 121 #[.int .i64 a] w fun e w' => e = .returned (.bool false) ∧ w = w') := Lib.hid (fun w => bool_is (isVar a w) ((varB4 a).trans ha))
  clear hd ha
  go_enter Tryz.func91, Tryz.ntmps91
  go_wp2_with fail
  (with_reducible refine (HCO.out _).mono ?_)
  rintro e w1 ⟨rfl, g1⟩
  obtain ⟨x, rfl⟩ := ext_of g1
  have HX := Lib.hid g1; clear g1
  go_wp2_with fail
  refine wp_region_ext (by kernel_rfl) (by kernel_rfl) ?_
  repeat (go_big_quiet_step ((first | (with_reducible exact ext_same (Cd.out _)) | (with_reducible exact ext_same (Ca.out _)) | (with_reducible exact ext_grow (HCN.out _)))))
  refine wpQuiet_nil ?_
  intro _ hw'
  obtain ⟨y, hw''⟩ := hw'
  subst hw''
  have HY := Lib.hid (ext_grew _ y)
  go_wp2
  go_ret
  exact ⟨rfl, (by repeat (first | exact Below.refl _ _ | apply grew_ext | apply grew_al | apply grew_dn | (refine grew_set ?_ (by repeat (first | exact Nat.le_refl _ | apply le_ext | apply le_al | apply le_pl)) _)))⟩

set_option maxRecDepth 100000 in
set_option maxHeartbeats 4000000 in
theorem implInsOkB (T : TypeId) (pv : Value) (fid : FuncId) (op d a b rel lo hi to procs size : Int) (V : Ins) (w : World)
    (CO : ∀ w, Calls Tryz.prog 120 #[Ins.v ⟨op, d, a, b, rel, lo, hi, to⟩] w fun e w' => e = .returned (.iface T pv) ∧ Grew w w')
    (hm : ∀ (n : Nat) (w : World), (method (n + 1) T pv "loop.example/outwork/impl.ins").run Tryz.prog w = .ok (fid, pv) w)
    (hcf : ∀ (args : Array Value) (w : World), (callFunc fid args).run Tryz.prog w = .ok (.enter fid args) w)
    (CN : ∀ w, Calls Tryz.prog fid #[pv] w fun e w' => e = .returned (.agg #[.int .i64 V.op, .int .i64 V.d, .int .i64 V.a, .int .i64 V.b, .int .i64 V.rel, .int .i64 V.lo, .int .i64 V.hi, .int .i64 V.to]) ∧ Grew w w')
    (hq : insEqB V ⟨op, d, a, b, rel, lo, hi, to⟩ = true) (hd : varB d = true) (ha : varB a = true) (hb : varB b = false):
    Calls Tryz.prog 91 #[Ins.v ⟨op, d, a, b, rel, lo, hi, to⟩, .int .i64 procs, .int .i64 size] w fun e w' => e = .returned (.bool false) ∧ Grew w w' := by
  have HCO := Lib.hid CO; clear CO
  have HCN := Lib.hid CN; clear CN
  have Cd : Hid (∀ w, Calls Tryz.prog 121 #[.int .i64 d] w fun e w' => e = .returned (.bool true) ∧ w = w') := Lib.hid (fun w => bool_is (isVar d w) ((varB4 d).trans hd))
  have Ca : Hid (∀ w, Calls Tryz.prog 121 #[.int .i64 a] w fun e w' => e = .returned (.bool true) ∧ w = w') := Lib.hid (fun w => bool_is (isVar a w) ((varB4 a).trans ha))
  have Cb : Hid (∀ w, Calls Tryz.prog 121 #[.int .i64 b] w fun e w' => e = .returned (.bool false) ∧ w = w') := Lib.hid (fun w => bool_is (isVar b w) ((varB4 b).trans hb))
  clear hd ha hb
  go_enter Tryz.func91, Tryz.ntmps91
  go_wp2_with fail
  (with_reducible refine (HCO.out _).mono ?_)
  rintro e w1 ⟨rfl, g1⟩
  obtain ⟨x, rfl⟩ := ext_of g1
  have HX := Lib.hid g1; clear g1
  go_wp2_with fail
  refine wp_region_ext (by kernel_rfl) (by kernel_rfl) ?_
  repeat (go_big_quiet_step ((first | (with_reducible exact ext_same (Cd.out _)) | (with_reducible exact ext_same (Ca.out _)) | (with_reducible exact ext_same (Cb.out _)) | (with_reducible exact ext_grow (HCN.out _)))))
  refine wpQuiet_nil ?_
  intro _ hw'
  obtain ⟨y, hw''⟩ := hw'
  subst hw''
  have HY := Lib.hid (ext_grew _ y)
  go_wp2
  go_ret
  exact ⟨rfl, (by repeat (first | exact Below.refl _ _ | apply grew_ext | apply grew_al | apply grew_dn | (refine grew_set ?_ (by repeat (first | exact Nat.le_refl _ | apply le_ext | apply le_al | apply le_pl)) _)))⟩

set_option maxRecDepth 100000 in
set_option maxHeartbeats 4000000 in
theorem implInsOkN (op d a b rel lo hi to procs size : Int) (w : World) (hn : codeV ⟨op, d, a, b, rel, lo, hi, to⟩ = .nilIface) :
    Calls Tryz.prog 91 #[Ins.v ⟨op, d, a, b, rel, lo, hi, to⟩, .int .i64 procs, .int .i64 size] w fun e w' => e = .returned (.bool false) ∧ Grew w w' := by
  have CO : Hid (∀ w, Calls Tryz.prog 120 #[Ins.v ⟨op, d, a, b, rel, lo, hi, to⟩] w fun e w' => e = .returned .nilIface ∧ Grew w w') := Lib.hid (fun w => by have := codeOf ⟨op, d, a, b, rel, lo, hi, to⟩ w; rw [hn] at this; exact this)
  clear hn
  go_enter Tryz.func91, Tryz.ntmps91
  go_wp2_with fail
  (with_reducible refine (CO.out _).mono ?_)
  rintro e w1 ⟨rfl, g1⟩
  obtain ⟨x, rfl⟩ := ext_of g1
  have HX := Lib.hid g1; clear g1
  go_wp2_with fail
  refine wp_region_ext (by kernel_rfl) (by kernel_rfl) ?_
  repeat (go_big_quiet_step ((first | fail)))
  refine wpQuiet_nil ?_
  intro _ hw'
  obtain ⟨y, hw''⟩ := hw'
  subst hw''
  have HY := Lib.hid (ext_grew _ y)
  go_wp2
  go_ret
  exact ⟨rfl, (by repeat (first | exact Below.refl _ _ | apply grew_ext | apply grew_al | apply grew_dn | (refine grew_set ?_ (by repeat (first | exact Nat.le_refl _ | apply le_ext | apply le_al | apply le_pl)) _)))⟩

set_option maxRecDepth 100000 in
set_option maxHeartbeats 4000000 in
theorem implInsOkTArith (op d a b rel lo hi to procs size : Int) (w : World) (ho : op = 1 ∨ op = 2 ∨ op = 3 ∨ op = 4)
    (hq : insEqB ⟨op, d, a, b, 0, 0, 0, 0⟩ ⟨op, d, a, b, rel, lo, hi, to⟩ = true) (hd : varB d = true) (ha : varB a = true) (hb : varB b = true) :
    Calls Tryz.prog 91 #[Ins.v ⟨op, d, a, b, rel, lo, hi, to⟩, .int .i64 procs, .int .i64 size] w fun e w' => e = .returned (.bool (tailB ⟨op, d, a, b, rel, lo, hi, to⟩ procs size)) ∧ Grew w w' := by
  have HCO : Hid (∀ w, Calls Tryz.prog 120 #[Ins.v ⟨op, d, a, b, rel, lo, hi, to⟩] w fun e w' => e = .returned (.iface 205 (.agg #[.int .i64 op, .int .i64 d, .int .i64 a, .int .i64 b])) ∧ Grew w w') := Lib.hid (fun w => by
    have := codeOf ⟨op, d, a, b, rel, lo, hi, to⟩ w
    rw [show codeV ⟨op, d, a, b, rel, lo, hi, to⟩ = .iface 205 (.agg #[.int .i64 op, .int .i64 d, .int .i64 a, .int .i64 b]) from by simp [codeV, ho]] at this
    exact this)
  have HCN : Hid (∀ w, Calls Tryz.prog 200 #[.agg #[.int .i64 op, .int .i64 d, .int .i64 a, .int .i64 b]] w fun e w' => e = .returned (.agg #[.int .i64 op, .int .i64 d, .int .i64 a, .int .i64 b, .int .i64 0, .int .i64 0, .int .i64 0, .int .i64 0]) ∧ Grew w w') := Lib.hid (fun w => insArith op d a b w)
  have hm := fun n w => methArith n op d a b w
  have Cd : Hid (∀ w, Calls Tryz.prog 121 #[.int .i64 d] w fun e w' => e = .returned (.bool true) ∧ w = w') := Lib.hid (fun w => bool_is (isVar d w) ((varB4 d).trans hd))
  have Ca : Hid (∀ w, Calls Tryz.prog 121 #[.int .i64 a] w fun e w' => e = .returned (.bool true) ∧ w = w') := Lib.hid (fun w => bool_is (isVar a w) ((varB4 a).trans ha))
  have Cb : Hid (∀ w, Calls Tryz.prog 121 #[.int .i64 b] w fun e w' => e = .returned (.bool true) ∧ w = w') := Lib.hid (fun w => bool_is (isVar b w) ((varB4 b).trans hb))
  clear hd ha hb
  have HT : Hid (tailB ⟨op, d, a, b, rel, lo, hi, to⟩ procs size = true) := Lib.hid (by have h1 : op ≠ 5 ∧ op ≠ 8 ∧ op ≠ 9 ∧ op ≠ 10 ∧ op ≠ 11 := (by omega); simp [tailB, h1])
  clear ho
  go_enter Tryz.func91, Tryz.ntmps91
  go_wp2_with fail
  (with_reducible refine (HCO.out _).mono ?_)
  rintro e w1 ⟨rfl, g1⟩
  obtain ⟨x, rfl⟩ := ext_of g1
  have HX := Lib.hid g1; clear g1 hm
  have hm := fun n w => methArith n op d a b w
  go_wp2_with fail
  refine wp_region_ext (by kernel_rfl) (by kernel_rfl) ?_
  repeat (go_big_quiet_step ((first | (with_reducible exact ext_same (Cd.out _)) | (with_reducible exact ext_same (Ca.out _)) | (with_reducible exact ext_same (Cb.out _)) | (with_reducible exact ext_grow (HCN.out _)))))
  refine wpQuiet_nil ?_
  intro _ hw'
  obtain ⟨y, hw''⟩ := hw'
  subst hw''
  have HY := Lib.hid (ext_grew _ y)
  go_wp2_with (first | fail | fail)
  all_goals
    go_ret
    exact ⟨by rw [HT.out]; rfl, (by repeat (first | exact Below.refl _ _ | apply grew_ext | apply grew_al | apply grew_dn | (refine grew_set ?_ (by repeat (first | exact Nat.le_refl _ | apply le_ext | apply le_al | apply le_pl)) _)))⟩

set_option maxRecDepth 100000 in
set_option maxHeartbeats 4000000 in
theorem implInsOkTAny (d a b rel lo hi to procs size : Int) (w : World) 
    (hq : insEqB ⟨(5 : Int), d, 0, 0, 0, lo, hi, 0⟩ ⟨(5 : Int), d, a, b, rel, lo, hi, to⟩ = true) (hd : varB d = true) (ha : varB a = true) (hb : varB b = true) :
    Calls Tryz.prog 91 #[Ins.v ⟨(5 : Int), d, a, b, rel, lo, hi, to⟩, .int .i64 procs, .int .i64 size] w fun e w' => e = .returned (.bool (tailB ⟨(5 : Int), d, a, b, rel, lo, hi, to⟩ procs size)) ∧ Grew w w' := by
  have HCO : Hid (∀ w, Calls Tryz.prog 120 #[Ins.v ⟨(5 : Int), d, a, b, rel, lo, hi, to⟩] w fun e w' => e = .returned (.iface 192 (.agg #[.int .i64 d, .int .i64 lo, .int .i64 hi])) ∧ Grew w w') := Lib.hid (fun w => by
    have := codeOf ⟨(5 : Int), d, a, b, rel, lo, hi, to⟩ w
    rw [show codeV ⟨(5 : Int), d, a, b, rel, lo, hi, to⟩ = .iface 192 (.agg #[.int .i64 d, .int .i64 lo, .int .i64 hi]) from rfl] at this
    exact this)
  have HCN : Hid (∀ w, Calls Tryz.prog 195 #[.agg #[.int .i64 d, .int .i64 lo, .int .i64 hi]] w fun e w' => e = .returned (.agg #[.int .i64 (5 : Int), .int .i64 d, .int .i64 0, .int .i64 0, .int .i64 0, .int .i64 lo, .int .i64 hi, .int .i64 0]) ∧ Grew w w') := Lib.hid (fun w => insAny d lo hi w)
  have hm := fun n w => methAny n d lo hi w
  have Cd : Hid (∀ w, Calls Tryz.prog 121 #[.int .i64 d] w fun e w' => e = .returned (.bool true) ∧ w = w') := Lib.hid (fun w => bool_is (isVar d w) ((varB4 d).trans hd))
  have Ca : Hid (∀ w, Calls Tryz.prog 121 #[.int .i64 a] w fun e w' => e = .returned (.bool true) ∧ w = w') := Lib.hid (fun w => bool_is (isVar a w) ((varB4 a).trans ha))
  have Cb : Hid (∀ w, Calls Tryz.prog 121 #[.int .i64 b] w fun e w' => e = .returned (.bool true) ∧ w = w') := Lib.hid (fun w => bool_is (isVar b w) ((varB4 b).trans hb))
  clear hd ha hb
  go_enter Tryz.func91, Tryz.ntmps91
  go_wp2_with fail
  (with_reducible refine (HCO.out _).mono ?_)
  rintro e w1 ⟨rfl, g1⟩
  obtain ⟨x, rfl⟩ := ext_of g1
  have HX := Lib.hid g1; clear g1 hm
  have hm := fun n w => methAny n d lo hi w
  go_wp2_with fail
  refine wp_region_ext (by kernel_rfl) (by kernel_rfl) ?_
  repeat (go_big_quiet_step ((first | (with_reducible exact ext_same (Cd.out _)) | (with_reducible exact ext_same (Ca.out _)) | (with_reducible exact ext_same (Cb.out _)) | (with_reducible exact ext_grow (HCN.out _)))))
  refine wpQuiet_nil ?_
  intro _ hw'
  obtain ⟨y, hw''⟩ := hw'
  subst hw''
  have HY := Lib.hid (ext_grew _ y)
  go_wp2_with (first | fail | ((with_reducible refine (itvOk lo hi _).mono ?_); rintro e w2 ⟨rfl, g2⟩; obtain ⟨z, rfl⟩ := ext_of g2; clear g2))
  all_goals
    go_ret
    exact ⟨by simp [tailB], (by repeat (first | exact Below.refl _ _ | apply grew_ext | apply grew_al | apply grew_dn | (refine grew_set ?_ (by repeat (first | exact Nat.le_refl _ | apply le_ext | apply le_al | apply le_pl)) _)))⟩

set_option maxRecDepth 100000 in
set_option maxHeartbeats 4000000 in
theorem implInsOkTLoad (d a b rel lo hi to procs size : Int) (w : World) 
    (hq : insEqB ⟨(6 : Int), d, a, 0, 0, 0, 0, 0⟩ ⟨(6 : Int), d, a, b, rel, lo, hi, to⟩ = true) (hd : varB d = true) (ha : varB a = true) (hb : varB b = true) :
    Calls Tryz.prog 91 #[Ins.v ⟨(6 : Int), d, a, b, rel, lo, hi, to⟩, .int .i64 procs, .int .i64 size] w fun e w' => e = .returned (.bool (tailB ⟨(6 : Int), d, a, b, rel, lo, hi, to⟩ procs size)) ∧ Grew w w' := by
  have HCO : Hid (∀ w, Calls Tryz.prog 120 #[Ins.v ⟨(6 : Int), d, a, b, rel, lo, hi, to⟩] w fun e w' => e = .returned (.iface 207 (.agg #[.int .i64 d, .int .i64 a])) ∧ Grew w w') := Lib.hid (fun w => by
    have := codeOf ⟨(6 : Int), d, a, b, rel, lo, hi, to⟩ w
    rw [show codeV ⟨(6 : Int), d, a, b, rel, lo, hi, to⟩ = .iface 207 (.agg #[.int .i64 d, .int .i64 a]) from rfl] at this
    exact this)
  have HCN : Hid (∀ w, Calls Tryz.prog 201 #[.agg #[.int .i64 d, .int .i64 a]] w fun e w' => e = .returned (.agg #[.int .i64 (6 : Int), .int .i64 d, .int .i64 a, .int .i64 0, .int .i64 0, .int .i64 0, .int .i64 0, .int .i64 0]) ∧ Grew w w') := Lib.hid (fun w => insLoad d a w)
  have hm := fun n w => methLoad n d a w
  have Cd : Hid (∀ w, Calls Tryz.prog 121 #[.int .i64 d] w fun e w' => e = .returned (.bool true) ∧ w = w') := Lib.hid (fun w => bool_is (isVar d w) ((varB4 d).trans hd))
  have Ca : Hid (∀ w, Calls Tryz.prog 121 #[.int .i64 a] w fun e w' => e = .returned (.bool true) ∧ w = w') := Lib.hid (fun w => bool_is (isVar a w) ((varB4 a).trans ha))
  have Cb : Hid (∀ w, Calls Tryz.prog 121 #[.int .i64 b] w fun e w' => e = .returned (.bool true) ∧ w = w') := Lib.hid (fun w => bool_is (isVar b w) ((varB4 b).trans hb))
  clear hd ha hb
  go_enter Tryz.func91, Tryz.ntmps91
  go_wp2_with fail
  (with_reducible refine (HCO.out _).mono ?_)
  rintro e w1 ⟨rfl, g1⟩
  obtain ⟨x, rfl⟩ := ext_of g1
  have HX := Lib.hid g1; clear g1 hm
  have hm := fun n w => methLoad n d a w
  go_wp2_with fail
  refine wp_region_ext (by kernel_rfl) (by kernel_rfl) ?_
  repeat (go_big_quiet_step ((first | (with_reducible exact ext_same (Cd.out _)) | (with_reducible exact ext_same (Ca.out _)) | (with_reducible exact ext_same (Cb.out _)) | (with_reducible exact ext_grow (HCN.out _)))))
  refine wpQuiet_nil ?_
  intro _ hw'
  obtain ⟨y, hw''⟩ := hw'
  subst hw''
  have HY := Lib.hid (ext_grew _ y)
  go_wp2_with (first | fail | fail)
  all_goals
    go_ret
    exact ⟨rfl, (by repeat (first | exact Below.refl _ _ | apply grew_ext | apply grew_al | apply grew_dn | (refine grew_set ?_ (by repeat (first | exact Nat.le_refl _ | apply le_ext | apply le_al | apply le_pl)) _)))⟩

set_option maxRecDepth 100000 in
set_option maxHeartbeats 4000000 in
theorem implInsOkTStore (d a b rel lo hi to procs size : Int) (w : World) 
    (hq : insEqB ⟨(7 : Int), 0, a, b, 0, 0, 0, 0⟩ ⟨(7 : Int), d, a, b, rel, lo, hi, to⟩ = true) (hd : varB d = true) (ha : varB a = true) (hb : varB b = true) :
    Calls Tryz.prog 91 #[Ins.v ⟨(7 : Int), d, a, b, rel, lo, hi, to⟩, .int .i64 procs, .int .i64 size] w fun e w' => e = .returned (.bool (tailB ⟨(7 : Int), d, a, b, rel, lo, hi, to⟩ procs size)) ∧ Grew w w' := by
  have HCO : Hid (∀ w, Calls Tryz.prog 120 #[Ins.v ⟨(7 : Int), d, a, b, rel, lo, hi, to⟩] w fun e w' => e = .returned (.iface 209 (.agg #[.int .i64 a, .int .i64 b])) ∧ Grew w w') := Lib.hid (fun w => by
    have := codeOf ⟨(7 : Int), d, a, b, rel, lo, hi, to⟩ w
    rw [show codeV ⟨(7 : Int), d, a, b, rel, lo, hi, to⟩ = .iface 209 (.agg #[.int .i64 a, .int .i64 b]) from rfl] at this
    exact this)
  have HCN : Hid (∀ w, Calls Tryz.prog 202 #[.agg #[.int .i64 a, .int .i64 b]] w fun e w' => e = .returned (.agg #[.int .i64 (7 : Int), .int .i64 0, .int .i64 a, .int .i64 b, .int .i64 0, .int .i64 0, .int .i64 0, .int .i64 0]) ∧ Grew w w') := Lib.hid (fun w => insStore a b w)
  have hm := fun n w => methStore n a b w
  have Cd : Hid (∀ w, Calls Tryz.prog 121 #[.int .i64 d] w fun e w' => e = .returned (.bool true) ∧ w = w') := Lib.hid (fun w => bool_is (isVar d w) ((varB4 d).trans hd))
  have Ca : Hid (∀ w, Calls Tryz.prog 121 #[.int .i64 a] w fun e w' => e = .returned (.bool true) ∧ w = w') := Lib.hid (fun w => bool_is (isVar a w) ((varB4 a).trans ha))
  have Cb : Hid (∀ w, Calls Tryz.prog 121 #[.int .i64 b] w fun e w' => e = .returned (.bool true) ∧ w = w') := Lib.hid (fun w => bool_is (isVar b w) ((varB4 b).trans hb))
  clear hd ha hb
  go_enter Tryz.func91, Tryz.ntmps91
  go_wp2_with fail
  (with_reducible refine (HCO.out _).mono ?_)
  rintro e w1 ⟨rfl, g1⟩
  obtain ⟨x, rfl⟩ := ext_of g1
  have HX := Lib.hid g1; clear g1 hm
  have hm := fun n w => methStore n a b w
  go_wp2_with fail
  refine wp_region_ext (by kernel_rfl) (by kernel_rfl) ?_
  repeat (go_big_quiet_step ((first | (with_reducible exact ext_same (Cd.out _)) | (with_reducible exact ext_same (Ca.out _)) | (with_reducible exact ext_same (Cb.out _)) | (with_reducible exact ext_grow (HCN.out _)))))
  refine wpQuiet_nil ?_
  intro _ hw'
  obtain ⟨y, hw''⟩ := hw'
  subst hw''
  have HY := Lib.hid (ext_grew _ y)
  go_wp2_with (first | fail | fail)
  all_goals
    go_ret
    exact ⟨rfl, (by repeat (first | exact Below.refl _ _ | apply grew_ext | apply grew_al | apply grew_dn | (refine grew_set ?_ (by repeat (first | exact Nat.le_refl _ | apply le_ext | apply le_al | apply le_pl)) _)))⟩

set_option maxRecDepth 100000 in
set_option maxHeartbeats 4000000 in
theorem implInsOkTIf (d a b rel lo hi to procs size : Int) (w : World) 
    (hq : insEqB ⟨(8 : Int), 0, a, b, rel, 0, 0, to⟩ ⟨(8 : Int), d, a, b, rel, lo, hi, to⟩ = true) (hd : varB d = true) (ha : varB a = true) (hb : varB b = true) :
    Calls Tryz.prog 91 #[Ins.v ⟨(8 : Int), d, a, b, rel, lo, hi, to⟩, .int .i64 procs, .int .i64 size] w fun e w' => e = .returned (.bool (tailB ⟨(8 : Int), d, a, b, rel, lo, hi, to⟩ procs size)) ∧ Grew w w' := by
  have HCO : Hid (∀ w, Calls Tryz.prog 120 #[Ins.v ⟨(8 : Int), d, a, b, rel, lo, hi, to⟩] w fun e w' => e = .returned (.iface 194 (.agg #[.int .i64 rel, .int .i64 a, .int .i64 b, .int .i64 to])) ∧ Grew w w') := Lib.hid (fun w => by
    have := codeOf ⟨(8 : Int), d, a, b, rel, lo, hi, to⟩ w
    rw [show codeV ⟨(8 : Int), d, a, b, rel, lo, hi, to⟩ = .iface 194 (.agg #[.int .i64 rel, .int .i64 a, .int .i64 b, .int .i64 to]) from rfl] at this
    exact this)
  have HCN : Hid (∀ w, Calls Tryz.prog 196 #[.agg #[.int .i64 rel, .int .i64 a, .int .i64 b, .int .i64 to]] w fun e w' => e = .returned (.agg #[.int .i64 (8 : Int), .int .i64 0, .int .i64 a, .int .i64 b, .int .i64 rel, .int .i64 0, .int .i64 0, .int .i64 to]) ∧ Grew w w') := Lib.hid (fun w => insIf rel a b to w)
  have hm := fun n w => methIf n rel a b to w
  have Cd : Hid (∀ w, Calls Tryz.prog 121 #[.int .i64 d] w fun e w' => e = .returned (.bool true) ∧ w = w') := Lib.hid (fun w => bool_is (isVar d w) ((varB4 d).trans hd))
  have Ca : Hid (∀ w, Calls Tryz.prog 121 #[.int .i64 a] w fun e w' => e = .returned (.bool true) ∧ w = w') := Lib.hid (fun w => bool_is (isVar a w) ((varB4 a).trans ha))
  have Cb : Hid (∀ w, Calls Tryz.prog 121 #[.int .i64 b] w fun e w' => e = .returned (.bool true) ∧ w = w') := Lib.hid (fun w => bool_is (isVar b w) ((varB4 b).trans hb))
  clear hd ha hb
  go_enter Tryz.func91, Tryz.ntmps91
  go_wp2_with fail
  (with_reducible refine (HCO.out _).mono ?_)
  rintro e w1 ⟨rfl, g1⟩
  obtain ⟨x, rfl⟩ := ext_of g1
  have HX := Lib.hid g1; clear g1 hm
  have hm := fun n w => methIf n rel a b to w
  go_wp2_with fail
  refine wp_region_ext (by kernel_rfl) (by kernel_rfl) ?_
  repeat (go_big_quiet_step ((first | (with_reducible exact ext_same (Cd.out _)) | (with_reducible exact ext_same (Ca.out _)) | (with_reducible exact ext_same (Cb.out _)) | (with_reducible exact ext_grow (HCN.out _)))))
  refine wpQuiet_nil ?_
  intro _ hw'
  obtain ⟨y, hw''⟩ := hw'
  subst hw''
  have HY := Lib.hid (ext_grew _ y)
  go_wp2_with (first | fail | ((with_reducible refine (isRel rel _).mono ?_); rintro e w2 ⟨rfl, rfl⟩) | ((with_reducible refine (below to size _).mono ?_); rintro e w2 ⟨rfl, rfl⟩))
  all_goals
    go_ret
    exact ⟨by simp [tailB, *], (by repeat (first | exact Below.refl _ _ | apply grew_ext | apply grew_al | apply grew_dn | (refine grew_set ?_ (by repeat (first | exact Nat.le_refl _ | apply le_ext | apply le_al | apply le_pl)) _)))⟩

set_option maxRecDepth 100000 in
set_option maxHeartbeats 4000000 in
theorem implInsOkTJump (d a b rel lo hi to procs size : Int) (w : World) 
    (hq : insEqB ⟨(9 : Int), 0, 0, 0, 0, 0, 0, to⟩ ⟨(9 : Int), d, a, b, rel, lo, hi, to⟩ = true) (hd : varB d = true) (ha : varB a = true) (hb : varB b = true) :
    Calls Tryz.prog 91 #[Ins.v ⟨(9 : Int), d, a, b, rel, lo, hi, to⟩, .int .i64 procs, .int .i64 size] w fun e w' => e = .returned (.bool (tailB ⟨(9 : Int), d, a, b, rel, lo, hi, to⟩ procs size)) ∧ Grew w w' := by
  have HCO : Hid (∀ w, Calls Tryz.prog 120 #[Ins.v ⟨(9 : Int), d, a, b, rel, lo, hi, to⟩] w fun e w' => e = .returned (.iface 196 (.agg #[.int .i64 to])) ∧ Grew w w') := Lib.hid (fun w => by
    have := codeOf ⟨(9 : Int), d, a, b, rel, lo, hi, to⟩ w
    rw [show codeV ⟨(9 : Int), d, a, b, rel, lo, hi, to⟩ = .iface 196 (.agg #[.int .i64 to]) from rfl] at this
    exact this)
  have HCN : Hid (∀ w, Calls Tryz.prog 197 #[.agg #[.int .i64 to]] w fun e w' => e = .returned (.agg #[.int .i64 (9 : Int), .int .i64 0, .int .i64 0, .int .i64 0, .int .i64 0, .int .i64 0, .int .i64 0, .int .i64 to]) ∧ Grew w w') := Lib.hid (fun w => insJump to w)
  have hm := fun n w => methJump n to w
  have Cd : Hid (∀ w, Calls Tryz.prog 121 #[.int .i64 d] w fun e w' => e = .returned (.bool true) ∧ w = w') := Lib.hid (fun w => bool_is (isVar d w) ((varB4 d).trans hd))
  have Ca : Hid (∀ w, Calls Tryz.prog 121 #[.int .i64 a] w fun e w' => e = .returned (.bool true) ∧ w = w') := Lib.hid (fun w => bool_is (isVar a w) ((varB4 a).trans ha))
  have Cb : Hid (∀ w, Calls Tryz.prog 121 #[.int .i64 b] w fun e w' => e = .returned (.bool true) ∧ w = w') := Lib.hid (fun w => bool_is (isVar b w) ((varB4 b).trans hb))
  clear hd ha hb
  go_enter Tryz.func91, Tryz.ntmps91
  go_wp2_with fail
  (with_reducible refine (HCO.out _).mono ?_)
  rintro e w1 ⟨rfl, g1⟩
  obtain ⟨x, rfl⟩ := ext_of g1
  have HX := Lib.hid g1; clear g1 hm
  have hm := fun n w => methJump n to w
  go_wp2_with fail
  refine wp_region_ext (by kernel_rfl) (by kernel_rfl) ?_
  repeat (go_big_quiet_step ((first | (with_reducible exact ext_same (Cd.out _)) | (with_reducible exact ext_same (Ca.out _)) | (with_reducible exact ext_same (Cb.out _)) | (with_reducible exact ext_grow (HCN.out _)))))
  refine wpQuiet_nil ?_
  intro _ hw'
  obtain ⟨y, hw''⟩ := hw'
  subst hw''
  have HY := Lib.hid (ext_grew _ y)
  go_wp2_with (first | fail | ((with_reducible refine (below to size _).mono ?_); rintro e w2 ⟨rfl, rfl⟩))
  all_goals
    go_ret
    exact ⟨by simp [tailB, *], (by repeat (first | exact Below.refl _ _ | apply grew_ext | apply grew_al | apply grew_dn | (refine grew_set ?_ (by repeat (first | exact Nat.le_refl _ | apply le_ext | apply le_al | apply le_pl)) _)))⟩

set_option maxRecDepth 100000 in
set_option maxHeartbeats 4000000 in
theorem implInsOkTCall (d a b rel lo hi to procs size : Int) (w : World) 
    (hq : insEqB ⟨(10 : Int), d, a, 0, 0, 0, 0, to⟩ ⟨(10 : Int), d, a, b, rel, lo, hi, to⟩ = true) (hd : varB d = true) (ha : varB a = true) (hb : varB b = true) :
    Calls Tryz.prog 91 #[Ins.v ⟨(10 : Int), d, a, b, rel, lo, hi, to⟩, .int .i64 procs, .int .i64 size] w fun e w' => e = .returned (.bool (tailB ⟨(10 : Int), d, a, b, rel, lo, hi, to⟩ procs size)) ∧ Grew w w' := by
  have HCO : Hid (∀ w, Calls Tryz.prog 120 #[Ins.v ⟨(10 : Int), d, a, b, rel, lo, hi, to⟩] w fun e w' => e = .returned (.iface 198 (.agg #[.int .i64 d, .int .i64 a, .int .i64 to])) ∧ Grew w w') := Lib.hid (fun w => by
    have := codeOf ⟨(10 : Int), d, a, b, rel, lo, hi, to⟩ w
    rw [show codeV ⟨(10 : Int), d, a, b, rel, lo, hi, to⟩ = .iface 198 (.agg #[.int .i64 d, .int .i64 a, .int .i64 to]) from rfl] at this
    exact this)
  have HCN : Hid (∀ w, Calls Tryz.prog 198 #[.agg #[.int .i64 d, .int .i64 a, .int .i64 to]] w fun e w' => e = .returned (.agg #[.int .i64 (10 : Int), .int .i64 d, .int .i64 a, .int .i64 0, .int .i64 0, .int .i64 0, .int .i64 0, .int .i64 to]) ∧ Grew w w') := Lib.hid (fun w => insCall d a to w)
  have hm := fun n w => methCall n d a to w
  have Cd : Hid (∀ w, Calls Tryz.prog 121 #[.int .i64 d] w fun e w' => e = .returned (.bool true) ∧ w = w') := Lib.hid (fun w => bool_is (isVar d w) ((varB4 d).trans hd))
  have Ca : Hid (∀ w, Calls Tryz.prog 121 #[.int .i64 a] w fun e w' => e = .returned (.bool true) ∧ w = w') := Lib.hid (fun w => bool_is (isVar a w) ((varB4 a).trans ha))
  have Cb : Hid (∀ w, Calls Tryz.prog 121 #[.int .i64 b] w fun e w' => e = .returned (.bool true) ∧ w = w') := Lib.hid (fun w => bool_is (isVar b w) ((varB4 b).trans hb))
  clear hd ha hb
  go_enter Tryz.func91, Tryz.ntmps91
  go_wp2_with fail
  (with_reducible refine (HCO.out _).mono ?_)
  rintro e w1 ⟨rfl, g1⟩
  obtain ⟨x, rfl⟩ := ext_of g1
  have HX := Lib.hid g1; clear g1 hm
  have hm := fun n w => methCall n d a to w
  go_wp2_with fail
  refine wp_region_ext (by kernel_rfl) (by kernel_rfl) ?_
  repeat (go_big_quiet_step ((first | (with_reducible exact ext_same (Cd.out _)) | (with_reducible exact ext_same (Ca.out _)) | (with_reducible exact ext_same (Cb.out _)) | (with_reducible exact ext_grow (HCN.out _)))))
  refine wpQuiet_nil ?_
  intro _ hw'
  obtain ⟨y, hw''⟩ := hw'
  subst hw''
  have HY := Lib.hid (ext_grew _ y)
  go_wp2_with (first | fail | ((with_reducible refine (below to procs _).mono ?_); rintro e w2 ⟨rfl, rfl⟩))
  all_goals
    go_ret
    exact ⟨by simp [tailB, *], (by repeat (first | exact Below.refl _ _ | apply grew_ext | apply grew_al | apply grew_dn | (refine grew_set ?_ (by repeat (first | exact Nat.le_refl _ | apply le_ext | apply le_al | apply le_pl)) _)))⟩

set_option maxRecDepth 100000 in
set_option maxHeartbeats 4000000 in
theorem implInsOkTAssert (d a b rel lo hi to procs size : Int) (w : World) 
    (hq : insEqB ⟨(11 : Int), 0, a, b, rel, 0, 0, 0⟩ ⟨(11 : Int), d, a, b, rel, lo, hi, to⟩ = true) (hd : varB d = true) (ha : varB a = true) (hb : varB b = true) :
    Calls Tryz.prog 91 #[Ins.v ⟨(11 : Int), d, a, b, rel, lo, hi, to⟩, .int .i64 procs, .int .i64 size] w fun e w' => e = .returned (.bool (tailB ⟨(11 : Int), d, a, b, rel, lo, hi, to⟩ procs size)) ∧ Grew w w' := by
  have HCO : Hid (∀ w, Calls Tryz.prog 120 #[Ins.v ⟨(11 : Int), d, a, b, rel, lo, hi, to⟩] w fun e w' => e = .returned (.iface 200 (.agg #[.int .i64 rel, .int .i64 a, .int .i64 b])) ∧ Grew w w') := Lib.hid (fun w => by
    have := codeOf ⟨(11 : Int), d, a, b, rel, lo, hi, to⟩ w
    rw [show codeV ⟨(11 : Int), d, a, b, rel, lo, hi, to⟩ = .iface 200 (.agg #[.int .i64 rel, .int .i64 a, .int .i64 b]) from rfl] at this
    exact this)
  have HCN : Hid (∀ w, Calls Tryz.prog 199 #[.agg #[.int .i64 rel, .int .i64 a, .int .i64 b]] w fun e w' => e = .returned (.agg #[.int .i64 (11 : Int), .int .i64 0, .int .i64 a, .int .i64 b, .int .i64 rel, .int .i64 0, .int .i64 0, .int .i64 0]) ∧ Grew w w') := Lib.hid (fun w => insAssert rel a b w)
  have hm := fun n w => methAssert n rel a b w
  have Cd : Hid (∀ w, Calls Tryz.prog 121 #[.int .i64 d] w fun e w' => e = .returned (.bool true) ∧ w = w') := Lib.hid (fun w => bool_is (isVar d w) ((varB4 d).trans hd))
  have Ca : Hid (∀ w, Calls Tryz.prog 121 #[.int .i64 a] w fun e w' => e = .returned (.bool true) ∧ w = w') := Lib.hid (fun w => bool_is (isVar a w) ((varB4 a).trans ha))
  have Cb : Hid (∀ w, Calls Tryz.prog 121 #[.int .i64 b] w fun e w' => e = .returned (.bool true) ∧ w = w') := Lib.hid (fun w => bool_is (isVar b w) ((varB4 b).trans hb))
  clear hd ha hb
  go_enter Tryz.func91, Tryz.ntmps91
  go_wp2_with fail
  (with_reducible refine (HCO.out _).mono ?_)
  rintro e w1 ⟨rfl, g1⟩
  obtain ⟨x, rfl⟩ := ext_of g1
  have HX := Lib.hid g1; clear g1 hm
  have hm := fun n w => methAssert n rel a b w
  go_wp2_with fail
  refine wp_region_ext (by kernel_rfl) (by kernel_rfl) ?_
  repeat (go_big_quiet_step ((first | (with_reducible exact ext_same (Cd.out _)) | (with_reducible exact ext_same (Ca.out _)) | (with_reducible exact ext_same (Cb.out _)) | (with_reducible exact ext_grow (HCN.out _)))))
  refine wpQuiet_nil ?_
  intro _ hw'
  obtain ⟨y, hw''⟩ := hw'
  subst hw''
  have HY := Lib.hid (ext_grew _ y)
  go_wp2_with (first | fail | ((with_reducible refine (isRel rel _).mono ?_); rintro e w2 ⟨rfl, rfl⟩))
  all_goals
    go_ret
    exact ⟨by simp [tailB, *], (by repeat (first | exact Below.refl _ _ | apply grew_ext | apply grew_al | apply grew_dn | (refine grew_set ?_ (by repeat (first | exact Nat.le_refl _ | apply le_ext | apply le_al | apply le_pl)) _)))⟩

set_option maxRecDepth 100000 in
set_option maxHeartbeats 4000000 in
theorem implInsOkTRet (d a b rel lo hi to procs size : Int) (w : World) 
    (hq : insEqB ⟨(12 : Int), 0, a, 0, 0, 0, 0, 0⟩ ⟨(12 : Int), d, a, b, rel, lo, hi, to⟩ = true) (hd : varB d = true) (ha : varB a = true) (hb : varB b = true) :
    Calls Tryz.prog 91 #[Ins.v ⟨(12 : Int), d, a, b, rel, lo, hi, to⟩, .int .i64 procs, .int .i64 size] w fun e w' => e = .returned (.bool (tailB ⟨(12 : Int), d, a, b, rel, lo, hi, to⟩ procs size)) ∧ Grew w w' := by
  have HCO : Hid (∀ w, Calls Tryz.prog 120 #[Ins.v ⟨(12 : Int), d, a, b, rel, lo, hi, to⟩] w fun e w' => e = .returned (.iface 229 (.agg #[.int .i64 a])) ∧ Grew w w') := Lib.hid (fun w => by
    have := codeOf ⟨(12 : Int), d, a, b, rel, lo, hi, to⟩ w
    rw [show codeV ⟨(12 : Int), d, a, b, rel, lo, hi, to⟩ = .iface 229 (.agg #[.int .i64 a]) from rfl] at this
    exact this)
  have HCN : Hid (∀ w, Calls Tryz.prog 203 #[.agg #[.int .i64 a]] w fun e w' => e = .returned (.agg #[.int .i64 (12 : Int), .int .i64 0, .int .i64 a, .int .i64 0, .int .i64 0, .int .i64 0, .int .i64 0, .int .i64 0]) ∧ Grew w w') := Lib.hid (fun w => insRet a w)
  have hm := fun n w => methRet n a w
  have Cd : Hid (∀ w, Calls Tryz.prog 121 #[.int .i64 d] w fun e w' => e = .returned (.bool true) ∧ w = w') := Lib.hid (fun w => bool_is (isVar d w) ((varB4 d).trans hd))
  have Ca : Hid (∀ w, Calls Tryz.prog 121 #[.int .i64 a] w fun e w' => e = .returned (.bool true) ∧ w = w') := Lib.hid (fun w => bool_is (isVar a w) ((varB4 a).trans ha))
  have Cb : Hid (∀ w, Calls Tryz.prog 121 #[.int .i64 b] w fun e w' => e = .returned (.bool true) ∧ w = w') := Lib.hid (fun w => bool_is (isVar b w) ((varB4 b).trans hb))
  clear hd ha hb
  go_enter Tryz.func91, Tryz.ntmps91
  go_wp2_with fail
  (with_reducible refine (HCO.out _).mono ?_)
  rintro e w1 ⟨rfl, g1⟩
  obtain ⟨x, rfl⟩ := ext_of g1
  have HX := Lib.hid g1; clear g1 hm
  have hm := fun n w => methRet n a w
  go_wp2_with fail
  refine wp_region_ext (by kernel_rfl) (by kernel_rfl) ?_
  repeat (go_big_quiet_step ((first | (with_reducible exact ext_same (Cd.out _)) | (with_reducible exact ext_same (Ca.out _)) | (with_reducible exact ext_same (Cb.out _)) | (with_reducible exact ext_grow (HCN.out _)))))
  refine wpQuiet_nil ?_
  intro _ hw'
  obtain ⟨y, hw''⟩ := hw'
  subst hw''
  have HY := Lib.hid (ext_grew _ y)
  go_wp2_with (first | fail | fail)
  all_goals
    go_ret
    exact ⟨rfl, (by repeat (first | exact Below.refl _ _ | apply grew_ext | apply grew_al | apply grew_dn | (refine grew_set ?_ (by repeat (first | exact Nat.le_refl _ | apply le_ext | apply le_al | apply le_pl)) _)))⟩
end Go.Proofs.YtdddhnepanjmfaaGreat
