/- What a step makes of a state: the program's act. No condition. -/
import Derived.Test.YtpmfpgbpndobpaaGreatRegS
namespace Go.Proofs.YtpmfpgbpndobpaaGreat
open Go.RowKit
set_option linter.unusedVariables false
set_option linter.unusedSimpArgs false
attribute [local go_sem] ext_cell ext_frozen ext_lt ext_le ext_le1 lt_s2 lt_s3 lt_s4 lt_s5 lt_s6 ext_lt1 ext_lt2 ext_lt3
attribute [local go_sem] asArith asNotArith asAny asNotAny asLoad asNotLoad asStore asNotStore asIf asNotIf asJump asNotJump asCall asNotCall asAssert asNotAssert asRet asNotRet

theorem chg_preS {bs : List Bx} {w w' : World} {z : Nat} (h : Chg (preB bs) w w') (hp : ∀ b, b ∈ bs → b.al = none → b.at0 = z) : Chg (fun b => b = z) w w' :=
  h.trans (Chg.refl (fun b => b = z) _) (fun i _ hi => by obtain ⟨b, hb, ha, rfl⟩ := hi; exact hp b hb ha) (fun _ _ h => h)
theorem st_setend {w : World} {g : Nat} {zs : List Itv} {lo hi : Int} (h : Blk w g 110 (stC zs lo hi)) (h4 : zs.length = 4) (a b : Int) :
    Blk ((w.setCell ⟨g, 8, none⟩ (.int .i64 a)).setCell ⟨g, 9, none⟩ (.int .i64 b)) g 110 (stC zs a b) := by
  match zs, h4 with
  | [x0, x1, x2, x3], _ => exact (h.set_ 8 _).set_ 9 _
theorem setI_nat (xs : List Itv) (j : Nat) (x : Itv) : setI xs (j : Int) x = xs.set j x := by simp [setI]
theorem set_cell {xs : List Itv} (h4 : xs.length = 4) {j : Nat} (hj : j < 4) : ∃ x, xs[j]? = some x := ⟨xs[j]'(by omega), List.getElem?_eq_getElem (by omega)⟩
set_option maxRecDepth 100000 in
set_option maxHeartbeats 4000000 in
theorem implAct5 (sb : Nat) (pa : Option Addr) (pn pc : Nat) (ps : List Prc) (sa : Option Addr) (sn sc : Nat) (ss : List Sum) (d a b rel lo hi to : Int) (xs : List Itv) (slo shi : Int) (w : World) (hBk : Blk w sb 110 (stC xs slo shi)) (ho : stOkB true xs slo shi = true) (hd : varB d = true) (ha : varB a = true) (hb : varB b = true) :
    Calls Tryz.prog 102 #[.pointer (some ⟨sb, 0, none⟩), .agg #[.slice pa pn pc], .slice sa sn sc, Ins.v ⟨5, d, a, b, rel, lo, hi, to⟩] w (RetAct (actI ps ss ⟨5, d, a, b, rel, lo, hi, to⟩ xs ⟨slo, shi⟩) sb w) := by
  have h4 : xs.length = 4 := (stOk_parts ho).1
  have H4 := Lib.hid h4
  have HO := Lib.hid ho
  have hsb := hBk.lt
  have HB := Lib.hid hBk
  have HKd := Lib.hid hd
  have dok := nthI_ok ho hd
  obtain ⟨dj, hed, hjd, hxd⟩ := nthI_get h4 hd
  subst hed
  obtain ⟨⟨dl, dh⟩, hXd⟩ : ∃ x, nthI xs dj = x := ⟨_, rfl⟩
  have HXd := Lib.hid (show xs[dj]? = some (⟨dl, dh⟩ : Itv) from by rw [← hXd]; exact hxd)
  have HNd := Lib.hid hXd
  have hdq : ¬ (4 : Int) ≤ (dj : Int) := by omega
  have HOd := Lib.hid (show itvB (⟨dl, dh⟩ : Itv) = true from by rw [← hXd]; exact dok)
  have HV : Hid (actI ps ss ⟨5, (dj : Int), a, b, rel, lo, hi, to⟩ xs ⟨slo, shi⟩ = some (xs.set dj ⟨lo, hi⟩, ⟨slo, shi⟩)) := Lib.hid (by simp [actI, setI_nat])
  have HC : Hid (∀ W, Calls Tryz.prog 95 #[Ins.v ⟨5, (dj : Int), a, b, rel, lo, hi, to⟩] W fun e w' => e = .returned (.iface 146 (.agg #[.int .i64 (dj : Int), .int .i64 lo, .int .i64 hi])) ∧ Grew W w') := Lib.hid (fun W => codeOf ⟨5, (dj : Int), a, b, rel, lo, hi, to⟩ W)
  clear hXd hxd dok h4 ho hBk hd ha hb
  go_enter Tryz.func102, Tryz.ntmps102
  go_wp2_with fail
  refine (HC.out _).mono ?_
  rintro e w1 ⟨rfl, g1⟩
  have hG := show Grew w w1 from grew_tr (gr) g1
  have HW1 := Lib.hid hG
  have HB1 := Lib.hid (HB.out.grew hG)
  have hs1 := HB1.out.lt
  clear g1 hG HC HB hsb
  obtain ⟨z0, z1⟩ := st_cell HB1.out H4.out HXd.out
  have zf := fun i => HB1.out.frozen i
  simp only at z0 z1
  go_wp2_with fail
  go_region
  go_wp2
  go_ret
  refine ⟨by rw [HV.out]; rfl, ⟨xs.set dj ⟨lo, hi⟩, slo, shi, ?_, fun z hz => by rw [HV.out] at hz; cases hz; exact ⟨rfl, rfl⟩⟩, ?_⟩
  · (repeat (first | with_reducible exact (st_set HB1.out (by simp only [List.length_set, H4.out]) hjd _ _) | with_reducible refine Blk.alloc ?_ _ | with_reducible refine Blk.grew ?_ (grew_d (Below.refl _ _))))
  · (repeat (first | with_reducible exact (chg_gr (Chg.refl _ _) HW1.out) | with_reducible refine chg_gr ?_ (grew_d (Below.refl _ _)) | with_reducible refine chg_gr ?_ (grew_al (Below.refl _ _) _) | with_reducible refine Chg.alw (F := fun b => b = sb) ?_ rfl _))
set_option maxRecDepth 100000 in
set_option maxHeartbeats 4000000 in
theorem implAct1 (sb : Nat) (pa : Option Addr) (pn pc : Nat) (ps : List Prc) (sa : Option Addr) (sn sc : Nat) (ss : List Sum) (d a b rel lo hi to : Int) (xs : List Itv) (slo shi : Int) (w : World) (hBk : Blk w sb 110 (stC xs slo shi)) (ho : stOkB true xs slo shi = true) (hd : varB d = true) (ha : varB a = true) (hb : varB b = true) :
    Calls Tryz.prog 102 #[.pointer (some ⟨sb, 0, none⟩), .agg #[.slice pa pn pc], .slice sa sn sc, Ins.v ⟨1, d, a, b, rel, lo, hi, to⟩] w (RetAct (actI ps ss ⟨1, d, a, b, rel, lo, hi, to⟩ xs ⟨slo, shi⟩) sb w) := by
  have h4 : xs.length = 4 := (stOk_parts ho).1
  have H4 := Lib.hid h4
  have HO := Lib.hid ho
  have hsb := hBk.lt
  have HB := Lib.hid hBk
  have HKa := Lib.hid ha
  have aok := nthI_ok ho ha
  obtain ⟨aj, hea, hja, hxa⟩ := nthI_get h4 ha
  subst hea
  obtain ⟨⟨al, ah⟩, hXa⟩ : ∃ x, nthI xs aj = x := ⟨_, rfl⟩
  have HXa := Lib.hid (show xs[aj]? = some (⟨al, ah⟩ : Itv) from by rw [← hXa]; exact hxa)
  have HNa := Lib.hid hXa
  have haq : ¬ (4 : Int) ≤ (aj : Int) := by omega
  have HOa := Lib.hid (show itvB (⟨al, ah⟩ : Itv) = true from by rw [← hXa]; exact aok)
  have HKb := Lib.hid hb
  have bok := nthI_ok ho hb
  obtain ⟨bj, heb, hjb, hxb⟩ := nthI_get h4 hb
  subst heb
  obtain ⟨⟨bl, bh⟩, hXb⟩ : ∃ x, nthI xs bj = x := ⟨_, rfl⟩
  have HXb := Lib.hid (show xs[bj]? = some (⟨bl, bh⟩ : Itv) from by rw [← hXb]; exact hxb)
  have HNb := Lib.hid hXb
  have hbq : ¬ (4 : Int) ≤ (bj : Int) := by omega
  have HOb := Lib.hid (show itvB (⟨bl, bh⟩ : Itv) = true from by rw [← hXb]; exact bok)
  have HKd := Lib.hid hd
  have dok := nthI_ok ho hd
  obtain ⟨dj, hed, hjd, hxd⟩ := nthI_get h4 hd
  subst hed
  obtain ⟨⟨dl, dh⟩, hXd⟩ : ∃ x, nthI xs dj = x := ⟨_, rfl⟩
  have HXd := Lib.hid (show xs[dj]? = some (⟨dl, dh⟩ : Itv) from by rw [← hXd]; exact hxd)
  have HNd := Lib.hid hXd
  have hdq : ¬ (4 : Int) ≤ (dj : Int) := by omega
  have HOd := Lib.hid (show itvB (⟨dl, dh⟩ : Itv) = true from by rw [← hXd]; exact dok)
  have HI := Lib.hid (fun W => implItvDoC 1 ⟨al, ah⟩ ⟨bl, bh⟩ W (by omega) HOa.out HOb.out (by decide))
  rw [optV_eq] at HI
  have HV0 : Hid (actI ps ss ⟨1, (dj : Int), (aj : Int), (bj : Int), rel, lo, hi, to⟩ xs ⟨slo, shi⟩ = (doI 1 ⟨al, ah⟩ ⟨bl, bh⟩).map fun r => (xs.set dj r, (⟨slo, shi⟩ : Itv))) := Lib.hid (by simp [actI, setI_nat, hXa, hXb])
  obtain ⟨O, hO⟩ : ∃ o, doI 1 ⟨al, ah⟩ ⟨bl, bh⟩ = o := ⟨_, rfl⟩
  rw [hO] at HI HV0
  obtain ⟨⟨rl, rh⟩, hr⟩ : ∃ m, O.getD ⟨0, 0⟩ = m := ⟨_, rfl⟩
  obtain ⟨B, hB⟩ : ∃ x, O.isSome = x := ⟨_, rfl⟩
  rw [hr, hB] at HI
  have HR := Lib.hid hr
  have HBo := Lib.hid hB
  have HC : Hid (∀ W, Calls Tryz.prog 95 #[Ins.v ⟨1, (dj : Int), (aj : Int), (bj : Int), rel, lo, hi, to⟩] W fun e w' => e = .returned (.iface 166 (.agg #[.int .i64 (1 : Int), .int .i64 (dj : Int), .int .i64 (aj : Int), .int .i64 (bj : Int)])) ∧ Grew W w') := Lib.hid (fun W => codeOf ⟨1, (dj : Int), (aj : Int), (bj : Int), rel, lo, hi, to⟩ W)
  clear hXa hxa aok hXb hxb bok hXd hxd dok h4 ho hBk hd ha hb hO hr hB
  go_enter Tryz.func102, Tryz.ntmps102
  go_wp2_with fail
  refine (HC.out _).mono ?_
  rintro e w1 ⟨rfl, g1⟩
  have hG := show Grew w w1 from grew_tr (gr) g1
  have HW1 := Lib.hid hG
  have HB1 := Lib.hid (HB.out.grew hG)
  have hs1 := HB1.out.lt
  clear g1 hG HC HB hsb
  go_upto_region 7 with fail
  refine wp_letH ?_
  intro E hE
  have GE := Lib.hid (show Grew w1 E from by rw [hE]; exact gr)
  have q0 : E.cell? ⟨w1.heap.size, 0, none⟩ = some (.int .i64 (1 : Int)) := by rw [hE]; simp [go_sem]
  have q1 : E.cell? ⟨w1.heap.size, 1, none⟩ = some (.int .i64 (dj : Int)) := by rw [hE]; simp [go_sem]
  have q2 : E.cell? ⟨w1.heap.size, 2, none⟩ = some (.int .i64 (aj : Int)) := by rw [hE]; simp [go_sem]
  have q3 : E.cell? ⟨w1.heap.size, 3, none⟩ = some (.int .i64 (bj : Int)) := by rw [hE]; simp [go_sem]
  obtain ⟨q4, q5⟩ := st_cell (HB1.out.grew GE.out) H4.out HXa.out
  obtain ⟨q6, q7⟩ := st_cell (HB1.out.grew GE.out) H4.out HXb.out
  simp only at q4 q5 q6 q7
  have hne : w1.heap.size ≠ sb := by omega
  clear hE
  obtain ⟨VV, v0, v1, v2, v3, v4, v5, v6, v7, v8, v9, v10, v11, v12, v13, v14, v15, v16, v17, v18, v19, v20, v21, v22, -⟩ := vl [.pointer (some ⟨w1.heap.size, 0, none⟩), .int .i64 ((1 : Int)), .pointer (some ⟨sb, 0, none⟩), .pointer (some ⟨w1.heap.size, 2, none⟩), .int .i64 ((aj : Int)), .pointer (some ⟨sb, 0, none⟩), .pointer (some ⟨sb, 0, none⟩), .pointer (some ⟨sb, aj * 2, none⟩), .agg #[.int .i64 al, .int .i64 ah], .pointer (some ⟨sb, 0, none⟩), .pointer (some ⟨w1.heap.size, 3, none⟩), .int .i64 ((bj : Int)), .pointer (some ⟨sb, 0, none⟩), .pointer (some ⟨sb, 0, none⟩), .pointer (some ⟨sb, bj * 2, none⟩), .agg #[.int .i64 bl, .int .i64 bh], .tuple #[.agg #[.int .i64 rl, .int .i64 rh], .bool B], .tuple #[.agg #[.int .i64 rl, .int .i64 rh], .bool B], .agg #[.int .i64 rl, .int .i64 rh], .bool B, undef, undef, .bool B]
  have HK := fun W (c : Chg (preB [⟨some 20, 0, 21, 31, #[.int .i64 0, .int .i64 0], #[.int .i64 rl, .int .i64 rh]⟩]) _ W) => And.intro (ck c q0) (And.intro (ck c q1) (And.intro (ck c q2) (And.intro (ck c q3) (And.intro (ck c q4) (And.intro (ck c q5) (And.intro (ck c q6) (ck c q7)))))))
  refine region_box 175 [⟨some 20, 0, 21, 31, #[.int .i64 0, .int .i64 0], #[.int .i64 rl, .int .i64 rh]⟩] VV (by kernel_rfl) rfl (by kernel_rfl) rfl (by intro b hb ha; simp only [List.mem_cons, List.not_mem_nil, or_false] at hb; rcases hb with rfl <;> first | (cases ha; done) | assumption) (by intro j k b c hjk hj hk hb hc; rcases j with _ | _ | j <;> rcases k with _ | _ | k <;> simp at hj hk hjk <;> (try subst hj) <;> (try subst hk) <;> first | (cases hb; done) | (cases hc; done) | (simp only; omega)) ⟨?_, ?_, ?_, ?_, ?_, ?_, ?_, ?_, ?_, ?_, ?_, ?_, ?_, ?_, ?_, ?_, ?_, ?_, ?_, ?_, ?_, ?_, ?_, trivial⟩ ?_
  · exact b_vx v0 rfl rfl (fun gm a W h => by have e10 : a.eval (.tmp 10) = .pointer (some ⟨w1.heap.size, 0, none⟩) := (h.slot 10 (by kernel_rfl)).trans rfl; simp only [execOp, e10]; first | (simp [go_sem, haq, hbq] <;> first | exact wrapIn | rfl) | kernel_rfl)
  · exact b_vx v1 rfl rfl (fun gm a W h => by have e38 := (h.vb 0 38).trans v0; obtain ⟨kq0, kq1, kq2, kq3, kq4, kq5, kq6, kq7⟩ := HK W h.chg; simp only [execOp, e38]; first | (simp [go_sem, kq0, kq1, kq2, kq3, kq4, kq5, kq6, kq7, haq, hbq] <;> first | exact wrapIn | rfl) | kernel_rfl)
  · exact b_vx v2 rfl rfl (fun gm a W h => by have e0 : a.eval (.tmp 0) = .pointer (some ⟨sb, 0, none⟩) := (h.slot 0 (by kernel_rfl)).trans rfl; simp only [execOp, e0]; first | (simp [go_sem, haq, hbq] <;> first | exact wrapIn | rfl) | kernel_rfl)
  · exact b_vx v3 rfl rfl (fun gm a W h => by have e10 : a.eval (.tmp 10) = .pointer (some ⟨w1.heap.size, 0, none⟩) := (h.slot 10 (by kernel_rfl)).trans rfl; simp only [execOp, e10]; first | (simp [go_sem, haq, hbq] <;> first | exact wrapIn | rfl) | kernel_rfl)
  · exact b_vx v4 rfl rfl (fun gm a W h => by have e41 := (h.vb 3 41).trans v3; obtain ⟨kq0, kq1, kq2, kq3, kq4, kq5, kq6, kq7⟩ := HK W h.chg; simp only [execOp, e41]; first | (simp [go_sem, kq0, kq1, kq2, kq3, kq4, kq5, kq6, kq7, haq, hbq] <;> first | exact wrapIn | rfl) | kernel_rfl)
  · exact b_vx v5 rfl rfl (fun gm a W h => by have e40 := (h.vb 2 40).trans v2; simp only [execOp, e40]; first | (simp [go_sem, haq, hbq] <;> first | exact wrapIn | rfl) | kernel_rfl)
  · exact b_vx v6 rfl rfl (fun gm a W h => by have e43 := (h.vb 5 43).trans v5; simp only [execOp, e43]; first | (simp [go_sem, haq, hbq] <;> first | exact wrapIn | rfl) | kernel_rfl)
  · exact b_vx v7 rfl rfl (fun gm a W h => by have e44 := (h.vb 6 44).trans v6; have e42 := (h.vb 4 42).trans v4; simp only [execOp, e44, e42]; first | (simp [go_sem, haq, hbq] <;> first | exact wrapIn | rfl) | kernel_rfl)
  · exact b_vx v8 rfl rfl (fun gm a W h => by have e45 := (h.vb 7 45).trans v7; obtain ⟨kq0, kq1, kq2, kq3, kq4, kq5, kq6, kq7⟩ := HK W h.chg; simp only [execOp, e45]; first | (simp [go_sem, kq0, kq1, kq2, kq3, kq4, kq5, kq6, kq7, haq, hbq] <;> first | exact wrapIn | rfl) | kernel_rfl)
  · exact b_vx v9 rfl rfl (fun gm a W h => by have e0 : a.eval (.tmp 0) = .pointer (some ⟨sb, 0, none⟩) := (h.slot 0 (by kernel_rfl)).trans rfl; simp only [execOp, e0]; first | (simp [go_sem, haq, hbq] <;> first | exact wrapIn | rfl) | kernel_rfl)
  · exact b_vx v10 rfl rfl (fun gm a W h => by have e10 : a.eval (.tmp 10) = .pointer (some ⟨w1.heap.size, 0, none⟩) := (h.slot 10 (by kernel_rfl)).trans rfl; simp only [execOp, e10]; first | (simp [go_sem, haq, hbq] <;> first | exact wrapIn | rfl) | kernel_rfl)
  · exact b_vx v11 rfl rfl (fun gm a W h => by have e48 := (h.vb 10 48).trans v10; obtain ⟨kq0, kq1, kq2, kq3, kq4, kq5, kq6, kq7⟩ := HK W h.chg; simp only [execOp, e48]; first | (simp [go_sem, kq0, kq1, kq2, kq3, kq4, kq5, kq6, kq7, haq, hbq] <;> first | exact wrapIn | rfl) | kernel_rfl)
  · exact b_vx v12 rfl rfl (fun gm a W h => by have e47 := (h.vb 9 47).trans v9; simp only [execOp, e47]; first | (simp [go_sem, haq, hbq] <;> first | exact wrapIn | rfl) | kernel_rfl)
  · exact b_vx v13 rfl rfl (fun gm a W h => by have e50 := (h.vb 12 50).trans v12; simp only [execOp, e50]; first | (simp [go_sem, haq, hbq] <;> first | exact wrapIn | rfl) | kernel_rfl)
  · exact b_vx v14 rfl rfl (fun gm a W h => by have e51 := (h.vb 13 51).trans v13; have e49 := (h.vb 11 49).trans v11; simp only [execOp, e51, e49]; first | (simp [go_sem, haq, hbq] <;> first | exact wrapIn | rfl) | kernel_rfl)
  · exact b_vx v15 rfl rfl (fun gm a W h => by have e52 := (h.vb 14 52).trans v14; obtain ⟨kq0, kq1, kq2, kq3, kq4, kq5, kq6, kq7⟩ := HK W h.chg; simp only [execOp, e52]; first | (simp [go_sem, kq0, kq1, kq2, kq3, kq4, kq5, kq6, kq7, haq, hbq] <;> first | exact wrapIn | rfl) | kernel_rfl)
  · exact b_cx v16 rfl rfl (fun gm a W h => by
      have e39 := (h.vb 1 39).trans v1
      have e46 := (h.vb 8 46).trans v8
      have e53 := (h.vb 15 53).trans v15
      refine Eq.trans (b := .ok (.enter 132 #[a.eval (.tmp 39), a.eval (.tmp 46), a.eval (.tmp 53)]) W) (by kernel_rfl) ?_
      rw [e39, e46, e53]) (fun W => HI.out W)
  · exact b_vx v17 rfl rfl (fun gm a W h => by have e54 := (h.vb 16 54).trans v16; simp only [execOp, e54]; first | (simp [go_sem, haq, hbq] <;> first | exact wrapIn | rfl) | kernel_rfl)
  · exact b_vx v18 rfl rfl (fun gm a W h => by have e37 := (h.vb 17 37).trans v17; simp only [execOp, e37]; first | (simp [go_sem, haq, hbq] <;> first | exact wrapIn | rfl) | kernel_rfl)
  · exact b_vx v19 rfl rfl (fun gm a W h => by have e37 := (h.vb 17 37).trans v17; simp only [execOp, e37]; first | (simp [go_sem, haq, hbq] <;> first | exact wrapIn | rfl) | kernel_rfl)
  · exact b_alloc 0 _ rfl rfl rfl (by kernel_rfl) rfl (fun gm a W h => by kernel_rfl)
  · refine b_store 0 _ rfl rfl rfl v21 (fun j hj => by cases hj; exact ⟨11, ⟨⟨⟨20, .data⟩, by simp, rfl, by kernel_rfl⟩, by kernel_rfl⟩⟩) rfl (fun gm a W h hold hb => ?_)
    have e11 : a.eval (.tmp 11) = .pointer (some ⟨gm 0, 0, none⟩) := (h.vb 20 11).trans rfl
    have e55 := (h.vb 18 55).trans v18
    simp only at hb
    have hf := fun j => hb.frozen j
    have c0 := hb.cell 0
    have c1 := hb.cell 1
    refine ⟨_, by (simp only [execOp, e11, e55]; simp [go_sem, hf, c0, c1, haq, hbq]; try rfl), (hb.set_ 0 _).set_ 1 _, chgs2 _ _ _ _ _ _⟩
  · exact b_vx v22 rfl rfl (fun gm a W h => by have e56 := (h.vb 19 56).trans v19; simp only [execOp, e56]; first | (simp [go_sem, haq, hbq] <;> first | exact wrapIn | rfl) | kernel_rfl)
  intro gm vs w9 hc9 hb9 hold9 hge9 hv9
  have x0 := (hv9 0 38 (by kernel_rfl)).trans v0
  have x1 := (hv9 1 39 (by kernel_rfl)).trans v1
  have x2 := (hv9 2 40 (by kernel_rfl)).trans v2
  have x3 := (hv9 3 41 (by kernel_rfl)).trans v3
  have x4 := (hv9 4 42 (by kernel_rfl)).trans v4
  have x5 := (hv9 5 43 (by kernel_rfl)).trans v5
  have x6 := (hv9 6 44 (by kernel_rfl)).trans v6
  have x7 := (hv9 7 45 (by kernel_rfl)).trans v7
  have x8 := (hv9 8 46 (by kernel_rfl)).trans v8
  have x9 := (hv9 9 47 (by kernel_rfl)).trans v9
  have x10 := (hv9 10 48 (by kernel_rfl)).trans v10
  have x11 := (hv9 11 49 (by kernel_rfl)).trans v11
  have x12 := (hv9 12 50 (by kernel_rfl)).trans v12
  have x13 := (hv9 13 51 (by kernel_rfl)).trans v13
  have x14 := (hv9 14 52 (by kernel_rfl)).trans v14
  have x15 := (hv9 15 53 (by kernel_rfl)).trans v15
  have x16 := (hv9 16 54 (by kernel_rfl)).trans v16
  have x17 := (hv9 17 37 (by kernel_rfl)).trans v17
  have x18 := (hv9 18 55 (by kernel_rfl)).trans v18
  have x19 := (hv9 19 56 (by kernel_rfl)).trans v19
  have x20 : vs 20 = .pointer (some ⟨gm 0, 0, none⟩) := (hv9 20 11 (by kernel_rfl)).trans rfl
  have x22 := (hv9 22 12 (by kernel_rfl)).trans v22
  have y0 := hb9 0 _ rfl
  have g0 := hge9 0 _ 20 rfl rfl
  simp only at y0
  simp only [putAll, Act.put, List.setIfInBounds_toArray, List.set_cons_zero, List.set_cons_succ, Nat.zero_add, Nat.reduceAdd, x0, x1, x2, x3, x4, x5, x6, x7, x8, x9, x10, x11, x12, x13, x14, x15, x16, x17, x18, x19, x20, x22]
  clear hb9 hold9 hge9 hv9 x0 x1 x2 x3 x4 x5 x6 x7 x8 x9 x10 x11 x12 x13 x14 x15 x16 x17 x18 x19 x20 x22 v0 v1 v2 v3 v4 v5 v6 v7 v8 v9 v10 v11 v12 v13 v14 v15 v16 v17 v18 v19 v20 v21 v22 HK VV
  have G9 := chg_pre hc9 (by intro b hb; simp only [List.mem_cons, List.not_mem_nil, or_false] at hb; subst hb; simp)
  have HW9 := Lib.hid (grew_tr HW1.out (grew_tr GE.out G9))
  have HB9 := Lib.hid (HB1.out.grew (grew_tr GE.out G9))
  have hge := GE.out.size
  obtain ⟨g11, hg11⟩ : ∃ g, gm 0 = g := ⟨_, rfl⟩
  rw [hg11] at y0 g0 ⊢
  have r0 := y0.cell 0
  have r1 := y0.cell 1
  have rlt := y0.lt
  have n11 : g11 ≠ sb := by omega
  have u0 := (G9.cell (p := ⟨w1.heap.size, 0, none⟩) (World.block_lt_of_cell? _ _ q0)).trans q0
  have u1 := (G9.cell (p := ⟨w1.heap.size, 1, none⟩) (World.block_lt_of_cell? _ _ q1)).trans q1
  have u3 := (G9.cell (p := ⟨w1.heap.size, 3, none⟩) (World.block_lt_of_cell? _ _ q3)).trans q3
  have ul := World.block_lt_of_cell? _ _ u0
  simp only at ul
  simp only [List.getElem?_toArray, List.getElem?_cons_zero, List.getElem?_cons_succ] at r0 r1
  clear y0 hg11 hc9 G9 q0 q1 q2 q3 q4 q5 q6 q7 g0 gm vs hge
  cases B
  · have HV : Hid (actI ps ss ⟨1, (dj : Int), (aj : Int), (bj : Int), rel, lo, hi, to⟩ xs ⟨slo, shi⟩ = none) := Lib.hid (by rw [HV0.out]; cases O with | none => rfl | some x => (have := HBo.out; simp at this))
    go_wp2
    go_ret
    exact ⟨by rw [HV.out]; rfl, ⟨xs, slo, shi, HB9.out, fun z hz => by rw [HV.out] at hz; cases hz⟩, chg_gr (Chg.refl _ _) HW9.out⟩
  · have HV : Hid (actI ps ss ⟨1, (dj : Int), (aj : Int), (bj : Int), rel, lo, hi, to⟩ xs ⟨slo, shi⟩ = some (xs.set dj ⟨rl, rh⟩, ⟨slo, shi⟩)) := Lib.hid (by
      rw [HV0.out]
      cases O with
      | none => (have := HBo.out; simp at this)
      | some x => have := HR.out; simp only [Option.getD_some] at this; rw [this]; rfl)
    clear HV0 HBo HR
    obtain ⟨z0, z1⟩ := st_cell HB9.out H4.out HXd.out
    have zf := fun i => HB9.out.frozen i
    have zl := HB9.out.lt
    simp only at z0 z1
    go_wp2_with fail
    go_region
    go_wp2
    go_ret
    refine ⟨by rw [HV.out]; rfl, ⟨xs.set dj ⟨rl, rh⟩, slo, shi, ?_, fun z hz => by rw [HV.out] at hz; cases hz; exact ⟨rfl, rfl⟩⟩, ?_⟩
    · (repeat (first | with_reducible exact (st_set HB9.out (by simp only [List.length_set, H4.out]) hjd _ _) | with_reducible refine Blk.alloc ?_ _ | with_reducible refine Blk.grew ?_ (grew_d (Below.refl _ _))))
    · (repeat (first | with_reducible exact (chg_gr (Chg.refl _ _) HW9.out) | with_reducible refine chg_gr ?_ (grew_d (Below.refl _ _)) | with_reducible refine chg_gr ?_ (grew_al (Below.refl _ _) _) | with_reducible refine Chg.alw (F := fun b => b = sb) ?_ rfl _))
set_option maxRecDepth 100000 in
set_option maxHeartbeats 4000000 in
theorem implAct2 (sb : Nat) (pa : Option Addr) (pn pc : Nat) (ps : List Prc) (sa : Option Addr) (sn sc : Nat) (ss : List Sum) (d a b rel lo hi to : Int) (xs : List Itv) (slo shi : Int) (w : World) (hBk : Blk w sb 110 (stC xs slo shi)) (ho : stOkB true xs slo shi = true) (hd : varB d = true) (ha : varB a = true) (hb : varB b = true) :
    Calls Tryz.prog 102 #[.pointer (some ⟨sb, 0, none⟩), .agg #[.slice pa pn pc], .slice sa sn sc, Ins.v ⟨2, d, a, b, rel, lo, hi, to⟩] w (RetAct (actI ps ss ⟨2, d, a, b, rel, lo, hi, to⟩ xs ⟨slo, shi⟩) sb w) := by
  have h4 : xs.length = 4 := (stOk_parts ho).1
  have H4 := Lib.hid h4
  have HO := Lib.hid ho
  have hsb := hBk.lt
  have HB := Lib.hid hBk
  have HKa := Lib.hid ha
  have aok := nthI_ok ho ha
  obtain ⟨aj, hea, hja, hxa⟩ := nthI_get h4 ha
  subst hea
  obtain ⟨⟨al, ah⟩, hXa⟩ : ∃ x, nthI xs aj = x := ⟨_, rfl⟩
  have HXa := Lib.hid (show xs[aj]? = some (⟨al, ah⟩ : Itv) from by rw [← hXa]; exact hxa)
  have HNa := Lib.hid hXa
  have haq : ¬ (4 : Int) ≤ (aj : Int) := by omega
  have HOa := Lib.hid (show itvB (⟨al, ah⟩ : Itv) = true from by rw [← hXa]; exact aok)
  have HKb := Lib.hid hb
  have bok := nthI_ok ho hb
  obtain ⟨bj, heb, hjb, hxb⟩ := nthI_get h4 hb
  subst heb
  obtain ⟨⟨bl, bh⟩, hXb⟩ : ∃ x, nthI xs bj = x := ⟨_, rfl⟩
  have HXb := Lib.hid (show xs[bj]? = some (⟨bl, bh⟩ : Itv) from by rw [← hXb]; exact hxb)
  have HNb := Lib.hid hXb
  have hbq : ¬ (4 : Int) ≤ (bj : Int) := by omega
  have HOb := Lib.hid (show itvB (⟨bl, bh⟩ : Itv) = true from by rw [← hXb]; exact bok)
  have HKd := Lib.hid hd
  have dok := nthI_ok ho hd
  obtain ⟨dj, hed, hjd, hxd⟩ := nthI_get h4 hd
  subst hed
  obtain ⟨⟨dl, dh⟩, hXd⟩ : ∃ x, nthI xs dj = x := ⟨_, rfl⟩
  have HXd := Lib.hid (show xs[dj]? = some (⟨dl, dh⟩ : Itv) from by rw [← hXd]; exact hxd)
  have HNd := Lib.hid hXd
  have hdq : ¬ (4 : Int) ≤ (dj : Int) := by omega
  have HOd := Lib.hid (show itvB (⟨dl, dh⟩ : Itv) = true from by rw [← hXd]; exact dok)
  have HI := Lib.hid (fun W => implItvDoS 2 ⟨al, ah⟩ ⟨bl, bh⟩ W (by omega) HOa.out HOb.out (by decide))
  rw [optV_eq] at HI
  have HV0 : Hid (actI ps ss ⟨2, (dj : Int), (aj : Int), (bj : Int), rel, lo, hi, to⟩ xs ⟨slo, shi⟩ = (doI 2 ⟨al, ah⟩ ⟨bl, bh⟩).map fun r => (xs.set dj r, (⟨slo, shi⟩ : Itv))) := Lib.hid (by simp [actI, setI_nat, hXa, hXb])
  obtain ⟨O, hO⟩ : ∃ o, doI 2 ⟨al, ah⟩ ⟨bl, bh⟩ = o := ⟨_, rfl⟩
  rw [hO] at HI HV0
  obtain ⟨⟨rl, rh⟩, hr⟩ : ∃ m, O.getD ⟨0, 0⟩ = m := ⟨_, rfl⟩
  obtain ⟨B, hB⟩ : ∃ x, O.isSome = x := ⟨_, rfl⟩
  rw [hr, hB] at HI
  have HR := Lib.hid hr
  have HBo := Lib.hid hB
  have HC : Hid (∀ W, Calls Tryz.prog 95 #[Ins.v ⟨2, (dj : Int), (aj : Int), (bj : Int), rel, lo, hi, to⟩] W fun e w' => e = .returned (.iface 166 (.agg #[.int .i64 (2 : Int), .int .i64 (dj : Int), .int .i64 (aj : Int), .int .i64 (bj : Int)])) ∧ Grew W w') := Lib.hid (fun W => codeOf ⟨2, (dj : Int), (aj : Int), (bj : Int), rel, lo, hi, to⟩ W)
  clear hXa hxa aok hXb hxb bok hXd hxd dok h4 ho hBk hd ha hb hO hr hB
  go_enter Tryz.func102, Tryz.ntmps102
  go_wp2_with fail
  refine (HC.out _).mono ?_
  rintro e w1 ⟨rfl, g1⟩
  have hG := show Grew w w1 from grew_tr (gr) g1
  have HW1 := Lib.hid hG
  have HB1 := Lib.hid (HB.out.grew hG)
  have hs1 := HB1.out.lt
  clear g1 hG HC HB hsb
  go_upto_region 7 with fail
  refine wp_letH ?_
  intro E hE
  have GE := Lib.hid (show Grew w1 E from by rw [hE]; exact gr)
  have q0 : E.cell? ⟨w1.heap.size, 0, none⟩ = some (.int .i64 (2 : Int)) := by rw [hE]; simp [go_sem]
  have q1 : E.cell? ⟨w1.heap.size, 1, none⟩ = some (.int .i64 (dj : Int)) := by rw [hE]; simp [go_sem]
  have q2 : E.cell? ⟨w1.heap.size, 2, none⟩ = some (.int .i64 (aj : Int)) := by rw [hE]; simp [go_sem]
  have q3 : E.cell? ⟨w1.heap.size, 3, none⟩ = some (.int .i64 (bj : Int)) := by rw [hE]; simp [go_sem]
  obtain ⟨q4, q5⟩ := st_cell (HB1.out.grew GE.out) H4.out HXa.out
  obtain ⟨q6, q7⟩ := st_cell (HB1.out.grew GE.out) H4.out HXb.out
  simp only at q4 q5 q6 q7
  have hne : w1.heap.size ≠ sb := by omega
  clear hE
  obtain ⟨VV, v0, v1, v2, v3, v4, v5, v6, v7, v8, v9, v10, v11, v12, v13, v14, v15, v16, v17, v18, v19, v20, v21, v22, -⟩ := vl [.pointer (some ⟨w1.heap.size, 0, none⟩), .int .i64 ((2 : Int)), .pointer (some ⟨sb, 0, none⟩), .pointer (some ⟨w1.heap.size, 2, none⟩), .int .i64 ((aj : Int)), .pointer (some ⟨sb, 0, none⟩), .pointer (some ⟨sb, 0, none⟩), .pointer (some ⟨sb, aj * 2, none⟩), .agg #[.int .i64 al, .int .i64 ah], .pointer (some ⟨sb, 0, none⟩), .pointer (some ⟨w1.heap.size, 3, none⟩), .int .i64 ((bj : Int)), .pointer (some ⟨sb, 0, none⟩), .pointer (some ⟨sb, 0, none⟩), .pointer (some ⟨sb, bj * 2, none⟩), .agg #[.int .i64 bl, .int .i64 bh], .tuple #[.agg #[.int .i64 rl, .int .i64 rh], .bool B], .tuple #[.agg #[.int .i64 rl, .int .i64 rh], .bool B], .agg #[.int .i64 rl, .int .i64 rh], .bool B, undef, undef, .bool B]
  have HK := fun W (c : Chg (preB [⟨some 20, 0, 21, 31, #[.int .i64 0, .int .i64 0], #[.int .i64 rl, .int .i64 rh]⟩]) _ W) => And.intro (ck c q0) (And.intro (ck c q1) (And.intro (ck c q2) (And.intro (ck c q3) (And.intro (ck c q4) (And.intro (ck c q5) (And.intro (ck c q6) (ck c q7)))))))
  refine region_box 175 [⟨some 20, 0, 21, 31, #[.int .i64 0, .int .i64 0], #[.int .i64 rl, .int .i64 rh]⟩] VV (by kernel_rfl) rfl (by kernel_rfl) rfl (by intro b hb ha; simp only [List.mem_cons, List.not_mem_nil, or_false] at hb; rcases hb with rfl <;> first | (cases ha; done) | assumption) (by intro j k b c hjk hj hk hb hc; rcases j with _ | _ | j <;> rcases k with _ | _ | k <;> simp at hj hk hjk <;> (try subst hj) <;> (try subst hk) <;> first | (cases hb; done) | (cases hc; done) | (simp only; omega)) ⟨?_, ?_, ?_, ?_, ?_, ?_, ?_, ?_, ?_, ?_, ?_, ?_, ?_, ?_, ?_, ?_, ?_, ?_, ?_, ?_, ?_, ?_, ?_, trivial⟩ ?_
  · exact b_vx v0 rfl rfl (fun gm a W h => by have e10 : a.eval (.tmp 10) = .pointer (some ⟨w1.heap.size, 0, none⟩) := (h.slot 10 (by kernel_rfl)).trans rfl; simp only [execOp, e10]; first | (simp [go_sem, haq, hbq] <;> first | exact wrapIn | rfl) | kernel_rfl)
  · exact b_vx v1 rfl rfl (fun gm a W h => by have e38 := (h.vb 0 38).trans v0; obtain ⟨kq0, kq1, kq2, kq3, kq4, kq5, kq6, kq7⟩ := HK W h.chg; simp only [execOp, e38]; first | (simp [go_sem, kq0, kq1, kq2, kq3, kq4, kq5, kq6, kq7, haq, hbq] <;> first | exact wrapIn | rfl) | kernel_rfl)
  · exact b_vx v2 rfl rfl (fun gm a W h => by have e0 : a.eval (.tmp 0) = .pointer (some ⟨sb, 0, none⟩) := (h.slot 0 (by kernel_rfl)).trans rfl; simp only [execOp, e0]; first | (simp [go_sem, haq, hbq] <;> first | exact wrapIn | rfl) | kernel_rfl)
  · exact b_vx v3 rfl rfl (fun gm a W h => by have e10 : a.eval (.tmp 10) = .pointer (some ⟨w1.heap.size, 0, none⟩) := (h.slot 10 (by kernel_rfl)).trans rfl; simp only [execOp, e10]; first | (simp [go_sem, haq, hbq] <;> first | exact wrapIn | rfl) | kernel_rfl)
  · exact b_vx v4 rfl rfl (fun gm a W h => by have e41 := (h.vb 3 41).trans v3; obtain ⟨kq0, kq1, kq2, kq3, kq4, kq5, kq6, kq7⟩ := HK W h.chg; simp only [execOp, e41]; first | (simp [go_sem, kq0, kq1, kq2, kq3, kq4, kq5, kq6, kq7, haq, hbq] <;> first | exact wrapIn | rfl) | kernel_rfl)
  · exact b_vx v5 rfl rfl (fun gm a W h => by have e40 := (h.vb 2 40).trans v2; simp only [execOp, e40]; first | (simp [go_sem, haq, hbq] <;> first | exact wrapIn | rfl) | kernel_rfl)
  · exact b_vx v6 rfl rfl (fun gm a W h => by have e43 := (h.vb 5 43).trans v5; simp only [execOp, e43]; first | (simp [go_sem, haq, hbq] <;> first | exact wrapIn | rfl) | kernel_rfl)
  · exact b_vx v7 rfl rfl (fun gm a W h => by have e44 := (h.vb 6 44).trans v6; have e42 := (h.vb 4 42).trans v4; simp only [execOp, e44, e42]; first | (simp [go_sem, haq, hbq] <;> first | exact wrapIn | rfl) | kernel_rfl)
  · exact b_vx v8 rfl rfl (fun gm a W h => by have e45 := (h.vb 7 45).trans v7; obtain ⟨kq0, kq1, kq2, kq3, kq4, kq5, kq6, kq7⟩ := HK W h.chg; simp only [execOp, e45]; first | (simp [go_sem, kq0, kq1, kq2, kq3, kq4, kq5, kq6, kq7, haq, hbq] <;> first | exact wrapIn | rfl) | kernel_rfl)
  · exact b_vx v9 rfl rfl (fun gm a W h => by have e0 : a.eval (.tmp 0) = .pointer (some ⟨sb, 0, none⟩) := (h.slot 0 (by kernel_rfl)).trans rfl; simp only [execOp, e0]; first | (simp [go_sem, haq, hbq] <;> first | exact wrapIn | rfl) | kernel_rfl)
  · exact b_vx v10 rfl rfl (fun gm a W h => by have e10 : a.eval (.tmp 10) = .pointer (some ⟨w1.heap.size, 0, none⟩) := (h.slot 10 (by kernel_rfl)).trans rfl; simp only [execOp, e10]; first | (simp [go_sem, haq, hbq] <;> first | exact wrapIn | rfl) | kernel_rfl)
  · exact b_vx v11 rfl rfl (fun gm a W h => by have e48 := (h.vb 10 48).trans v10; obtain ⟨kq0, kq1, kq2, kq3, kq4, kq5, kq6, kq7⟩ := HK W h.chg; simp only [execOp, e48]; first | (simp [go_sem, kq0, kq1, kq2, kq3, kq4, kq5, kq6, kq7, haq, hbq] <;> first | exact wrapIn | rfl) | kernel_rfl)
  · exact b_vx v12 rfl rfl (fun gm a W h => by have e47 := (h.vb 9 47).trans v9; simp only [execOp, e47]; first | (simp [go_sem, haq, hbq] <;> first | exact wrapIn | rfl) | kernel_rfl)
  · exact b_vx v13 rfl rfl (fun gm a W h => by have e50 := (h.vb 12 50).trans v12; simp only [execOp, e50]; first | (simp [go_sem, haq, hbq] <;> first | exact wrapIn | rfl) | kernel_rfl)
  · exact b_vx v14 rfl rfl (fun gm a W h => by have e51 := (h.vb 13 51).trans v13; have e49 := (h.vb 11 49).trans v11; simp only [execOp, e51, e49]; first | (simp [go_sem, haq, hbq] <;> first | exact wrapIn | rfl) | kernel_rfl)
  · exact b_vx v15 rfl rfl (fun gm a W h => by have e52 := (h.vb 14 52).trans v14; obtain ⟨kq0, kq1, kq2, kq3, kq4, kq5, kq6, kq7⟩ := HK W h.chg; simp only [execOp, e52]; first | (simp [go_sem, kq0, kq1, kq2, kq3, kq4, kq5, kq6, kq7, haq, hbq] <;> first | exact wrapIn | rfl) | kernel_rfl)
  · exact b_cx v16 rfl rfl (fun gm a W h => by
      have e39 := (h.vb 1 39).trans v1
      have e46 := (h.vb 8 46).trans v8
      have e53 := (h.vb 15 53).trans v15
      refine Eq.trans (b := .ok (.enter 132 #[a.eval (.tmp 39), a.eval (.tmp 46), a.eval (.tmp 53)]) W) (by kernel_rfl) ?_
      rw [e39, e46, e53]) (fun W => HI.out W)
  · exact b_vx v17 rfl rfl (fun gm a W h => by have e54 := (h.vb 16 54).trans v16; simp only [execOp, e54]; first | (simp [go_sem, haq, hbq] <;> first | exact wrapIn | rfl) | kernel_rfl)
  · exact b_vx v18 rfl rfl (fun gm a W h => by have e37 := (h.vb 17 37).trans v17; simp only [execOp, e37]; first | (simp [go_sem, haq, hbq] <;> first | exact wrapIn | rfl) | kernel_rfl)
  · exact b_vx v19 rfl rfl (fun gm a W h => by have e37 := (h.vb 17 37).trans v17; simp only [execOp, e37]; first | (simp [go_sem, haq, hbq] <;> first | exact wrapIn | rfl) | kernel_rfl)
  · exact b_alloc 0 _ rfl rfl rfl (by kernel_rfl) rfl (fun gm a W h => by kernel_rfl)
  · refine b_store 0 _ rfl rfl rfl v21 (fun j hj => by cases hj; exact ⟨11, ⟨⟨⟨20, .data⟩, by simp, rfl, by kernel_rfl⟩, by kernel_rfl⟩⟩) rfl (fun gm a W h hold hb => ?_)
    have e11 : a.eval (.tmp 11) = .pointer (some ⟨gm 0, 0, none⟩) := (h.vb 20 11).trans rfl
    have e55 := (h.vb 18 55).trans v18
    simp only at hb
    have hf := fun j => hb.frozen j
    have c0 := hb.cell 0
    have c1 := hb.cell 1
    refine ⟨_, by (simp only [execOp, e11, e55]; simp [go_sem, hf, c0, c1, haq, hbq]; try rfl), (hb.set_ 0 _).set_ 1 _, chgs2 _ _ _ _ _ _⟩
  · exact b_vx v22 rfl rfl (fun gm a W h => by have e56 := (h.vb 19 56).trans v19; simp only [execOp, e56]; first | (simp [go_sem, haq, hbq] <;> first | exact wrapIn | rfl) | kernel_rfl)
  intro gm vs w9 hc9 hb9 hold9 hge9 hv9
  have x0 := (hv9 0 38 (by kernel_rfl)).trans v0
  have x1 := (hv9 1 39 (by kernel_rfl)).trans v1
  have x2 := (hv9 2 40 (by kernel_rfl)).trans v2
  have x3 := (hv9 3 41 (by kernel_rfl)).trans v3
  have x4 := (hv9 4 42 (by kernel_rfl)).trans v4
  have x5 := (hv9 5 43 (by kernel_rfl)).trans v5
  have x6 := (hv9 6 44 (by kernel_rfl)).trans v6
  have x7 := (hv9 7 45 (by kernel_rfl)).trans v7
  have x8 := (hv9 8 46 (by kernel_rfl)).trans v8
  have x9 := (hv9 9 47 (by kernel_rfl)).trans v9
  have x10 := (hv9 10 48 (by kernel_rfl)).trans v10
  have x11 := (hv9 11 49 (by kernel_rfl)).trans v11
  have x12 := (hv9 12 50 (by kernel_rfl)).trans v12
  have x13 := (hv9 13 51 (by kernel_rfl)).trans v13
  have x14 := (hv9 14 52 (by kernel_rfl)).trans v14
  have x15 := (hv9 15 53 (by kernel_rfl)).trans v15
  have x16 := (hv9 16 54 (by kernel_rfl)).trans v16
  have x17 := (hv9 17 37 (by kernel_rfl)).trans v17
  have x18 := (hv9 18 55 (by kernel_rfl)).trans v18
  have x19 := (hv9 19 56 (by kernel_rfl)).trans v19
  have x20 : vs 20 = .pointer (some ⟨gm 0, 0, none⟩) := (hv9 20 11 (by kernel_rfl)).trans rfl
  have x22 := (hv9 22 12 (by kernel_rfl)).trans v22
  have y0 := hb9 0 _ rfl
  have g0 := hge9 0 _ 20 rfl rfl
  simp only at y0
  simp only [putAll, Act.put, List.setIfInBounds_toArray, List.set_cons_zero, List.set_cons_succ, Nat.zero_add, Nat.reduceAdd, x0, x1, x2, x3, x4, x5, x6, x7, x8, x9, x10, x11, x12, x13, x14, x15, x16, x17, x18, x19, x20, x22]
  clear hb9 hold9 hge9 hv9 x0 x1 x2 x3 x4 x5 x6 x7 x8 x9 x10 x11 x12 x13 x14 x15 x16 x17 x18 x19 x20 x22 v0 v1 v2 v3 v4 v5 v6 v7 v8 v9 v10 v11 v12 v13 v14 v15 v16 v17 v18 v19 v20 v21 v22 HK VV
  have G9 := chg_pre hc9 (by intro b hb; simp only [List.mem_cons, List.not_mem_nil, or_false] at hb; subst hb; simp)
  have HW9 := Lib.hid (grew_tr HW1.out (grew_tr GE.out G9))
  have HB9 := Lib.hid (HB1.out.grew (grew_tr GE.out G9))
  have hge := GE.out.size
  obtain ⟨g11, hg11⟩ : ∃ g, gm 0 = g := ⟨_, rfl⟩
  rw [hg11] at y0 g0 ⊢
  have r0 := y0.cell 0
  have r1 := y0.cell 1
  have rlt := y0.lt
  have n11 : g11 ≠ sb := by omega
  have u0 := (G9.cell (p := ⟨w1.heap.size, 0, none⟩) (World.block_lt_of_cell? _ _ q0)).trans q0
  have u1 := (G9.cell (p := ⟨w1.heap.size, 1, none⟩) (World.block_lt_of_cell? _ _ q1)).trans q1
  have u3 := (G9.cell (p := ⟨w1.heap.size, 3, none⟩) (World.block_lt_of_cell? _ _ q3)).trans q3
  have ul := World.block_lt_of_cell? _ _ u0
  simp only at ul
  simp only [List.getElem?_toArray, List.getElem?_cons_zero, List.getElem?_cons_succ] at r0 r1
  clear y0 hg11 hc9 G9 q0 q1 q2 q3 q4 q5 q6 q7 g0 gm vs hge
  cases B
  · have HV : Hid (actI ps ss ⟨2, (dj : Int), (aj : Int), (bj : Int), rel, lo, hi, to⟩ xs ⟨slo, shi⟩ = none) := Lib.hid (by rw [HV0.out]; cases O with | none => rfl | some x => (have := HBo.out; simp at this))
    go_wp2
    go_ret
    exact ⟨by rw [HV.out]; rfl, ⟨xs, slo, shi, HB9.out, fun z hz => by rw [HV.out] at hz; cases hz⟩, chg_gr (Chg.refl _ _) HW9.out⟩
  · have HV : Hid (actI ps ss ⟨2, (dj : Int), (aj : Int), (bj : Int), rel, lo, hi, to⟩ xs ⟨slo, shi⟩ = some (xs.set dj ⟨rl, rh⟩, ⟨slo, shi⟩)) := Lib.hid (by
      rw [HV0.out]
      cases O with
      | none => (have := HBo.out; simp at this)
      | some x => have := HR.out; simp only [Option.getD_some] at this; rw [this]; rfl)
    clear HV0 HBo HR
    obtain ⟨z0, z1⟩ := st_cell HB9.out H4.out HXd.out
    have zf := fun i => HB9.out.frozen i
    have zl := HB9.out.lt
    simp only at z0 z1
    go_wp2_with fail
    go_region
    go_wp2
    go_ret
    refine ⟨by rw [HV.out]; rfl, ⟨xs.set dj ⟨rl, rh⟩, slo, shi, ?_, fun z hz => by rw [HV.out] at hz; cases hz; exact ⟨rfl, rfl⟩⟩, ?_⟩
    · (repeat (first | with_reducible exact (st_set HB9.out (by simp only [List.length_set, H4.out]) hjd _ _) | with_reducible refine Blk.alloc ?_ _ | with_reducible refine Blk.grew ?_ (grew_d (Below.refl _ _))))
    · (repeat (first | with_reducible exact (chg_gr (Chg.refl _ _) HW9.out) | with_reducible refine chg_gr ?_ (grew_d (Below.refl _ _)) | with_reducible refine chg_gr ?_ (grew_al (Below.refl _ _) _) | with_reducible refine Chg.alw (F := fun b => b = sb) ?_ rfl _))
set_option maxRecDepth 100000 in
set_option maxHeartbeats 4000000 in
theorem implAct3 (sb : Nat) (pa : Option Addr) (pn pc : Nat) (ps : List Prc) (sa : Option Addr) (sn sc : Nat) (ss : List Sum) (d a b rel lo hi to : Int) (xs : List Itv) (slo shi : Int) (w : World) (hBk : Blk w sb 110 (stC xs slo shi)) (ho : stOkB true xs slo shi = true) (hd : varB d = true) (ha : varB a = true) (hb : varB b = true) :
    Calls Tryz.prog 102 #[.pointer (some ⟨sb, 0, none⟩), .agg #[.slice pa pn pc], .slice sa sn sc, Ins.v ⟨3, d, a, b, rel, lo, hi, to⟩] w (RetAct (actI ps ss ⟨3, d, a, b, rel, lo, hi, to⟩ xs ⟨slo, shi⟩) sb w) := by
  have h4 : xs.length = 4 := (stOk_parts ho).1
  have H4 := Lib.hid h4
  have HO := Lib.hid ho
  have hsb := hBk.lt
  have HB := Lib.hid hBk
  have HKa := Lib.hid ha
  have aok := nthI_ok ho ha
  obtain ⟨aj, hea, hja, hxa⟩ := nthI_get h4 ha
  subst hea
  obtain ⟨⟨al, ah⟩, hXa⟩ : ∃ x, nthI xs aj = x := ⟨_, rfl⟩
  have HXa := Lib.hid (show xs[aj]? = some (⟨al, ah⟩ : Itv) from by rw [← hXa]; exact hxa)
  have HNa := Lib.hid hXa
  have haq : ¬ (4 : Int) ≤ (aj : Int) := by omega
  have HOa := Lib.hid (show itvB (⟨al, ah⟩ : Itv) = true from by rw [← hXa]; exact aok)
  have HKb := Lib.hid hb
  have bok := nthI_ok ho hb
  obtain ⟨bj, heb, hjb, hxb⟩ := nthI_get h4 hb
  subst heb
  obtain ⟨⟨bl, bh⟩, hXb⟩ : ∃ x, nthI xs bj = x := ⟨_, rfl⟩
  have HXb := Lib.hid (show xs[bj]? = some (⟨bl, bh⟩ : Itv) from by rw [← hXb]; exact hxb)
  have HNb := Lib.hid hXb
  have hbq : ¬ (4 : Int) ≤ (bj : Int) := by omega
  have HOb := Lib.hid (show itvB (⟨bl, bh⟩ : Itv) = true from by rw [← hXb]; exact bok)
  have HKd := Lib.hid hd
  have dok := nthI_ok ho hd
  obtain ⟨dj, hed, hjd, hxd⟩ := nthI_get h4 hd
  subst hed
  obtain ⟨⟨dl, dh⟩, hXd⟩ : ∃ x, nthI xs dj = x := ⟨_, rfl⟩
  have HXd := Lib.hid (show xs[dj]? = some (⟨dl, dh⟩ : Itv) from by rw [← hXd]; exact hxd)
  have HNd := Lib.hid hXd
  have hdq : ¬ (4 : Int) ≤ (dj : Int) := by omega
  have HOd := Lib.hid (show itvB (⟨dl, dh⟩ : Itv) = true from by rw [← hXd]; exact dok)
  have HI := Lib.hid (fun W => implItvDoC 3 ⟨al, ah⟩ ⟨bl, bh⟩ W (by omega) HOa.out HOb.out (by decide))
  rw [optV_eq] at HI
  have HV0 : Hid (actI ps ss ⟨3, (dj : Int), (aj : Int), (bj : Int), rel, lo, hi, to⟩ xs ⟨slo, shi⟩ = (doI 3 ⟨al, ah⟩ ⟨bl, bh⟩).map fun r => (xs.set dj r, (⟨slo, shi⟩ : Itv))) := Lib.hid (by simp [actI, setI_nat, hXa, hXb])
  obtain ⟨O, hO⟩ : ∃ o, doI 3 ⟨al, ah⟩ ⟨bl, bh⟩ = o := ⟨_, rfl⟩
  rw [hO] at HI HV0
  obtain ⟨⟨rl, rh⟩, hr⟩ : ∃ m, O.getD ⟨0, 0⟩ = m := ⟨_, rfl⟩
  obtain ⟨B, hB⟩ : ∃ x, O.isSome = x := ⟨_, rfl⟩
  rw [hr, hB] at HI
  have HR := Lib.hid hr
  have HBo := Lib.hid hB
  have HC : Hid (∀ W, Calls Tryz.prog 95 #[Ins.v ⟨3, (dj : Int), (aj : Int), (bj : Int), rel, lo, hi, to⟩] W fun e w' => e = .returned (.iface 166 (.agg #[.int .i64 (3 : Int), .int .i64 (dj : Int), .int .i64 (aj : Int), .int .i64 (bj : Int)])) ∧ Grew W w') := Lib.hid (fun W => codeOf ⟨3, (dj : Int), (aj : Int), (bj : Int), rel, lo, hi, to⟩ W)
  clear hXa hxa aok hXb hxb bok hXd hxd dok h4 ho hBk hd ha hb hO hr hB
  go_enter Tryz.func102, Tryz.ntmps102
  go_wp2_with fail
  refine (HC.out _).mono ?_
  rintro e w1 ⟨rfl, g1⟩
  have hG := show Grew w w1 from grew_tr (gr) g1
  have HW1 := Lib.hid hG
  have HB1 := Lib.hid (HB.out.grew hG)
  have hs1 := HB1.out.lt
  clear g1 hG HC HB hsb
  go_upto_region 7 with fail
  refine wp_letH ?_
  intro E hE
  have GE := Lib.hid (show Grew w1 E from by rw [hE]; exact gr)
  have q0 : E.cell? ⟨w1.heap.size, 0, none⟩ = some (.int .i64 (3 : Int)) := by rw [hE]; simp [go_sem]
  have q1 : E.cell? ⟨w1.heap.size, 1, none⟩ = some (.int .i64 (dj : Int)) := by rw [hE]; simp [go_sem]
  have q2 : E.cell? ⟨w1.heap.size, 2, none⟩ = some (.int .i64 (aj : Int)) := by rw [hE]; simp [go_sem]
  have q3 : E.cell? ⟨w1.heap.size, 3, none⟩ = some (.int .i64 (bj : Int)) := by rw [hE]; simp [go_sem]
  obtain ⟨q4, q5⟩ := st_cell (HB1.out.grew GE.out) H4.out HXa.out
  obtain ⟨q6, q7⟩ := st_cell (HB1.out.grew GE.out) H4.out HXb.out
  simp only at q4 q5 q6 q7
  have hne : w1.heap.size ≠ sb := by omega
  clear hE
  obtain ⟨VV, v0, v1, v2, v3, v4, v5, v6, v7, v8, v9, v10, v11, v12, v13, v14, v15, v16, v17, v18, v19, v20, v21, v22, -⟩ := vl [.pointer (some ⟨w1.heap.size, 0, none⟩), .int .i64 ((3 : Int)), .pointer (some ⟨sb, 0, none⟩), .pointer (some ⟨w1.heap.size, 2, none⟩), .int .i64 ((aj : Int)), .pointer (some ⟨sb, 0, none⟩), .pointer (some ⟨sb, 0, none⟩), .pointer (some ⟨sb, aj * 2, none⟩), .agg #[.int .i64 al, .int .i64 ah], .pointer (some ⟨sb, 0, none⟩), .pointer (some ⟨w1.heap.size, 3, none⟩), .int .i64 ((bj : Int)), .pointer (some ⟨sb, 0, none⟩), .pointer (some ⟨sb, 0, none⟩), .pointer (some ⟨sb, bj * 2, none⟩), .agg #[.int .i64 bl, .int .i64 bh], .tuple #[.agg #[.int .i64 rl, .int .i64 rh], .bool B], .tuple #[.agg #[.int .i64 rl, .int .i64 rh], .bool B], .agg #[.int .i64 rl, .int .i64 rh], .bool B, undef, undef, .bool B]
  have HK := fun W (c : Chg (preB [⟨some 20, 0, 21, 31, #[.int .i64 0, .int .i64 0], #[.int .i64 rl, .int .i64 rh]⟩]) _ W) => And.intro (ck c q0) (And.intro (ck c q1) (And.intro (ck c q2) (And.intro (ck c q3) (And.intro (ck c q4) (And.intro (ck c q5) (And.intro (ck c q6) (ck c q7)))))))
  refine region_box 175 [⟨some 20, 0, 21, 31, #[.int .i64 0, .int .i64 0], #[.int .i64 rl, .int .i64 rh]⟩] VV (by kernel_rfl) rfl (by kernel_rfl) rfl (by intro b hb ha; simp only [List.mem_cons, List.not_mem_nil, or_false] at hb; rcases hb with rfl <;> first | (cases ha; done) | assumption) (by intro j k b c hjk hj hk hb hc; rcases j with _ | _ | j <;> rcases k with _ | _ | k <;> simp at hj hk hjk <;> (try subst hj) <;> (try subst hk) <;> first | (cases hb; done) | (cases hc; done) | (simp only; omega)) ⟨?_, ?_, ?_, ?_, ?_, ?_, ?_, ?_, ?_, ?_, ?_, ?_, ?_, ?_, ?_, ?_, ?_, ?_, ?_, ?_, ?_, ?_, ?_, trivial⟩ ?_
  · exact b_vx v0 rfl rfl (fun gm a W h => by have e10 : a.eval (.tmp 10) = .pointer (some ⟨w1.heap.size, 0, none⟩) := (h.slot 10 (by kernel_rfl)).trans rfl; simp only [execOp, e10]; first | (simp [go_sem, haq, hbq] <;> first | exact wrapIn | rfl) | kernel_rfl)
  · exact b_vx v1 rfl rfl (fun gm a W h => by have e38 := (h.vb 0 38).trans v0; obtain ⟨kq0, kq1, kq2, kq3, kq4, kq5, kq6, kq7⟩ := HK W h.chg; simp only [execOp, e38]; first | (simp [go_sem, kq0, kq1, kq2, kq3, kq4, kq5, kq6, kq7, haq, hbq] <;> first | exact wrapIn | rfl) | kernel_rfl)
  · exact b_vx v2 rfl rfl (fun gm a W h => by have e0 : a.eval (.tmp 0) = .pointer (some ⟨sb, 0, none⟩) := (h.slot 0 (by kernel_rfl)).trans rfl; simp only [execOp, e0]; first | (simp [go_sem, haq, hbq] <;> first | exact wrapIn | rfl) | kernel_rfl)
  · exact b_vx v3 rfl rfl (fun gm a W h => by have e10 : a.eval (.tmp 10) = .pointer (some ⟨w1.heap.size, 0, none⟩) := (h.slot 10 (by kernel_rfl)).trans rfl; simp only [execOp, e10]; first | (simp [go_sem, haq, hbq] <;> first | exact wrapIn | rfl) | kernel_rfl)
  · exact b_vx v4 rfl rfl (fun gm a W h => by have e41 := (h.vb 3 41).trans v3; obtain ⟨kq0, kq1, kq2, kq3, kq4, kq5, kq6, kq7⟩ := HK W h.chg; simp only [execOp, e41]; first | (simp [go_sem, kq0, kq1, kq2, kq3, kq4, kq5, kq6, kq7, haq, hbq] <;> first | exact wrapIn | rfl) | kernel_rfl)
  · exact b_vx v5 rfl rfl (fun gm a W h => by have e40 := (h.vb 2 40).trans v2; simp only [execOp, e40]; first | (simp [go_sem, haq, hbq] <;> first | exact wrapIn | rfl) | kernel_rfl)
  · exact b_vx v6 rfl rfl (fun gm a W h => by have e43 := (h.vb 5 43).trans v5; simp only [execOp, e43]; first | (simp [go_sem, haq, hbq] <;> first | exact wrapIn | rfl) | kernel_rfl)
  · exact b_vx v7 rfl rfl (fun gm a W h => by have e44 := (h.vb 6 44).trans v6; have e42 := (h.vb 4 42).trans v4; simp only [execOp, e44, e42]; first | (simp [go_sem, haq, hbq] <;> first | exact wrapIn | rfl) | kernel_rfl)
  · exact b_vx v8 rfl rfl (fun gm a W h => by have e45 := (h.vb 7 45).trans v7; obtain ⟨kq0, kq1, kq2, kq3, kq4, kq5, kq6, kq7⟩ := HK W h.chg; simp only [execOp, e45]; first | (simp [go_sem, kq0, kq1, kq2, kq3, kq4, kq5, kq6, kq7, haq, hbq] <;> first | exact wrapIn | rfl) | kernel_rfl)
  · exact b_vx v9 rfl rfl (fun gm a W h => by have e0 : a.eval (.tmp 0) = .pointer (some ⟨sb, 0, none⟩) := (h.slot 0 (by kernel_rfl)).trans rfl; simp only [execOp, e0]; first | (simp [go_sem, haq, hbq] <;> first | exact wrapIn | rfl) | kernel_rfl)
  · exact b_vx v10 rfl rfl (fun gm a W h => by have e10 : a.eval (.tmp 10) = .pointer (some ⟨w1.heap.size, 0, none⟩) := (h.slot 10 (by kernel_rfl)).trans rfl; simp only [execOp, e10]; first | (simp [go_sem, haq, hbq] <;> first | exact wrapIn | rfl) | kernel_rfl)
  · exact b_vx v11 rfl rfl (fun gm a W h => by have e48 := (h.vb 10 48).trans v10; obtain ⟨kq0, kq1, kq2, kq3, kq4, kq5, kq6, kq7⟩ := HK W h.chg; simp only [execOp, e48]; first | (simp [go_sem, kq0, kq1, kq2, kq3, kq4, kq5, kq6, kq7, haq, hbq] <;> first | exact wrapIn | rfl) | kernel_rfl)
  · exact b_vx v12 rfl rfl (fun gm a W h => by have e47 := (h.vb 9 47).trans v9; simp only [execOp, e47]; first | (simp [go_sem, haq, hbq] <;> first | exact wrapIn | rfl) | kernel_rfl)
  · exact b_vx v13 rfl rfl (fun gm a W h => by have e50 := (h.vb 12 50).trans v12; simp only [execOp, e50]; first | (simp [go_sem, haq, hbq] <;> first | exact wrapIn | rfl) | kernel_rfl)
  · exact b_vx v14 rfl rfl (fun gm a W h => by have e51 := (h.vb 13 51).trans v13; have e49 := (h.vb 11 49).trans v11; simp only [execOp, e51, e49]; first | (simp [go_sem, haq, hbq] <;> first | exact wrapIn | rfl) | kernel_rfl)
  · exact b_vx v15 rfl rfl (fun gm a W h => by have e52 := (h.vb 14 52).trans v14; obtain ⟨kq0, kq1, kq2, kq3, kq4, kq5, kq6, kq7⟩ := HK W h.chg; simp only [execOp, e52]; first | (simp [go_sem, kq0, kq1, kq2, kq3, kq4, kq5, kq6, kq7, haq, hbq] <;> first | exact wrapIn | rfl) | kernel_rfl)
  · exact b_cx v16 rfl rfl (fun gm a W h => by
      have e39 := (h.vb 1 39).trans v1
      have e46 := (h.vb 8 46).trans v8
      have e53 := (h.vb 15 53).trans v15
      refine Eq.trans (b := .ok (.enter 132 #[a.eval (.tmp 39), a.eval (.tmp 46), a.eval (.tmp 53)]) W) (by kernel_rfl) ?_
      rw [e39, e46, e53]) (fun W => HI.out W)
  · exact b_vx v17 rfl rfl (fun gm a W h => by have e54 := (h.vb 16 54).trans v16; simp only [execOp, e54]; first | (simp [go_sem, haq, hbq] <;> first | exact wrapIn | rfl) | kernel_rfl)
  · exact b_vx v18 rfl rfl (fun gm a W h => by have e37 := (h.vb 17 37).trans v17; simp only [execOp, e37]; first | (simp [go_sem, haq, hbq] <;> first | exact wrapIn | rfl) | kernel_rfl)
  · exact b_vx v19 rfl rfl (fun gm a W h => by have e37 := (h.vb 17 37).trans v17; simp only [execOp, e37]; first | (simp [go_sem, haq, hbq] <;> first | exact wrapIn | rfl) | kernel_rfl)
  · exact b_alloc 0 _ rfl rfl rfl (by kernel_rfl) rfl (fun gm a W h => by kernel_rfl)
  · refine b_store 0 _ rfl rfl rfl v21 (fun j hj => by cases hj; exact ⟨11, ⟨⟨⟨20, .data⟩, by simp, rfl, by kernel_rfl⟩, by kernel_rfl⟩⟩) rfl (fun gm a W h hold hb => ?_)
    have e11 : a.eval (.tmp 11) = .pointer (some ⟨gm 0, 0, none⟩) := (h.vb 20 11).trans rfl
    have e55 := (h.vb 18 55).trans v18
    simp only at hb
    have hf := fun j => hb.frozen j
    have c0 := hb.cell 0
    have c1 := hb.cell 1
    refine ⟨_, by (simp only [execOp, e11, e55]; simp [go_sem, hf, c0, c1, haq, hbq]; try rfl), (hb.set_ 0 _).set_ 1 _, chgs2 _ _ _ _ _ _⟩
  · exact b_vx v22 rfl rfl (fun gm a W h => by have e56 := (h.vb 19 56).trans v19; simp only [execOp, e56]; first | (simp [go_sem, haq, hbq] <;> first | exact wrapIn | rfl) | kernel_rfl)
  intro gm vs w9 hc9 hb9 hold9 hge9 hv9
  have x0 := (hv9 0 38 (by kernel_rfl)).trans v0
  have x1 := (hv9 1 39 (by kernel_rfl)).trans v1
  have x2 := (hv9 2 40 (by kernel_rfl)).trans v2
  have x3 := (hv9 3 41 (by kernel_rfl)).trans v3
  have x4 := (hv9 4 42 (by kernel_rfl)).trans v4
  have x5 := (hv9 5 43 (by kernel_rfl)).trans v5
  have x6 := (hv9 6 44 (by kernel_rfl)).trans v6
  have x7 := (hv9 7 45 (by kernel_rfl)).trans v7
  have x8 := (hv9 8 46 (by kernel_rfl)).trans v8
  have x9 := (hv9 9 47 (by kernel_rfl)).trans v9
  have x10 := (hv9 10 48 (by kernel_rfl)).trans v10
  have x11 := (hv9 11 49 (by kernel_rfl)).trans v11
  have x12 := (hv9 12 50 (by kernel_rfl)).trans v12
  have x13 := (hv9 13 51 (by kernel_rfl)).trans v13
  have x14 := (hv9 14 52 (by kernel_rfl)).trans v14
  have x15 := (hv9 15 53 (by kernel_rfl)).trans v15
  have x16 := (hv9 16 54 (by kernel_rfl)).trans v16
  have x17 := (hv9 17 37 (by kernel_rfl)).trans v17
  have x18 := (hv9 18 55 (by kernel_rfl)).trans v18
  have x19 := (hv9 19 56 (by kernel_rfl)).trans v19
  have x20 : vs 20 = .pointer (some ⟨gm 0, 0, none⟩) := (hv9 20 11 (by kernel_rfl)).trans rfl
  have x22 := (hv9 22 12 (by kernel_rfl)).trans v22
  have y0 := hb9 0 _ rfl
  have g0 := hge9 0 _ 20 rfl rfl
  simp only at y0
  simp only [putAll, Act.put, List.setIfInBounds_toArray, List.set_cons_zero, List.set_cons_succ, Nat.zero_add, Nat.reduceAdd, x0, x1, x2, x3, x4, x5, x6, x7, x8, x9, x10, x11, x12, x13, x14, x15, x16, x17, x18, x19, x20, x22]
  clear hb9 hold9 hge9 hv9 x0 x1 x2 x3 x4 x5 x6 x7 x8 x9 x10 x11 x12 x13 x14 x15 x16 x17 x18 x19 x20 x22 v0 v1 v2 v3 v4 v5 v6 v7 v8 v9 v10 v11 v12 v13 v14 v15 v16 v17 v18 v19 v20 v21 v22 HK VV
  have G9 := chg_pre hc9 (by intro b hb; simp only [List.mem_cons, List.not_mem_nil, or_false] at hb; subst hb; simp)
  have HW9 := Lib.hid (grew_tr HW1.out (grew_tr GE.out G9))
  have HB9 := Lib.hid (HB1.out.grew (grew_tr GE.out G9))
  have hge := GE.out.size
  obtain ⟨g11, hg11⟩ : ∃ g, gm 0 = g := ⟨_, rfl⟩
  rw [hg11] at y0 g0 ⊢
  have r0 := y0.cell 0
  have r1 := y0.cell 1
  have rlt := y0.lt
  have n11 : g11 ≠ sb := by omega
  have u0 := (G9.cell (p := ⟨w1.heap.size, 0, none⟩) (World.block_lt_of_cell? _ _ q0)).trans q0
  have u1 := (G9.cell (p := ⟨w1.heap.size, 1, none⟩) (World.block_lt_of_cell? _ _ q1)).trans q1
  have u3 := (G9.cell (p := ⟨w1.heap.size, 3, none⟩) (World.block_lt_of_cell? _ _ q3)).trans q3
  have ul := World.block_lt_of_cell? _ _ u0
  simp only at ul
  simp only [List.getElem?_toArray, List.getElem?_cons_zero, List.getElem?_cons_succ] at r0 r1
  clear y0 hg11 hc9 G9 q0 q1 q2 q3 q4 q5 q6 q7 g0 gm vs hge
  cases B
  · have HV : Hid (actI ps ss ⟨3, (dj : Int), (aj : Int), (bj : Int), rel, lo, hi, to⟩ xs ⟨slo, shi⟩ = none) := Lib.hid (by rw [HV0.out]; cases O with | none => rfl | some x => (have := HBo.out; simp at this))
    go_wp2
    go_ret
    exact ⟨by rw [HV.out]; rfl, ⟨xs, slo, shi, HB9.out, fun z hz => by rw [HV.out] at hz; cases hz⟩, chg_gr (Chg.refl _ _) HW9.out⟩
  · have HV : Hid (actI ps ss ⟨3, (dj : Int), (aj : Int), (bj : Int), rel, lo, hi, to⟩ xs ⟨slo, shi⟩ = some (xs.set dj ⟨rl, rh⟩, ⟨slo, shi⟩)) := Lib.hid (by
      rw [HV0.out]
      cases O with
      | none => (have := HBo.out; simp at this)
      | some x => have := HR.out; simp only [Option.getD_some] at this; rw [this]; rfl)
    clear HV0 HBo HR
    obtain ⟨z0, z1⟩ := st_cell HB9.out H4.out HXd.out
    have zf := fun i => HB9.out.frozen i
    have zl := HB9.out.lt
    simp only at z0 z1
    go_wp2_with fail
    go_region
    go_wp2
    go_ret
    refine ⟨by rw [HV.out]; rfl, ⟨xs.set dj ⟨rl, rh⟩, slo, shi, ?_, fun z hz => by rw [HV.out] at hz; cases hz; exact ⟨rfl, rfl⟩⟩, ?_⟩
    · (repeat (first | with_reducible exact (st_set HB9.out (by simp only [List.length_set, H4.out]) hjd _ _) | with_reducible refine Blk.alloc ?_ _ | with_reducible refine Blk.grew ?_ (grew_d (Below.refl _ _))))
    · (repeat (first | with_reducible exact (chg_gr (Chg.refl _ _) HW9.out) | with_reducible refine chg_gr ?_ (grew_d (Below.refl _ _)) | with_reducible refine chg_gr ?_ (grew_al (Below.refl _ _) _) | with_reducible refine Chg.alw (F := fun b => b = sb) ?_ rfl _))
set_option maxRecDepth 100000 in
set_option maxHeartbeats 4000000 in
theorem implAct4 (sb : Nat) (pa : Option Addr) (pn pc : Nat) (ps : List Prc) (sa : Option Addr) (sn sc : Nat) (ss : List Sum) (d a b rel lo hi to : Int) (xs : List Itv) (slo shi : Int) (w : World) (hBk : Blk w sb 110 (stC xs slo shi)) (ho : stOkB true xs slo shi = true) (hd : varB d = true) (ha : varB a = true) (hb : varB b = true) :
    Calls Tryz.prog 102 #[.pointer (some ⟨sb, 0, none⟩), .agg #[.slice pa pn pc], .slice sa sn sc, Ins.v ⟨4, d, a, b, rel, lo, hi, to⟩] w (RetAct (actI ps ss ⟨4, d, a, b, rel, lo, hi, to⟩ xs ⟨slo, shi⟩) sb w) := by
  have h4 : xs.length = 4 := (stOk_parts ho).1
  have H4 := Lib.hid h4
  have HO := Lib.hid ho
  have hsb := hBk.lt
  have HB := Lib.hid hBk
  have HKa := Lib.hid ha
  have aok := nthI_ok ho ha
  obtain ⟨aj, hea, hja, hxa⟩ := nthI_get h4 ha
  subst hea
  obtain ⟨⟨al, ah⟩, hXa⟩ : ∃ x, nthI xs aj = x := ⟨_, rfl⟩
  have HXa := Lib.hid (show xs[aj]? = some (⟨al, ah⟩ : Itv) from by rw [← hXa]; exact hxa)
  have HNa := Lib.hid hXa
  have haq : ¬ (4 : Int) ≤ (aj : Int) := by omega
  have HOa := Lib.hid (show itvB (⟨al, ah⟩ : Itv) = true from by rw [← hXa]; exact aok)
  have HKb := Lib.hid hb
  have bok := nthI_ok ho hb
  obtain ⟨bj, heb, hjb, hxb⟩ := nthI_get h4 hb
  subst heb
  obtain ⟨⟨bl, bh⟩, hXb⟩ : ∃ x, nthI xs bj = x := ⟨_, rfl⟩
  have HXb := Lib.hid (show xs[bj]? = some (⟨bl, bh⟩ : Itv) from by rw [← hXb]; exact hxb)
  have HNb := Lib.hid hXb
  have hbq : ¬ (4 : Int) ≤ (bj : Int) := by omega
  have HOb := Lib.hid (show itvB (⟨bl, bh⟩ : Itv) = true from by rw [← hXb]; exact bok)
  have HKd := Lib.hid hd
  have dok := nthI_ok ho hd
  obtain ⟨dj, hed, hjd, hxd⟩ := nthI_get h4 hd
  subst hed
  obtain ⟨⟨dl, dh⟩, hXd⟩ : ∃ x, nthI xs dj = x := ⟨_, rfl⟩
  have HXd := Lib.hid (show xs[dj]? = some (⟨dl, dh⟩ : Itv) from by rw [← hXd]; exact hxd)
  have HNd := Lib.hid hXd
  have hdq : ¬ (4 : Int) ≤ (dj : Int) := by omega
  have HOd := Lib.hid (show itvB (⟨dl, dh⟩ : Itv) = true from by rw [← hXd]; exact dok)
  have HI := Lib.hid (fun W => implItvDoC 4 ⟨al, ah⟩ ⟨bl, bh⟩ W (by omega) HOa.out HOb.out (by decide))
  rw [optV_eq] at HI
  have HV0 : Hid (actI ps ss ⟨4, (dj : Int), (aj : Int), (bj : Int), rel, lo, hi, to⟩ xs ⟨slo, shi⟩ = (doI 4 ⟨al, ah⟩ ⟨bl, bh⟩).map fun r => ((xs.set bj (woI ⟨bl, bh⟩ ⟨0, 0⟩)).set dj r, (⟨slo, shi⟩ : Itv))) := Lib.hid (by simp [actI, setI_nat, hXa, hXb])
  obtain ⟨O, hO⟩ : ∃ o, doI 4 ⟨al, ah⟩ ⟨bl, bh⟩ = o := ⟨_, rfl⟩
  rw [hO] at HI HV0
  obtain ⟨⟨rl, rh⟩, hr⟩ : ∃ m, O.getD ⟨0, 0⟩ = m := ⟨_, rfl⟩
  obtain ⟨B, hB⟩ : ∃ x, O.isSome = x := ⟨_, rfl⟩
  rw [hr, hB] at HI
  have HR := Lib.hid hr
  have HBo := Lib.hid hB
  have HC : Hid (∀ W, Calls Tryz.prog 95 #[Ins.v ⟨4, (dj : Int), (aj : Int), (bj : Int), rel, lo, hi, to⟩] W fun e w' => e = .returned (.iface 166 (.agg #[.int .i64 (4 : Int), .int .i64 (dj : Int), .int .i64 (aj : Int), .int .i64 (bj : Int)])) ∧ Grew W w') := Lib.hid (fun W => codeOf ⟨4, (dj : Int), (aj : Int), (bj : Int), rel, lo, hi, to⟩ W)
  clear hXa hxa aok hXb hxb bok hXd hxd dok h4 ho hBk hd ha hb hO hr hB
  have HWO := Lib.hid (fun W => implWithout ⟨bl, bh⟩ ⟨0, 0⟩ W HOb.out (by decide))
  obtain ⟨⟨wl, wh⟩, hwo⟩ : ∃ m, woI ⟨bl, bh⟩ ⟨0, 0⟩ = m := ⟨_, rfl⟩
  rw [hwo] at HWO HV0
  clear hwo
  have HSI := Lib.hid (fun W => implSingle 0 W)
  go_enter Tryz.func102, Tryz.ntmps102
  go_wp2_with fail
  refine (HC.out _).mono ?_
  rintro e w1 ⟨rfl, g1⟩
  have hG := show Grew w w1 from grew_tr (gr) g1
  have HW1 := Lib.hid hG
  have HB1 := Lib.hid (HB.out.grew hG)
  have hs1 := HB1.out.lt
  clear g1 hG HC HB hsb
  go_upto_region 7 with fail
  refine wp_letH ?_
  intro E hE
  have GE := Lib.hid (show Grew w1 E from by rw [hE]; exact gr)
  have q0 : E.cell? ⟨w1.heap.size, 0, none⟩ = some (.int .i64 (4 : Int)) := by rw [hE]; simp [go_sem]
  have q1 : E.cell? ⟨w1.heap.size, 1, none⟩ = some (.int .i64 (dj : Int)) := by rw [hE]; simp [go_sem]
  have q2 : E.cell? ⟨w1.heap.size, 2, none⟩ = some (.int .i64 (aj : Int)) := by rw [hE]; simp [go_sem]
  have q3 : E.cell? ⟨w1.heap.size, 3, none⟩ = some (.int .i64 (bj : Int)) := by rw [hE]; simp [go_sem]
  obtain ⟨q4, q5⟩ := st_cell (HB1.out.grew GE.out) H4.out HXa.out
  obtain ⟨q6, q7⟩ := st_cell (HB1.out.grew GE.out) H4.out HXb.out
  simp only at q4 q5 q6 q7
  have hne : w1.heap.size ≠ sb := by omega
  clear hE
  obtain ⟨VV, v0, v1, v2, v3, v4, v5, v6, v7, v8, v9, v10, v11, v12, v13, v14, v15, v16, v17, v18, v19, v20, v21, v22, -⟩ := vl [.pointer (some ⟨w1.heap.size, 0, none⟩), .int .i64 ((4 : Int)), .pointer (some ⟨sb, 0, none⟩), .pointer (some ⟨w1.heap.size, 2, none⟩), .int .i64 ((aj : Int)), .pointer (some ⟨sb, 0, none⟩), .pointer (some ⟨sb, 0, none⟩), .pointer (some ⟨sb, aj * 2, none⟩), .agg #[.int .i64 al, .int .i64 ah], .pointer (some ⟨sb, 0, none⟩), .pointer (some ⟨w1.heap.size, 3, none⟩), .int .i64 ((bj : Int)), .pointer (some ⟨sb, 0, none⟩), .pointer (some ⟨sb, 0, none⟩), .pointer (some ⟨sb, bj * 2, none⟩), .agg #[.int .i64 bl, .int .i64 bh], .tuple #[.agg #[.int .i64 rl, .int .i64 rh], .bool B], .tuple #[.agg #[.int .i64 rl, .int .i64 rh], .bool B], .agg #[.int .i64 rl, .int .i64 rh], .bool B, undef, undef, .bool B]
  have HK := fun W (c : Chg (preB [⟨some 20, 0, 21, 31, #[.int .i64 0, .int .i64 0], #[.int .i64 rl, .int .i64 rh]⟩]) _ W) => And.intro (ck c q0) (And.intro (ck c q1) (And.intro (ck c q2) (And.intro (ck c q3) (And.intro (ck c q4) (And.intro (ck c q5) (And.intro (ck c q6) (ck c q7)))))))
  refine region_box 175 [⟨some 20, 0, 21, 31, #[.int .i64 0, .int .i64 0], #[.int .i64 rl, .int .i64 rh]⟩] VV (by kernel_rfl) rfl (by kernel_rfl) rfl (by intro b hb ha; simp only [List.mem_cons, List.not_mem_nil, or_false] at hb; rcases hb with rfl <;> first | (cases ha; done) | assumption) (by intro j k b c hjk hj hk hb hc; rcases j with _ | _ | j <;> rcases k with _ | _ | k <;> simp at hj hk hjk <;> (try subst hj) <;> (try subst hk) <;> first | (cases hb; done) | (cases hc; done) | (simp only; omega)) ⟨?_, ?_, ?_, ?_, ?_, ?_, ?_, ?_, ?_, ?_, ?_, ?_, ?_, ?_, ?_, ?_, ?_, ?_, ?_, ?_, ?_, ?_, ?_, trivial⟩ ?_
  · exact b_vx v0 rfl rfl (fun gm a W h => by have e10 : a.eval (.tmp 10) = .pointer (some ⟨w1.heap.size, 0, none⟩) := (h.slot 10 (by kernel_rfl)).trans rfl; simp only [execOp, e10]; first | (simp [go_sem, haq, hbq] <;> first | exact wrapIn | rfl) | kernel_rfl)
  · exact b_vx v1 rfl rfl (fun gm a W h => by have e38 := (h.vb 0 38).trans v0; obtain ⟨kq0, kq1, kq2, kq3, kq4, kq5, kq6, kq7⟩ := HK W h.chg; simp only [execOp, e38]; first | (simp [go_sem, kq0, kq1, kq2, kq3, kq4, kq5, kq6, kq7, haq, hbq] <;> first | exact wrapIn | rfl) | kernel_rfl)
  · exact b_vx v2 rfl rfl (fun gm a W h => by have e0 : a.eval (.tmp 0) = .pointer (some ⟨sb, 0, none⟩) := (h.slot 0 (by kernel_rfl)).trans rfl; simp only [execOp, e0]; first | (simp [go_sem, haq, hbq] <;> first | exact wrapIn | rfl) | kernel_rfl)
  · exact b_vx v3 rfl rfl (fun gm a W h => by have e10 : a.eval (.tmp 10) = .pointer (some ⟨w1.heap.size, 0, none⟩) := (h.slot 10 (by kernel_rfl)).trans rfl; simp only [execOp, e10]; first | (simp [go_sem, haq, hbq] <;> first | exact wrapIn | rfl) | kernel_rfl)
  · exact b_vx v4 rfl rfl (fun gm a W h => by have e41 := (h.vb 3 41).trans v3; obtain ⟨kq0, kq1, kq2, kq3, kq4, kq5, kq6, kq7⟩ := HK W h.chg; simp only [execOp, e41]; first | (simp [go_sem, kq0, kq1, kq2, kq3, kq4, kq5, kq6, kq7, haq, hbq] <;> first | exact wrapIn | rfl) | kernel_rfl)
  · exact b_vx v5 rfl rfl (fun gm a W h => by have e40 := (h.vb 2 40).trans v2; simp only [execOp, e40]; first | (simp [go_sem, haq, hbq] <;> first | exact wrapIn | rfl) | kernel_rfl)
  · exact b_vx v6 rfl rfl (fun gm a W h => by have e43 := (h.vb 5 43).trans v5; simp only [execOp, e43]; first | (simp [go_sem, haq, hbq] <;> first | exact wrapIn | rfl) | kernel_rfl)
  · exact b_vx v7 rfl rfl (fun gm a W h => by have e44 := (h.vb 6 44).trans v6; have e42 := (h.vb 4 42).trans v4; simp only [execOp, e44, e42]; first | (simp [go_sem, haq, hbq] <;> first | exact wrapIn | rfl) | kernel_rfl)
  · exact b_vx v8 rfl rfl (fun gm a W h => by have e45 := (h.vb 7 45).trans v7; obtain ⟨kq0, kq1, kq2, kq3, kq4, kq5, kq6, kq7⟩ := HK W h.chg; simp only [execOp, e45]; first | (simp [go_sem, kq0, kq1, kq2, kq3, kq4, kq5, kq6, kq7, haq, hbq] <;> first | exact wrapIn | rfl) | kernel_rfl)
  · exact b_vx v9 rfl rfl (fun gm a W h => by have e0 : a.eval (.tmp 0) = .pointer (some ⟨sb, 0, none⟩) := (h.slot 0 (by kernel_rfl)).trans rfl; simp only [execOp, e0]; first | (simp [go_sem, haq, hbq] <;> first | exact wrapIn | rfl) | kernel_rfl)
  · exact b_vx v10 rfl rfl (fun gm a W h => by have e10 : a.eval (.tmp 10) = .pointer (some ⟨w1.heap.size, 0, none⟩) := (h.slot 10 (by kernel_rfl)).trans rfl; simp only [execOp, e10]; first | (simp [go_sem, haq, hbq] <;> first | exact wrapIn | rfl) | kernel_rfl)
  · exact b_vx v11 rfl rfl (fun gm a W h => by have e48 := (h.vb 10 48).trans v10; obtain ⟨kq0, kq1, kq2, kq3, kq4, kq5, kq6, kq7⟩ := HK W h.chg; simp only [execOp, e48]; first | (simp [go_sem, kq0, kq1, kq2, kq3, kq4, kq5, kq6, kq7, haq, hbq] <;> first | exact wrapIn | rfl) | kernel_rfl)
  · exact b_vx v12 rfl rfl (fun gm a W h => by have e47 := (h.vb 9 47).trans v9; simp only [execOp, e47]; first | (simp [go_sem, haq, hbq] <;> first | exact wrapIn | rfl) | kernel_rfl)
  · exact b_vx v13 rfl rfl (fun gm a W h => by have e50 := (h.vb 12 50).trans v12; simp only [execOp, e50]; first | (simp [go_sem, haq, hbq] <;> first | exact wrapIn | rfl) | kernel_rfl)
  · exact b_vx v14 rfl rfl (fun gm a W h => by have e51 := (h.vb 13 51).trans v13; have e49 := (h.vb 11 49).trans v11; simp only [execOp, e51, e49]; first | (simp [go_sem, haq, hbq] <;> first | exact wrapIn | rfl) | kernel_rfl)
  · exact b_vx v15 rfl rfl (fun gm a W h => by have e52 := (h.vb 14 52).trans v14; obtain ⟨kq0, kq1, kq2, kq3, kq4, kq5, kq6, kq7⟩ := HK W h.chg; simp only [execOp, e52]; first | (simp [go_sem, kq0, kq1, kq2, kq3, kq4, kq5, kq6, kq7, haq, hbq] <;> first | exact wrapIn | rfl) | kernel_rfl)
  · exact b_cx v16 rfl rfl (fun gm a W h => by
      have e39 := (h.vb 1 39).trans v1
      have e46 := (h.vb 8 46).trans v8
      have e53 := (h.vb 15 53).trans v15
      refine Eq.trans (b := .ok (.enter 132 #[a.eval (.tmp 39), a.eval (.tmp 46), a.eval (.tmp 53)]) W) (by kernel_rfl) ?_
      rw [e39, e46, e53]) (fun W => HI.out W)
  · exact b_vx v17 rfl rfl (fun gm a W h => by have e54 := (h.vb 16 54).trans v16; simp only [execOp, e54]; first | (simp [go_sem, haq, hbq] <;> first | exact wrapIn | rfl) | kernel_rfl)
  · exact b_vx v18 rfl rfl (fun gm a W h => by have e37 := (h.vb 17 37).trans v17; simp only [execOp, e37]; first | (simp [go_sem, haq, hbq] <;> first | exact wrapIn | rfl) | kernel_rfl)
  · exact b_vx v19 rfl rfl (fun gm a W h => by have e37 := (h.vb 17 37).trans v17; simp only [execOp, e37]; first | (simp [go_sem, haq, hbq] <;> first | exact wrapIn | rfl) | kernel_rfl)
  · exact b_alloc 0 _ rfl rfl rfl (by kernel_rfl) rfl (fun gm a W h => by kernel_rfl)
  · refine b_store 0 _ rfl rfl rfl v21 (fun j hj => by cases hj; exact ⟨11, ⟨⟨⟨20, .data⟩, by simp, rfl, by kernel_rfl⟩, by kernel_rfl⟩⟩) rfl (fun gm a W h hold hb => ?_)
    have e11 : a.eval (.tmp 11) = .pointer (some ⟨gm 0, 0, none⟩) := (h.vb 20 11).trans rfl
    have e55 := (h.vb 18 55).trans v18
    simp only at hb
    have hf := fun j => hb.frozen j
    have c0 := hb.cell 0
    have c1 := hb.cell 1
    refine ⟨_, by (simp only [execOp, e11, e55]; simp [go_sem, hf, c0, c1, haq, hbq]; try rfl), (hb.set_ 0 _).set_ 1 _, chgs2 _ _ _ _ _ _⟩
  · exact b_vx v22 rfl rfl (fun gm a W h => by have e56 := (h.vb 19 56).trans v19; simp only [execOp, e56]; first | (simp [go_sem, haq, hbq] <;> first | exact wrapIn | rfl) | kernel_rfl)
  intro gm vs w9 hc9 hb9 hold9 hge9 hv9
  have x0 := (hv9 0 38 (by kernel_rfl)).trans v0
  have x1 := (hv9 1 39 (by kernel_rfl)).trans v1
  have x2 := (hv9 2 40 (by kernel_rfl)).trans v2
  have x3 := (hv9 3 41 (by kernel_rfl)).trans v3
  have x4 := (hv9 4 42 (by kernel_rfl)).trans v4
  have x5 := (hv9 5 43 (by kernel_rfl)).trans v5
  have x6 := (hv9 6 44 (by kernel_rfl)).trans v6
  have x7 := (hv9 7 45 (by kernel_rfl)).trans v7
  have x8 := (hv9 8 46 (by kernel_rfl)).trans v8
  have x9 := (hv9 9 47 (by kernel_rfl)).trans v9
  have x10 := (hv9 10 48 (by kernel_rfl)).trans v10
  have x11 := (hv9 11 49 (by kernel_rfl)).trans v11
  have x12 := (hv9 12 50 (by kernel_rfl)).trans v12
  have x13 := (hv9 13 51 (by kernel_rfl)).trans v13
  have x14 := (hv9 14 52 (by kernel_rfl)).trans v14
  have x15 := (hv9 15 53 (by kernel_rfl)).trans v15
  have x16 := (hv9 16 54 (by kernel_rfl)).trans v16
  have x17 := (hv9 17 37 (by kernel_rfl)).trans v17
  have x18 := (hv9 18 55 (by kernel_rfl)).trans v18
  have x19 := (hv9 19 56 (by kernel_rfl)).trans v19
  have x20 : vs 20 = .pointer (some ⟨gm 0, 0, none⟩) := (hv9 20 11 (by kernel_rfl)).trans rfl
  have x22 := (hv9 22 12 (by kernel_rfl)).trans v22
  have y0 := hb9 0 _ rfl
  have g0 := hge9 0 _ 20 rfl rfl
  simp only at y0
  simp only [putAll, Act.put, List.setIfInBounds_toArray, List.set_cons_zero, List.set_cons_succ, Nat.zero_add, Nat.reduceAdd, x0, x1, x2, x3, x4, x5, x6, x7, x8, x9, x10, x11, x12, x13, x14, x15, x16, x17, x18, x19, x20, x22]
  clear hb9 hold9 hge9 hv9 x0 x1 x2 x3 x4 x5 x6 x7 x8 x9 x10 x11 x12 x13 x14 x15 x16 x17 x18 x19 x20 x22 v0 v1 v2 v3 v4 v5 v6 v7 v8 v9 v10 v11 v12 v13 v14 v15 v16 v17 v18 v19 v20 v21 v22 HK VV
  have G9 := chg_pre hc9 (by intro b hb; simp only [List.mem_cons, List.not_mem_nil, or_false] at hb; subst hb; simp)
  have HW9 := Lib.hid (grew_tr HW1.out (grew_tr GE.out G9))
  have HB9 := Lib.hid (HB1.out.grew (grew_tr GE.out G9))
  have hge := GE.out.size
  obtain ⟨g11, hg11⟩ : ∃ g, gm 0 = g := ⟨_, rfl⟩
  rw [hg11] at y0 g0 ⊢
  have r0 := y0.cell 0
  have r1 := y0.cell 1
  have rlt := y0.lt
  have n11 : g11 ≠ sb := by omega
  have u0 := (G9.cell (p := ⟨w1.heap.size, 0, none⟩) (World.block_lt_of_cell? _ _ q0)).trans q0
  have u1 := (G9.cell (p := ⟨w1.heap.size, 1, none⟩) (World.block_lt_of_cell? _ _ q1)).trans q1
  have u3 := (G9.cell (p := ⟨w1.heap.size, 3, none⟩) (World.block_lt_of_cell? _ _ q3)).trans q3
  have ul := World.block_lt_of_cell? _ _ u0
  simp only at ul
  simp only [List.getElem?_toArray, List.getElem?_cons_zero, List.getElem?_cons_succ] at r0 r1
  clear y0 hg11 hc9 G9 q0 q1 q2 q3 q4 q5 q6 q7 g0 gm vs hge
  cases B
  · have HV : Hid (actI ps ss ⟨4, (dj : Int), (aj : Int), (bj : Int), rel, lo, hi, to⟩ xs ⟨slo, shi⟩ = none) := Lib.hid (by rw [HV0.out]; cases O with | none => rfl | some x => (have := HBo.out; simp at this))
    go_wp2
    go_ret
    exact ⟨by rw [HV.out]; rfl, ⟨xs, slo, shi, HB9.out, fun z hz => by rw [HV.out] at hz; cases hz⟩, chg_gr (Chg.refl _ _) HW9.out⟩
  · have HV : Hid (actI ps ss ⟨4, (dj : Int), (aj : Int), (bj : Int), rel, lo, hi, to⟩ xs ⟨slo, shi⟩ = some ((xs.set bj ⟨wl, wh⟩).set dj ⟨rl, rh⟩, ⟨slo, shi⟩)) := Lib.hid (by
      rw [HV0.out]
      cases O with
      | none => (have := HBo.out; simp at this)
      | some x => have := HR.out; simp only [Option.getD_some] at this; rw [this]; rfl)
    clear HV0 HBo HR
    go_upto_region 11 with fail
    have HBx := HB9.out
    obtain ⟨VV, v0, v1, v2, v3, v4, v5, v6, v7, v8, v9, v10, v11, v12, v13, v14, v15, -⟩ := vl [.pointer (some ⟨sb, 0, none⟩), .pointer (some ⟨w1.heap.size, 3, none⟩), .int .i64 ((bj : Int)), .pointer (some ⟨sb, 0, none⟩), .pointer (some ⟨w1.heap.size, 3, none⟩), .int .i64 ((bj : Int)), .pointer (some ⟨sb, 0, none⟩), .pointer (some ⟨sb, 0, none⟩), .pointer (some ⟨sb, bj * 2, none⟩), .agg #[.int .i64 bl, .int .i64 bh], .agg #[.int .i64 0, .int .i64 0], .agg #[.int .i64 wl, .int .i64 wh], .pointer (some ⟨sb, 0, none⟩), .pointer (some ⟨sb, 0, none⟩), .pointer (some ⟨sb, bj * 2, none⟩), undef]
    have HK := fun W (c : Chg (preB [⟨none, sb, 15, 110, (stC xs slo shi), (stC (xs.set bj ⟨wl, wh⟩) slo shi)⟩]) _ W) => And.intro (ck c u0) (And.intro (ck c u1) (ck c u3))
    refine region_box 175 [⟨none, sb, 15, 110, (stC xs slo shi), (stC (xs.set bj ⟨wl, wh⟩) slo shi)⟩] VV (by kernel_rfl) rfl (by kernel_rfl) rfl (by intro b hb ha; simp only [List.mem_cons, List.not_mem_nil, or_false] at hb; rcases hb with rfl <;> first | (cases ha; done) | assumption) (by intro j k b c hjk hj hk hb hc; rcases j with _ | _ | j <;> rcases k with _ | _ | k <;> simp at hj hk hjk <;> (try subst hj) <;> (try subst hk) <;> first | (cases hb; done) | (cases hc; done) | (simp only; omega)) ⟨?_, ?_, ?_, ?_, ?_, ?_, ?_, ?_, ?_, ?_, ?_, ?_, ?_, ?_, ?_, ?_, trivial⟩ ?_
    · exact b_vx v0 rfl rfl (fun gm a W h => by have e0 : a.eval (.tmp 0) = .pointer (some ⟨sb, 0, none⟩) := (h.slot 0 (by kernel_rfl)).trans rfl; simp only [execOp, e0]; first | (simp [go_sem, haq, hbq] <;> first | exact wrapIn | rfl) | kernel_rfl)
    · exact b_vx v1 rfl rfl (fun gm a W h => by have e10 : a.eval (.tmp 10) = .pointer (some ⟨w1.heap.size, 0, none⟩) := (h.slot 10 (by kernel_rfl)).trans rfl; simp only [execOp, e10]; first | (simp [go_sem, haq, hbq] <;> first | exact wrapIn | rfl) | kernel_rfl)
    · exact b_vx v2 rfl rfl (fun gm a W h => by have e63 := (h.vb 1 63).trans v1; obtain ⟨ku0, ku1, ku3⟩ := HK W h.chg; simp only [execOp, e63]; first | (simp [go_sem, ku0, ku1, ku3, haq, hbq] <;> first | exact wrapIn | rfl) | kernel_rfl)
    · exact b_vx v3 rfl rfl (fun gm a W h => by have e0 : a.eval (.tmp 0) = .pointer (some ⟨sb, 0, none⟩) := (h.slot 0 (by kernel_rfl)).trans rfl; simp only [execOp, e0]; first | (simp [go_sem, haq, hbq] <;> first | exact wrapIn | rfl) | kernel_rfl)
    · exact b_vx v4 rfl rfl (fun gm a W h => by have e10 : a.eval (.tmp 10) = .pointer (some ⟨w1.heap.size, 0, none⟩) := (h.slot 10 (by kernel_rfl)).trans rfl; simp only [execOp, e10]; first | (simp [go_sem, haq, hbq] <;> first | exact wrapIn | rfl) | kernel_rfl)
    · exact b_vx v5 rfl rfl (fun gm a W h => by have e66 := (h.vb 4 66).trans v4; obtain ⟨ku0, ku1, ku3⟩ := HK W h.chg; simp only [execOp, e66]; first | (simp [go_sem, ku0, ku1, ku3, haq, hbq] <;> first | exact wrapIn | rfl) | kernel_rfl)
    · exact b_vx v6 rfl rfl (fun gm a W h => by have e65 := (h.vb 3 65).trans v3; simp only [execOp, e65]; first | (simp [go_sem, haq, hbq] <;> first | exact wrapIn | rfl) | kernel_rfl)
    · exact b_vx v7 rfl rfl (fun gm a W h => by have e68 := (h.vb 6 68).trans v6; simp only [execOp, e68]; first | (simp [go_sem, haq, hbq] <;> first | exact wrapIn | rfl) | kernel_rfl)
    · exact b_vx v8 rfl rfl (fun gm a W h => by have e69 := (h.vb 7 69).trans v7; have e67 := (h.vb 5 67).trans v5; simp only [execOp, e69, e67]; first | (simp [go_sem, haq, hbq] <;> first | exact wrapIn | rfl) | kernel_rfl)
    · exact b_vx v9 rfl rfl (fun gm a W h => by have e70 := (h.vb 8 70).trans v8; obtain ⟨ku0, ku1, ku3⟩ := HK W h.chg; obtain ⟨z0, z1⟩ := st_cell (h.rd 0 _ rfl rfl (by kernel_rfl)) H4.out HXb.out; simp only [execOp, e70]; first | (simp [go_sem, z0, z1, ku0, ku1, ku3, haq, hbq] <;> first | exact wrapIn | rfl) | kernel_rfl)
    · exact b_cx v10 rfl rfl (fun gm a W h => by
        skip
        refine Eq.trans (b := .ok (.enter 134 #[.int .i64 (0)]) W) (by kernel_rfl) ?_
        rfl) (fun W => HSI.out W)
    · exact b_cx v11 rfl rfl (fun gm a W h => by
        have e71 := (h.vb 9 71).trans v9
        have e72 := (h.vb 10 72).trans v10
        refine Eq.trans (b := .ok (.enter 133 #[a.eval (.tmp 71), a.eval (.tmp 72)]) W) (by kernel_rfl) ?_
        rw [e71, e72]) (fun W => HWO.out W)
    · exact b_vx v12 rfl rfl (fun gm a W h => by have e62 := (h.vb 0 62).trans v0; simp only [execOp, e62]; first | (simp [go_sem, haq, hbq] <;> first | exact wrapIn | rfl) | kernel_rfl)
    · exact b_vx v13 rfl rfl (fun gm a W h => by have e74 := (h.vb 12 74).trans v12; simp only [execOp, e74]; first | (simp [go_sem, haq, hbq] <;> first | exact wrapIn | rfl) | kernel_rfl)
    · exact b_vx v14 rfl rfl (fun gm a W h => by have e75 := (h.vb 13 75).trans v13; have e64 := (h.vb 2 64).trans v2; simp only [execOp, e75, e64]; first | (simp [go_sem, haq, hbq] <;> first | exact wrapIn | rfl) | kernel_rfl)
    · refine b_store 0 _ rfl rfl rfl v15 (fun j hj => by cases hj) rfl (fun gm a W h hold hb => ?_)
      have hg : gm 0 = sb := hold rfl
      rw [hg] at hb ⊢
      have e76 := (h.vb 14 76).trans v14
      have e73 := (h.vb 11 73).trans v11
      simp only at hb
      have hf := fun j => hb.frozen j
      obtain ⟨c0, c1⟩ := st_cell hb H4.out HXb.out
      refine ⟨_, by (simp only [execOp, e76, e73]; simp [go_sem, hf, c0, c1, haq, hbq]; try rfl), st_set hb H4.out hjb _ _, chgs2 _ _ _ _ _ _⟩
    intro gm vs w8 hc9 hb9 hold9 hge9 hv9
    have x0 := (hv9 0 62 (by kernel_rfl)).trans v0
    have x1 := (hv9 1 63 (by kernel_rfl)).trans v1
    have x2 := (hv9 2 64 (by kernel_rfl)).trans v2
    have x3 := (hv9 3 65 (by kernel_rfl)).trans v3
    have x4 := (hv9 4 66 (by kernel_rfl)).trans v4
    have x5 := (hv9 5 67 (by kernel_rfl)).trans v5
    have x6 := (hv9 6 68 (by kernel_rfl)).trans v6
    have x7 := (hv9 7 69 (by kernel_rfl)).trans v7
    have x8 := (hv9 8 70 (by kernel_rfl)).trans v8
    have x9 := (hv9 9 71 (by kernel_rfl)).trans v9
    have x10 := (hv9 10 72 (by kernel_rfl)).trans v10
    have x11 := (hv9 11 73 (by kernel_rfl)).trans v11
    have x12 := (hv9 12 74 (by kernel_rfl)).trans v12
    have x13 := (hv9 13 75 (by kernel_rfl)).trans v13
    have x14 := (hv9 14 76 (by kernel_rfl)).trans v14
    have y0 := hb9 0 _ rfl
    rw [hold9 0 _ rfl rfl] at y0
    simp only at y0
    simp only [putAll, Act.put, List.setIfInBounds_toArray, List.set_cons_zero, List.set_cons_succ, Nat.zero_add, Nat.reduceAdd, x0, x1, x2, x3, x4, x5, x6, x7, x8, x9, x10, x11, x12, x13, x14]
    clear hb9 hold9 hge9 hv9 x0 x1 x2 x3 x4 x5 x6 x7 x8 x9 x10 x11 x12 x13 x14 v0 v1 v2 v3 v4 v5 v6 v7 v8 v9 v10 v11 v12 v13 v14 v15 HK VV
    have hcs := chg_preS (z := sb) hc9 (by intro b hb ha; simp only [List.mem_cons, List.not_mem_nil, or_false] at hb; subst hb; rfl)
    have v1 := chg_cell hcs u1 hne
    have s0 := chg_cell hcs r0 n11
    have s1 := chg_cell hcs r1 n11
    have sl := World.block_lt_of_cell? _ _ s0
    have vl := World.block_lt_of_cell? _ _ v1
    simp only at sl vl
    have HB8 := Lib.hid y0
    have HC8 := Lib.hid ((chg_gr (Chg.refl (fun b => b = sb) w) HW9.out).trans hcs (fun _ _ h => h) (fun _ _ h => h))
    obtain ⟨xd, hxd⟩ := set_cell (xs := xs.set bj ⟨wl, wh⟩) (by rw [List.length_set]; exact H4.out) hjd
    obtain ⟨z0, z1⟩ := st_cell HB8.out (by rw [List.length_set]; exact H4.out) hxd
    have zf := fun i => HB8.out.frozen i
    have zl := HB8.out.lt
    clear HBx hcs hc9 y0 u0 u1 u3 r0 r1 rlt hxd gm vs
    go_wp2_with fail
    go_region
    go_wp2
    go_ret
    refine ⟨by rw [HV.out]; rfl, ⟨(xs.set bj ⟨wl, wh⟩).set dj ⟨rl, rh⟩, slo, shi, ?_, fun z hz => by rw [HV.out] at hz; cases hz; exact ⟨rfl, rfl⟩⟩, ?_⟩
    · (repeat (first | with_reducible exact (st_set HB8.out (by simp only [List.length_set, H4.out]) hjd _ _) | with_reducible refine Blk.alloc ?_ _ | with_reducible refine Blk.grew ?_ (grew_d (Below.refl _ _))))
    · (repeat (first | with_reducible exact HC8.out | with_reducible refine chg_gr ?_ (grew_d (Below.refl _ _)) | with_reducible refine chg_gr ?_ (grew_al (Below.refl _ _) _) | with_reducible refine Chg.alw (F := fun b => b = sb) ?_ rfl _))
end Go.Proofs.YtpmfpgbpndobpaaGreat
