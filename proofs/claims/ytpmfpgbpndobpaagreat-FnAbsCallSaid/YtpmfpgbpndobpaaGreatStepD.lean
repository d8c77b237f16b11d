/- What a step makes of a state: the program's act, load, store, assertion. No condition. -/
import Derived.Test.YtpmfpgbpndobpaaGreatStepC
namespace Go.Proofs.YtpmfpgbpndobpaaGreat
open Go.RowKit
set_option linter.unusedVariables false
set_option linter.unusedSimpArgs false
attribute [local go_sem] ext_cell ext_frozen ext_lt ext_le ext_le1 lt_s2 lt_s3 lt_s4 lt_s5 lt_s6 ext_lt1 ext_lt2 ext_lt3
attribute [local go_sem] asArith asNotArith asAny asNotAny asLoad asNotLoad asStore asNotStore asIf asNotIf asJump asNotJump asCall asNotCall asAssert asNotAssert asRet asNotRet

set_option maxRecDepth 100000 in
set_option maxHeartbeats 4000000 in
theorem implAct6 (sb : Nat) (pa : Option Addr) (pn pc : Nat) (ps : List Prc) (sa : Option Addr) (sn sc : Nat) (ss : List Sum) (d a b rel lo hi to : Int) (xs : List Itv) (slo shi : Int) (w : World) (hBk : Blk w sb 110 (stC xs slo shi)) (ho : stOkB true xs slo shi = true) (hd : varB d = true) (ha : varB a = true) (hb : varB b = true) :
    Calls Tryz.prog 102 #[.pointer (some ⟨sb, 0, none⟩), .agg #[.slice pa pn pc], .slice sa sn sc, Ins.v ⟨6, d, a, b, rel, lo, hi, to⟩] w (RetAct (actI ps ss ⟨6, d, a, b, rel, lo, hi, to⟩ xs ⟨slo, shi⟩) sb w) := by
  have h4 : xs.length = 4 := (stOk_parts ho).1
  have H4 := Lib.hid h4
  have HO := Lib.hid ho
  have hsb := hBk.lt
  have HB := Lib.hid hBk
  have HKa := Lib.hid ha
  have aok := nthI_ok ho ha
  obtain ⟨aj, hea, hja, hxa⟩ := nthI_get h4 ha
  subst hea
  obtain ⟨⟨al, ah⟩, hXa⟩ : ∃ x, nthI xs aj = x := ⟨_, rfl⟩
  have HXa := Lib.hid (show xs[aj]? = some (⟨al, ah⟩ : Itv) from by rw [← hXa]; exact hxa)
  have HNa := Lib.hid hXa
  have haq : ¬ (4 : Int) ≤ (aj : Int) := by omega
  have HOa := Lib.hid (show itvB (⟨al, ah⟩ : Itv) = true from by rw [← hXa]; exact aok)
  have HKd := Lib.hid hd
  have dok := nthI_ok ho hd
  obtain ⟨dj, hed, hjd, hxd⟩ := nthI_get h4 hd
  subst hed
  obtain ⟨⟨dl, dh⟩, hXd⟩ : ∃ x, nthI xs dj = x := ⟨_, rfl⟩
  have HXd := Lib.hid (show xs[dj]? = some (⟨dl, dh⟩ : Itv) from by rw [← hXd]; exact hxd)
  have HNd := Lib.hid hXd
  have hdq : ¬ (4 : Int) ≤ (dj : Int) := by omega
  have HOd := Lib.hid (show itvB (⟨dl, dh⟩ : Itv) = true from by rw [← hXd]; exact dok)
  obtain ⟨zs, hzs⟩ : ∃ zs, setI xs (aj : Int) ((meetI (nthI xs aj) ⟨0, 3⟩).getD ⟨0, 0⟩) = zs := ⟨_, rfl⟩
  obtain ⟨B, hB⟩ : ∃ x, (meetI (nthI xs aj) ⟨0, 3⟩).isSome = x := ⟨_, rfl⟩
  have HNW := Lib.hid (fun W (hbb : Blk W sb 110 (stC xs slo shi)) => (by rw [← hB, ← hzs]; exact implNarrow sb (aj : Int) ⟨0, 3⟩ xs slo shi W hbb H4.out HKa.out (nthI_ok HO.out HKa.out) (by decide) :
    Calls Tryz.prog 128 #[.pointer (some ⟨sb, 0, none⟩), .int .i64 (aj : Int), .agg #[.int .i64 0, .int .i64 3]] W fun e w' => e = .returned (.bool B) ∧ Blk w' sb 110 (stC zs slo shi) ∧ Chg (fun b => b = sb) W w'))
  have HZ4 : Hid (zs.length = 4) := Lib.hid (by rw [← hzs, setI_len]; exact H4.out)
  have HNR : Hid (narI xs aj ⟨0, 3⟩ = if B = true then some zs else none) := Lib.hid (by
    cases B
    · rw [narI_none hB]; rfl
    · rw [narI_get hB, hzs]; rfl)
  clear hzs hB
  have HCI := Lib.hid (fun W => implCellIndexes W)
  have HV0 : Hid (actI ps ss ⟨6, (dj : Int), (aj : Int), b, rel, lo, hi, to⟩ xs ⟨slo, shi⟩ = (if B = true then some zs else none).map fun ys => (ys.set dj ⟨slo, shi⟩, (⟨slo, shi⟩ : Itv))) := Lib.hid (by rw [← HNR.out]; simp [actI, setI_nat])
  have HC : Hid (∀ W, Calls Tryz.prog 95 #[Ins.v ⟨6, (dj : Int), (aj : Int), b, rel, lo, hi, to⟩] W fun e w' => e = .returned (.iface 168 (.agg #[.int .i64 (dj : Int), .int .i64 (aj : Int)])) ∧ Grew W w') := Lib.hid (fun W => codeOf ⟨6, (dj : Int), (aj : Int), b, rel, lo, hi, to⟩ W)
  clear hXa hxa aok hXd hxd dok h4 ho hBk hd ha hb HNR
  go_enter Tryz.func102, Tryz.ntmps102
  go_wp2_with fail
  refine (HC.out _).mono ?_
  rintro e w1 ⟨rfl, g1⟩
  have hG := show Grew w w1 from grew_tr (gr) g1
  have HW1 := Lib.hid hG
  have HB1 := Lib.hid (HB.out.grew hG)
  have hs1 := HB1.out.lt
  clear g1 hG HC HB hsb
  go_upto_region 15 with fail
  refine wp_letH ?_
  intro E hE
  have GE := Lib.hid (show Grew w1 E from by rw [hE]; exact gr)
  have q0 : E.cell? ⟨w1.heap.size, 0, none⟩ = some (.int .i64 (dj : Int)) := by rw [hE]; simp [go_sem]
  have q1 : E.cell? ⟨w1.heap.size, 1, none⟩ = some (.int .i64 (aj : Int)) := by rw [hE]; simp [go_sem]
  have HBE := HB1.out.grew GE.out
  have hne : w1.heap.size ≠ sb := by omega
  clear hE
  obtain ⟨VV, v0, v1, v2, v3, v4, v5, -⟩ := vl [.pointer (some ⟨sb, 0, none⟩), .pointer (some ⟨w1.heap.size, 1, none⟩), .int .i64 ((aj : Int)), .agg #[.int .i64 0, .int .i64 3], .bool B, .bool (!B)]
  have HK := fun W (c : Chg (preB [⟨none, sb, 4, 110, (stC xs slo shi), (stC zs slo shi)⟩]) _ W) => And.intro (ck c q0) (ck c q1)
  refine region_box 175 [⟨none, sb, 4, 110, (stC xs slo shi), (stC zs slo shi)⟩] VV (by kernel_rfl) rfl (by kernel_rfl) rfl (by intro b hb ha; simp only [List.mem_cons, List.not_mem_nil, or_false] at hb; rcases hb with rfl <;> first | (cases ha; done) | assumption) (by intro j k b c hjk hj hk hb hc; rcases j with _ | _ | j <;> rcases k with _ | _ | k <;> simp at hj hk hjk <;> (try subst hj) <;> (try subst hk) <;> first | (cases hb; done) | (cases hc; done) | (simp only; omega)) ⟨?_, ?_, ?_, ?_, ?_, ?_, trivial⟩ ?_
  · exact b_vx v0 rfl rfl (fun gm a W h => by have e0 : a.eval (.tmp 0) = .pointer (some ⟨sb, 0, none⟩) := (h.slot 0 (by kernel_rfl)).trans rfl; simp only [execOp, e0]; first | (simp [go_sem] <;> first | exact wrapIn | rfl) | kernel_rfl)
  · exact b_vx v1 rfl rfl (fun gm a W h => by have e13 : a.eval (.tmp 13) = .pointer (some ⟨w1.heap.size, 0, none⟩) := (h.slot 13 (by kernel_rfl)).trans rfl; simp only [execOp, e13]; first | (simp [go_sem] <;> first | exact wrapIn | rfl) | kernel_rfl)
  · exact b_vx v2 rfl rfl (fun gm a W h => by have e88 := (h.vb 1 88).trans v1; obtain ⟨kq0, kq1⟩ := HK W h.chg; simp only [execOp, e88]; first | (simp [go_sem, kq0, kq1] <;> first | exact wrapIn | rfl) | kernel_rfl)
  · exact b_cx v3 rfl rfl (fun gm a W h => by
      skip
      refine Eq.trans (b := .ok (.enter 109 #[]) W) (by kernel_rfl) ?_
      rfl) (fun W => HCI.out W)
  · exact b_scx v4 0 _ rfl rfl rfl rfl rfl (fun gm a W h hb => by
      have e87 := (h.vb 0 87).trans v0
      have e89 := (h.vb 2 89).trans v2
      have e90 := (h.vb 3 90).trans v3
      refine Eq.trans (b := .ok (.enter 128 #[a.eval (.tmp 87), a.eval (.tmp 89), a.eval (.tmp 90)]) W) (by kernel_rfl) ?_
      rw [e87, e89, e90]) (fun W hbb => HNW.out W hbb)
  · exact b_vx v5 rfl rfl (fun gm a W h => by have e91 := (h.vb 4 91).trans v4; simp only [execOp, e91]; first | (simp [go_sem] <;> first | exact wrapIn | rfl) | kernel_rfl)
  intro gm vs w9 hc9 hb9 hold9 hge9 hv9
  have x0 := (hv9 0 87 (by kernel_rfl)).trans v0
  have x1 := (hv9 1 88 (by kernel_rfl)).trans v1
  have x2 := (hv9 2 89 (by kernel_rfl)).trans v2
  have x3 := (hv9 3 90 (by kernel_rfl)).trans v3
  have x4 := (hv9 4 91 (by kernel_rfl)).trans v4
  have x5 := (hv9 5 92 (by kernel_rfl)).trans v5
  have y0 := hb9 0 _ rfl
  rw [hold9 0 _ rfl rfl] at y0
  simp only at y0
  simp only [putAll, Act.put, List.setIfInBounds_toArray, List.set_cons_zero, List.set_cons_succ, Nat.zero_add, Nat.reduceAdd, x0, x1, x2, x3, x4, x5]
  clear hb9 hold9 hge9 hv9 x0 x1 x2 x3 x4 x5 v0 v1 v2 v3 v4 v5 HK VV
  have hcs := chg_preS (z := sb) hc9 (by intro b hb ha; simp only [List.mem_cons, List.not_mem_nil, or_false] at hb; subst hb; rfl)
  have HB9 := Lib.hid y0
  have HC9 := Lib.hid ((chg_gr (Chg.refl (fun b => b = sb) w) (grew_tr HW1.out GE.out)).trans hcs (fun _ _ h => h) (fun _ _ h => h))
  have u0 := chg_cell hcs q0 hne
  have ul := World.block_lt_of_cell? _ _ u0
  simp only at ul
  clear y0 hc9 hcs q0 q1 HBE gm vs
  cases B
  · have HV : Hid (actI ps ss ⟨6, (dj : Int), (aj : Int), b, rel, lo, hi, to⟩ xs ⟨slo, shi⟩ = none) := Lib.hid (by rw [HV0.out]; rfl)
    go_wp2
    go_ret
    exact ⟨by rw [HV.out]; rfl, ⟨zs, slo, shi, HB9.out, fun z hz => by rw [HV.out] at hz; cases hz⟩, HC9.out⟩
  · have HV : Hid (actI ps ss ⟨6, (dj : Int), (aj : Int), b, rel, lo, hi, to⟩ xs ⟨slo, shi⟩ = some (zs.set dj ⟨slo, shi⟩, ⟨slo, shi⟩)) := Lib.hid (by rw [HV0.out]; rfl)
    obtain ⟨xd, hxd⟩ := set_cell HZ4.out hjd
    obtain ⟨z0, z1⟩ := st_cell HB9.out HZ4.out hxd
    obtain ⟨z8, z9⟩ := st_end HB9.out HZ4.out
    have zf := fun i => HB9.out.frozen i
    have zl := HB9.out.lt
    clear hxd
    go_wp2_with fail
    go_region
    go_wp2
    go_ret
    refine ⟨by rw [HV.out]; rfl, ⟨zs.set dj ⟨slo, shi⟩, slo, shi, ?_, fun z hz => by rw [HV.out] at hz; cases hz; exact ⟨rfl, rfl⟩⟩, ?_⟩
    · (repeat (first | with_reducible exact (st_set HB9.out (by simp only [List.length_set, HZ4.out]) hjd _ _) | with_reducible refine Blk.alloc ?_ _ | with_reducible refine Blk.grew ?_ (grew_d (Below.refl _ _))))
    · (repeat (first | with_reducible exact HC9.out | with_reducible refine chg_gr ?_ (grew_d (Below.refl _ _)) | with_reducible refine chg_gr ?_ (grew_al (Below.refl _ _) _) | with_reducible refine Chg.alw (F := fun b => b = sb) ?_ rfl _))
set_option maxRecDepth 100000 in
set_option maxHeartbeats 4000000 in
theorem implAct7 (sb : Nat) (pa : Option Addr) (pn pc : Nat) (ps : List Prc) (sa : Option Addr) (sn sc : Nat) (ss : List Sum) (d a b rel lo hi to : Int) (xs : List Itv) (slo shi : Int) (w : World) (hBk : Blk w sb 110 (stC xs slo shi)) (ho : stOkB true xs slo shi = true) (hd : varB d = true) (ha : varB a = true) (hb : varB b = true) :
    Calls Tryz.prog 102 #[.pointer (some ⟨sb, 0, none⟩), .agg #[.slice pa pn pc], .slice sa sn sc, Ins.v ⟨7, d, a, b, rel, lo, hi, to⟩] w (RetAct (actI ps ss ⟨7, d, a, b, rel, lo, hi, to⟩ xs ⟨slo, shi⟩) sb w) := by
  have h4 : xs.length = 4 := (stOk_parts ho).1
  have H4 := Lib.hid h4
  have HO := Lib.hid ho
  have hsb := hBk.lt
  have HB := Lib.hid hBk
  have HKa := Lib.hid ha
  have aok := nthI_ok ho ha
  obtain ⟨aj, hea, hja, hxa⟩ := nthI_get h4 ha
  subst hea
  obtain ⟨⟨al, ah⟩, hXa⟩ : ∃ x, nthI xs aj = x := ⟨_, rfl⟩
  have HXa := Lib.hid (show xs[aj]? = some (⟨al, ah⟩ : Itv) from by rw [← hXa]; exact hxa)
  have HNa := Lib.hid hXa
  have haq : ¬ (4 : Int) ≤ (aj : Int) := by omega
  have HOa := Lib.hid (show itvB (⟨al, ah⟩ : Itv) = true from by rw [← hXa]; exact aok)
  have HKb := Lib.hid hb
  have bok := nthI_ok ho hb
  obtain ⟨bj, heb, hjb, hxb⟩ := nthI_get h4 hb
  subst heb
  obtain ⟨⟨bl, bh⟩, hXb⟩ : ∃ x, nthI xs bj = x := ⟨_, rfl⟩
  have HXb := Lib.hid (show xs[bj]? = some (⟨bl, bh⟩ : Itv) from by rw [← hXb]; exact hxb)
  have HNb := Lib.hid hXb
  have hbq : ¬ (4 : Int) ≤ (bj : Int) := by omega
  have HOb := Lib.hid (show itvB (⟨bl, bh⟩ : Itv) = true from by rw [← hXb]; exact bok)
  obtain ⟨zs, hzs⟩ : ∃ zs, setI xs (aj : Int) ((meetI (nthI xs aj) ⟨0, 3⟩).getD ⟨0, 0⟩) = zs := ⟨_, rfl⟩
  obtain ⟨B, hB⟩ : ∃ x, (meetI (nthI xs aj) ⟨0, 3⟩).isSome = x := ⟨_, rfl⟩
  have HNW := Lib.hid (fun W (hbb : Blk W sb 110 (stC xs slo shi)) => (by rw [← hB, ← hzs]; exact implNarrow sb (aj : Int) ⟨0, 3⟩ xs slo shi W hbb H4.out HKa.out (nthI_ok HO.out HKa.out) (by decide) :
    Calls Tryz.prog 128 #[.pointer (some ⟨sb, 0, none⟩), .int .i64 (aj : Int), .agg #[.int .i64 0, .int .i64 3]] W fun e w' => e = .returned (.bool B) ∧ Blk w' sb 110 (stC zs slo shi) ∧ Chg (fun b => b = sb) W w'))
  have HZ4 : Hid (zs.length = 4) := Lib.hid (by rw [← hzs, setI_len]; exact H4.out)
  have HNR : Hid (narI xs aj ⟨0, 3⟩ = if B = true then some zs else none) := Lib.hid (by
    cases B
    · rw [narI_none hB]; rfl
    · rw [narI_get hB, hzs]; rfl)
  clear hzs hB
  have HCI := Lib.hid (fun W => implCellIndexes W)
  have HIJ := Lib.hid (fun W => implItvJoin ⟨slo, shi⟩ ⟨bl, bh⟩ W (show itvB ⟨slo, shi⟩ = true from (stOk_parts HO.out).2.2) HOb.out)
  obtain ⟨⟨jl, jh⟩, hj⟩ : ∃ j, joinI ⟨slo, shi⟩ ⟨bl, bh⟩ = j := ⟨_, rfl⟩
  have HV0 : Hid (actI ps ss ⟨7, d, (aj : Int), (bj : Int), rel, lo, hi, to⟩ xs ⟨slo, shi⟩ = (if B = true then some zs else none).map fun ys => (ys, (⟨jl, jh⟩ : Itv))) := Lib.hid (by rw [← HNR.out, ← hj, ← HNb.out]; simp [actI])
  rw [hj] at HIJ
  simp only at HIJ
  have HC : Hid (∀ W, Calls Tryz.prog 95 #[Ins.v ⟨7, d, (aj : Int), (bj : Int), rel, lo, hi, to⟩] W fun e w' => e = .returned (.iface 170 (.agg #[.int .i64 (aj : Int), .int .i64 (bj : Int)])) ∧ Grew W w') := Lib.hid (fun W => codeOf ⟨7, d, (aj : Int), (bj : Int), rel, lo, hi, to⟩ W)
  clear hXa hxa aok hXb hxb bok h4 ho hBk hd ha hb HNR hj
  go_enter Tryz.func102, Tryz.ntmps102
  go_wp2_with fail
  refine (HC.out _).mono ?_
  rintro e w1 ⟨rfl, g1⟩
  have hG := show Grew w w1 from grew_tr (gr) g1
  have HW1 := Lib.hid hG
  have HB1 := Lib.hid (HB.out.grew hG)
  have hs1 := HB1.out.lt
  clear g1 hG HC HB hsb
  obtain ⟨z0, z1⟩ := st_cell HB1.out H4.out HXb.out
  simp only at z0 z1
  go_wp2_with fail
  go_region
  clear z0 z1
  go_upto_region 21 with fail
  refine wp_letH ?_
  intro E hE
  have GE := Lib.hid (show Grew w1 E from by rw [hE]; repeat (first | with_reducible exact Below.refl _ _ | with_reducible refine grew_al ?_ _ | with_reducible refine grew_d ?_ | with_reducible refine grew_set ?_ (by first | omega | (simp only; omega)) _))
  have q0 : E.cell? ⟨w1.heap.size, 0, none⟩ = some (.int .i64 (aj : Int)) := by rw [hE]; simp [go_sem]
  have q1 : E.cell? ⟨w1.heap.size, 1, none⟩ = some (.int .i64 (bj : Int)) := by rw [hE]; simp [go_sem]
  have q2 : E.cell? ⟨w1.heap.size + 1, 0, none⟩ = some (.int .i64 bl) := by rw [hE]; simp [go_sem]
  have q3 : E.cell? ⟨w1.heap.size + 1, 1, none⟩ = some (.int .i64 bh) := by rw [hE]; simp [go_sem]
  have HBE := HB1.out.grew GE.out
  have hne : w1.heap.size ≠ sb := by omega
  have hne2 : w1.heap.size + 1 ≠ sb := by omega
  clear hE
  obtain ⟨VV, v0, v1, v2, v3, v4, v5, -⟩ := vl [.pointer (some ⟨sb, 0, none⟩), .pointer (some ⟨w1.heap.size, 0, none⟩), .int .i64 ((aj : Int)), .agg #[.int .i64 0, .int .i64 3], .bool B, .bool (!B)]
  have HK := fun W (c : Chg (preB [⟨none, sb, 4, 110, (stC xs slo shi), (stC zs slo shi)⟩]) _ W) => And.intro (ck c q0) (ck c q1)
  refine region_box 175 [⟨none, sb, 4, 110, (stC xs slo shi), (stC zs slo shi)⟩] VV (by kernel_rfl) rfl (by kernel_rfl) rfl (by intro b hb ha; simp only [List.mem_cons, List.not_mem_nil, or_false] at hb; rcases hb with rfl <;> first | (cases ha; done) | assumption) (by intro j k b c hjk hj hk hb hc; rcases j with _ | _ | j <;> rcases k with _ | _ | k <;> simp at hj hk hjk <;> (try subst hj) <;> (try subst hk) <;> first | (cases hb; done) | (cases hc; done) | (simp only; omega)) ⟨?_, ?_, ?_, ?_, ?_, ?_, trivial⟩ ?_
  · exact b_vx v0 rfl rfl (fun gm a W h => by have e0 : a.eval (.tmp 0) = .pointer (some ⟨sb, 0, none⟩) := (h.slot 0 (by kernel_rfl)).trans rfl; simp only [execOp, e0]; first | (simp [go_sem] <;> first | exact wrapIn | rfl) | kernel_rfl)
  · exact b_vx v1 rfl rfl (fun gm a W h => by have e14 : a.eval (.tmp 14) = .pointer (some ⟨w1.heap.size, 0, none⟩) := (h.slot 14 (by kernel_rfl)).trans rfl; simp only [execOp, e14]; first | (simp [go_sem] <;> first | exact wrapIn | rfl) | kernel_rfl)
  · exact b_vx v2 rfl rfl (fun gm a W h => by have e114 := (h.vb 1 114).trans v1; obtain ⟨kq0, kq1⟩ := HK W h.chg; simp only [execOp, e114]; first | (simp [go_sem, kq0, kq1] <;> first | exact wrapIn | rfl) | kernel_rfl)
  · exact b_cx v3 rfl rfl (fun gm a W h => by
      skip
      refine Eq.trans (b := .ok (.enter 109 #[]) W) (by kernel_rfl) ?_
      rfl) (fun W => HCI.out W)
  · exact b_scx v4 0 _ rfl rfl rfl rfl rfl (fun gm a W h hb => by
      have e113 := (h.vb 0 113).trans v0
      have e115 := (h.vb 2 115).trans v2
      have e116 := (h.vb 3 116).trans v3
      refine Eq.trans (b := .ok (.enter 128 #[a.eval (.tmp 113), a.eval (.tmp 115), a.eval (.tmp 116)]) W) (by kernel_rfl) ?_
      rw [e113, e115, e116]) (fun W hbb => HNW.out W hbb)
  · exact b_vx v5 rfl rfl (fun gm a W h => by have e117 := (h.vb 4 117).trans v4; simp only [execOp, e117]; first | (simp [go_sem] <;> first | exact wrapIn | rfl) | kernel_rfl)
  intro gm vs w9 hc9 hb9 hold9 hge9 hv9
  have x0 := (hv9 0 113 (by kernel_rfl)).trans v0
  have x1 := (hv9 1 114 (by kernel_rfl)).trans v1
  have x2 := (hv9 2 115 (by kernel_rfl)).trans v2
  have x3 := (hv9 3 116 (by kernel_rfl)).trans v3
  have x4 := (hv9 4 117 (by kernel_rfl)).trans v4
  have x5 := (hv9 5 118 (by kernel_rfl)).trans v5
  have y0 := hb9 0 _ rfl
  rw [hold9 0 _ rfl rfl] at y0
  simp only at y0
  simp only [putAll, Act.put, List.setIfInBounds_toArray, List.set_cons_zero, List.set_cons_succ, Nat.zero_add, Nat.reduceAdd, x0, x1, x2, x3, x4, x5]
  clear hb9 hold9 hge9 hv9 x0 x1 x2 x3 x4 x5 v0 v1 v2 v3 v4 v5 HK VV
  have hcs := chg_preS (z := sb) hc9 (by intro b hb ha; simp only [List.mem_cons, List.not_mem_nil, or_false] at hb; subst hb; rfl)
  have HB9 := Lib.hid y0
  have HC9 := Lib.hid ((chg_gr (Chg.refl (fun b => b = sb) w) (grew_tr HW1.out GE.out)).trans hcs (fun _ _ h => h) (fun _ _ h => h))
  have u2 := chg_cell hcs q2 hne2
  have u3 := chg_cell hcs q3 hne2
  have ul := World.block_lt_of_cell? _ _ u2
  simp only at ul
  clear y0 hc9 hcs q0 q1 q2 q3 HBE gm vs
  cases B
  · have HV : Hid (actI ps ss ⟨7, d, (aj : Int), (bj : Int), rel, lo, hi, to⟩ xs ⟨slo, shi⟩ = none) := Lib.hid (by rw [HV0.out]; rfl)
    go_wp2
    go_ret
    exact ⟨by rw [HV.out]; rfl, ⟨zs, slo, shi, HB9.out, fun z hz => by rw [HV.out] at hz; cases hz⟩, HC9.out⟩
  · have HV : Hid (actI ps ss ⟨7, d, (aj : Int), (bj : Int), rel, lo, hi, to⟩ xs ⟨slo, shi⟩ = some (zs, ⟨jl, jh⟩)) := Lib.hid (by rw [HV0.out]; rfl)
    have HBx := HB9.out
    go_upto_region 23 with fail
    obtain ⟨VV, v0, v1, v2, v3, v4, v5, v6, v7, v8, v9, -⟩ := vl [.pointer (some ⟨sb, 0, none⟩), .pointer (some ⟨sb, 0, none⟩), .pointer (some ⟨sb, 0, none⟩), .pointer (some ⟨sb, 8, none⟩), .agg #[.int .i64 slo, .int .i64 shi], .agg #[.int .i64 bl, .int .i64 bh], .agg #[.int .i64 jl, .int .i64 jh], .pointer (some ⟨sb, 0, none⟩), .pointer (some ⟨sb, 8, none⟩), undef]
    have HK := fun W (c : Chg (preB [⟨none, sb, 9, 110, (stC zs slo shi), (stC zs jl jh)⟩]) _ W) => And.intro (ck c u2) (ck c u3)
    refine region_box 175 [⟨none, sb, 9, 110, (stC zs slo shi), (stC zs jl jh)⟩] VV (by kernel_rfl) rfl (by kernel_rfl) rfl (by intro b hb ha; simp only [List.mem_cons, List.not_mem_nil, or_false] at hb; rcases hb with rfl <;> first | (cases ha; done) | assumption) (by intro j k b c hjk hj hk hb hc; rcases j with _ | _ | j <;> rcases k with _ | _ | k <;> simp at hj hk hjk <;> (try subst hj) <;> (try subst hk) <;> first | (cases hb; done) | (cases hc; done) | (simp only; omega)) ⟨?_, ?_, ?_, ?_, ?_, ?_, ?_, ?_, ?_, ?_, trivial⟩ ?_
    · exact b_vx v0 rfl rfl (fun gm a W h => by have e0 : a.eval (.tmp 0) = .pointer (some ⟨sb, 0, none⟩) := (h.slot 0 (by kernel_rfl)).trans rfl; simp only [execOp, e0]; first | (simp [go_sem] <;> first | exact wrapIn | rfl) | kernel_rfl)
    · exact b_vx v1 rfl rfl (fun gm a W h => by have e0 : a.eval (.tmp 0) = .pointer (some ⟨sb, 0, none⟩) := (h.slot 0 (by kernel_rfl)).trans rfl; simp only [execOp, e0]; first | (simp [go_sem] <;> first | exact wrapIn | rfl) | kernel_rfl)
    · exact b_vx v2 rfl rfl (fun gm a W h => by have e120 := (h.vb 1 120).trans v1; simp only [execOp, e120]; first | (simp [go_sem] <;> first | exact wrapIn | rfl) | kernel_rfl)
    · exact b_vx v3 rfl rfl (fun gm a W h => by have e121 := (h.vb 2 121).trans v2; simp only [execOp, e121]; first | (simp [go_sem] <;> first | exact wrapIn | rfl) | kernel_rfl)
    · exact b_vx v4 rfl rfl (fun gm a W h => by have e122 := (h.vb 3 122).trans v3; obtain ⟨ku2, ku3⟩ := HK W h.chg; obtain ⟨z8, z9⟩ := st_end (h.rd 0 _ rfl rfl (by kernel_rfl)) HZ4.out; simp only [execOp, e122]; first | (simp [go_sem, z8, z9, ku2, ku3] <;> first | exact wrapIn | rfl) | kernel_rfl)
    · exact b_vx v5 rfl rfl (fun gm a W h => by have e15 : a.eval (.tmp 15) = .pointer (some ⟨w1.heap.size + 1, 0, none⟩) := (h.slot 15 (by kernel_rfl)).trans rfl; obtain ⟨ku2, ku3⟩ := HK W h.chg; simp only [execOp, e15]; first | (simp [go_sem, ku2, ku3] <;> first | exact wrapIn | rfl) | kernel_rfl)
    · exact b_cx v6 rfl rfl (fun gm a W h => by
        have e123 := (h.vb 4 123).trans v4
        have e124 := (h.vb 5 124).trans v5
        refine Eq.trans (b := .ok (.enter 135 #[a.eval (.tmp 123), a.eval (.tmp 124)]) W) (by kernel_rfl) ?_
        rw [e123, e124]) (fun W => HIJ.out W)
    · exact b_vx v7 rfl rfl (fun gm a W h => by have e119 := (h.vb 0 119).trans v0; simp only [execOp, e119]; first | (simp [go_sem] <;> first | exact wrapIn | rfl) | kernel_rfl)
    · exact b_vx v8 rfl rfl (fun gm a W h => by have e126 := (h.vb 7 126).trans v7; simp only [execOp, e126]; first | (simp [go_sem] <;> first | exact wrapIn | rfl) | kernel_rfl)
    · refine b_store 0 _ rfl rfl rfl v9 (fun j hj => by cases hj) rfl (fun gm a W h hold hb => ?_)
      have hg : gm 0 = sb := hold rfl
      rw [hg] at hb ⊢
      have e127 := (h.vb 8 127).trans v8
      have e125 := (h.vb 6 125).trans v6
      simp only at hb
      have hf := fun j => hb.frozen j
      obtain ⟨c0, c1⟩ := st_end hb HZ4.out
      refine ⟨_, by (simp only [execOp, e127, e125]; simp [go_sem, hf, c0, c1]; try rfl), st_setend hb HZ4.out _ _, chgs2 _ _ _ _ _ _⟩
    intro gm vs w8 hc9 hb9 hold9 hge9 hv9
    have x0 := (hv9 0 119 (by kernel_rfl)).trans v0
    have x1 := (hv9 1 120 (by kernel_rfl)).trans v1
    have x2 := (hv9 2 121 (by kernel_rfl)).trans v2
    have x3 := (hv9 3 122 (by kernel_rfl)).trans v3
    have x4 := (hv9 4 123 (by kernel_rfl)).trans v4
    have x5 := (hv9 5 124 (by kernel_rfl)).trans v5
    have x6 := (hv9 6 125 (by kernel_rfl)).trans v6
    have x7 := (hv9 7 126 (by kernel_rfl)).trans v7
    have x8 := (hv9 8 127 (by kernel_rfl)).trans v8
    have y0 := hb9 0 _ rfl
    rw [hold9 0 _ rfl rfl] at y0
    simp only at y0
    simp only [putAll, Act.put, List.setIfInBounds_toArray, List.set_cons_zero, List.set_cons_succ, Nat.zero_add, Nat.reduceAdd, x0, x1, x2, x3, x4, x5, x6, x7, x8]
    clear hb9 hold9 hge9 hv9 x0 x1 x2 x3 x4 x5 x6 x7 x8 v0 v1 v2 v3 v4 v5 v6 v7 v8 v9 HK VV
    have hcs := chg_preS (z := sb) hc9 (by intro b hb ha; simp only [List.mem_cons, List.not_mem_nil, or_false] at hb; subst hb; rfl)
    have HB8 := Lib.hid y0
    have HC8 := Lib.hid (HC9.out.trans hcs (fun _ _ h => h) (fun _ _ h => h))
    clear HBx hcs hc9 y0 u2 u3 gm vs
    go_wp2
    go_ret
    exact ⟨by rw [HV.out]; rfl, ⟨zs, jl, jh, HB8.out, fun z hz => by rw [HV.out] at hz; cases hz; exact ⟨rfl, rfl⟩⟩, HC8.out⟩
set_option maxRecDepth 100000 in
set_option maxHeartbeats 4000000 in
theorem implAct11 (sb : Nat) (pa : Option Addr) (pn pc : Nat) (ps : List Prc) (sa : Option Addr) (sn sc : Nat) (ss : List Sum) (d a b rel lo hi to : Int) (xs : List Itv) (slo shi : Int) (w : World) (hBk : Blk w sb 110 (stC xs slo shi)) (ho : stOkB true xs slo shi = true) (hd : varB d = true) (ha : varB a = true) (hb : varB b = true) (hrel : 1 ≤ rel ∧ rel ≤ 4) (HIR : ∀ (x y : Itv) W, itvB x = true → itvB y = true → Calls Tryz.prog 100 #[.int .i64 rel, x.v, y.v] W fun e w' => e = .returned (relV (relI rel x y)) ∧ Grew W w'):
    Calls Tryz.prog 102 #[.pointer (some ⟨sb, 0, none⟩), .agg #[.slice pa pn pc], .slice sa sn sc, Ins.v ⟨11, d, a, b, rel, lo, hi, to⟩] w (RetAct (actI ps ss ⟨11, d, a, b, rel, lo, hi, to⟩ xs ⟨slo, shi⟩) sb w) := by
  have h4 : xs.length = 4 := (stOk_parts ho).1
  have H4 := Lib.hid h4
  have HO := Lib.hid ho
  have hsb := hBk.lt
  have HB := Lib.hid hBk
  have HRL := Lib.hid (fun W (hbb : Blk W sb 110 (stC xs slo shi)) => implRelate 100 cfRel (relI rel (nthI xs a) (nthI xs b)) sb rel a b xs slo shi W hbb ho ha hb (fun W => HIR _ _ W (nthI_ok ho ha) (nthI_ok ho hb)) (fun p hp => relI_ok hp))
  have HV : Hid (actI ps ss ⟨11, d, a, b, rel, lo, hi, to⟩ xs ⟨slo, shi⟩ = (relSt (relI rel (nthI xs a) (nthI xs b)) xs a b).map fun zs => (zs, (⟨slo, shi⟩ : Itv))) := Lib.hid (by simp [actI])
  rw [HV.out]
  obtain ⟨OO, hOO⟩ : ∃ o, ((relSt (relI rel (nthI xs a) (nthI xs b)) xs a b).map fun zs => (zs, (⟨slo, shi⟩ : Itv))) = o := ⟨_, rfl⟩
  rw [hOO] at HRL ⊢
  clear hOO HV HIR
  have HC : Hid (∀ W, Calls Tryz.prog 95 #[Ins.v ⟨11, d, a, b, rel, lo, hi, to⟩] W fun e w' => e = .returned (.iface 154 (.agg #[.int .i64 rel, .int .i64 a, .int .i64 b])) ∧ Grew W w') := Lib.hid (fun W => codeOf ⟨11, d, a, b, rel, lo, hi, to⟩ W)
  clear h4 ho hBk hd ha hb
  go_enter Tryz.func102, Tryz.ntmps102
  go_wp2_with fail
  refine (HC.out _).mono ?_
  rintro e w1 ⟨rfl, g1⟩
  have hG := show Grew w w1 from grew_tr (gr) g1
  have HW1 := Lib.hid hG
  have HB1 := Lib.hid (HB.out.grew hG)
  have hs1 := HB1.out.lt
  clear g1 hG HC HB hsb
  go_wp2_with fail
  refine (HRL.out _ (HB1.out.alloc _)).mono ?_
  rintro e w2 ⟨rfl, ⟨ys, l, h, hb2, hys⟩, hc2⟩
  have HB2 := Lib.hid hb2
  have HYS := Lib.hid hys
  have HC2 := Lib.hid ((chg_gr (chg_gr (Chg.refl (fun b => b = sb) w) HW1.out) (grew_al (Below.refl _ _) _)).trans hc2 (fun _ _ h => h) (fun _ _ h => h))
  clear hb2 hys hc2
  go_wp2
  go_ret
  exact ⟨rfl, ⟨ys, l, h, HB2.out, HYS.out⟩, HC2.out⟩
end Go.Proofs.YtpmfpgbpndobpaaGreat
