/- What a step makes of a state: the program's act, call; put together. No condition. -/
import Derived.Test.YtpmfpgbpndobpaaGreatStepD
import Derived.Test.YtpmfpgbpndobpaaGreatLawInsOk
namespace Go.Proofs.YtpmfpgbpndobpaaGreat
open Go.RowKit
set_option linter.unusedVariables false
set_option linter.unusedSimpArgs false
attribute [local go_sem] ext_cell ext_frozen ext_lt ext_le ext_le1 lt_s2 lt_s3 lt_s4 lt_s5 lt_s6 ext_lt1 ext_lt2 ext_lt3
attribute [local go_sem] asArith asNotArith asAny asNotAny asLoad asNotLoad asStore asNotStore asIf asNotIf asJump asNotJump asCall asNotCall asAssert asNotAssert asRet asNotRet

set_option maxRecDepth 100000 in
set_option maxHeartbeats 4000000 in
theorem implAct10 (sb : Nat) (pa : Option Addr) (pn pc : Nat) (ps : List Prc) (sa : Option Addr) (sn sc : Nat) (ss : List Sum) (d a b rel lo hi to : Int) (xs : List Itv) (slo shi : Int) (w : World) (hBk : Blk w sb 110 (stC xs slo shi)) (ho : stOkB true xs slo shi = true) (hd : varB d = true) (ha : varB a = true) (hb : varB b = true) (hr : RdP w pa pn ps) (hp : prgOkB ps = true) (hto : 0 ≤ to ∧ to < pn) (hss : RdL ESum 3 w sa sn ss) (hsn : sn = pn) (hnsp : ∀ x : Addr, pa = some x → x.block ≠ sb) (hnss : ∀ x : Addr, sa = some x → x.block ≠ sb):
    Calls Tryz.prog 102 #[.pointer (some ⟨sb, 0, none⟩), .agg #[.slice pa pn pc], .slice sa sn sc, Ins.v ⟨10, d, a, b, rel, lo, hi, to⟩] w (RetAct (actI ps ss ⟨10, d, a, b, rel, lo, hi, to⟩ xs ⟨slo, shi⟩) sb w) := by
  have h4 : xs.length = 4 := (stOk_parts ho).1
  have H4 := Lib.hid h4
  have HO := Lib.hid ho
  have hsb := hBk.lt
  have HB := Lib.hid hBk
  have HKa := Lib.hid ha
  have aok := nthI_ok ho ha
  obtain ⟨aj, hea, hja, hxa⟩ := nthI_get h4 ha
  subst hea
  obtain ⟨⟨al, ah⟩, hXa⟩ : ∃ x, nthI xs aj = x := ⟨_, rfl⟩
  have HXa := Lib.hid (show xs[aj]? = some (⟨al, ah⟩ : Itv) from by rw [← hXa]; exact hxa)
  have HNa := Lib.hid hXa
  have haq : ¬ (4 : Int) ≤ (aj : Int) := by omega
  have HOa := Lib.hid (show itvB (⟨al, ah⟩ : Itv) = true from by rw [← hXa]; exact aok)
  have HKd := Lib.hid hd
  have dok := nthI_ok ho hd
  obtain ⟨dj, hed, hjd, hxd⟩ := nthI_get h4 hd
  subst hed
  obtain ⟨⟨dl, dh⟩, hXd⟩ : ∃ x, nthI xs dj = x := ⟨_, rfl⟩
  have HXd := Lib.hid (show xs[dj]? = some (⟨dl, dh⟩ : Itv) from by rw [← hXd]; exact hxd)
  have HNd := Lib.hid hXd
  have hdq : ¬ (4 : Int) ≤ (dj : Int) := by omega
  have HOd := Lib.hid (show itvB (⟨dl, dh⟩ : Itv) = true from by rw [← hXd]; exact dok)
  obtain ⟨k, p, rfl, hk, hpk, he⟩ := prcI_get hto.1 (by rw [hr.len]; exact hto.2)
  have hpo := prgOk_prc hp (List.mem_of_getElem? hpk)
  have hk' : k < pn := by omega
  have hks : k < sn := by omega
  obtain ⟨pb, off, plo, phi, is, ia, ic, rfl, hx, c0, c1, c2, hbb, hi1, hi2, hi3⟩ := rdP_at hr hk'
  rw [hx] at hpk
  cases hpk
  obtain ⟨qb, qoff, on, ol, oh, rfl, hsx, e0, e1, e2, hqb⟩ := rdSum_at hss hks
  have HSI : Hid (sumI ss (k : Int) = ⟨on, ol, oh⟩) := Lib.hid (by simp [sumI, List.getD_eq_getElem?_getD, hsx])
  have HPI := Lib.hid he
  have hkp : ¬ (pn : Int) ≤ (k : Int) := by omega
  have hkp1 : (k : Int) < (pn : Int) := by omega
  have hkn : ¬ (sn : Int) ≤ (k : Int) := by omega
  have hkn1 : (k : Int) < (sn : Int) := by omega
  obtain ⟨zs, hzs⟩ : ∃ zs, setI xs (aj : Int) ((meetI (nthI xs aj) ⟨plo, phi⟩).getD ⟨0, 0⟩) = zs := ⟨_, rfl⟩
  obtain ⟨B, hB⟩ : ∃ x, (meetI (nthI xs aj) ⟨plo, phi⟩).isSome = x := ⟨_, rfl⟩
  have HNW := Lib.hid (fun W (hbb : Blk W sb 110 (stC xs slo shi)) => (by rw [← hB, ← hzs]; exact implNarrow sb (aj : Int) ⟨plo, phi⟩ xs slo shi W hbb H4.out HKa.out (nthI_ok HO.out HKa.out) hpo :
    Calls Tryz.prog 128 #[.pointer (some ⟨sb, 0, none⟩), .int .i64 (aj : Int), .agg #[.int .i64 plo, .int .i64 phi]] W fun e w' => e = .returned (.bool B) ∧ Blk w' sb 110 (stC zs slo shi) ∧ Chg (fun b => b = sb) W w'))
  have HZ4 : Hid (zs.length = 4) := Lib.hid (by rw [← hzs, setI_len]; exact H4.out)
  have HNR : Hid (narI xs aj ⟨plo, phi⟩ = if B = true then some zs else none) := Lib.hid (by
    cases B
    · rw [narI_none hB]; rfl
    · rw [narI_get hB, hzs]; rfl)
  clear hzs hB
  have HV0 : Hid (actI ps ss ⟨10, (dj : Int), (aj : Int), b, rel, lo, hi, (k : Int)⟩ xs ⟨slo, shi⟩ = (if B = true then some zs else none).bind fun ys => if on = true then some (ys.set dj ⟨ol, oh⟩, (⟨slo, shi⟩ : Itv)) else none) := Lib.hid (by rw [← HNR.out]; simp [actI, setI_nat, HPI.out, HSI.out])
  have HKP := Lib.hid (fun v W => prcItv plo phi v W)
  have hpsb : pb < w.heap.size := hbb
  have HCE := Lib.hid (fun W (g : Grew w W) => (⟨(g.cell (p := ⟨pb, off + k * 3, none⟩) hbb).trans c0, (g.cell (p := ⟨pb, off + k * 3 + 1, none⟩) hbb).trans c1, (g.cell (p := ⟨pb, off + k * 3 + 2, none⟩) hbb).trans c2, (g.cell (p := ⟨qb, qoff + k * 3, none⟩) hqb).trans e0, (g.cell (p := ⟨qb, qoff + k * 3 + 1, none⟩) hqb).trans e1, (g.cell (p := ⟨qb, qoff + k * 3 + 2, none⟩) hqb).trans e2⟩ : W.cell? ⟨pb, off + k * 3, none⟩ = some (.int .i64 plo) ∧ W.cell? ⟨pb, off + k * 3 + 1, none⟩ = some (.int .i64 phi) ∧ W.cell? ⟨pb, off + k * 3 + 2, none⟩ = some (.slice ia is.length ic) ∧
    W.cell? ⟨qb, qoff + k * 3, none⟩ = some (.bool on) ∧ W.cell? ⟨qb, qoff + k * 3 + 1, none⟩ = some (.int .i64 ol) ∧ W.cell? ⟨qb, qoff + k * 3 + 2, none⟩ = some (.int .i64 oh)))
  have hnp : pb ≠ sb := fun e => hnsp ⟨pb, off, none⟩ rfl e
  have hnq : qb ≠ sb := fun e => hnss ⟨qb, qoff, none⟩ rfl e
  have HC : Hid (∀ W, Calls Tryz.prog 95 #[Ins.v ⟨10, (dj : Int), (aj : Int), b, rel, lo, hi, (k : Int)⟩] W fun e w' => e = .returned (.iface 152 (.agg #[.int .i64 (dj : Int), .int .i64 (aj : Int), .int .i64 (k : Int)])) ∧ Grew W w') := Lib.hid (fun W => codeOf ⟨10, (dj : Int), (aj : Int), b, rel, lo, hi, (k : Int)⟩ W)
  clear hXa hxa aok hXd hxd dok h4 ho hBk hd ha hb HNR hr hp hpo hx c0 c1 c2 hi1 hi2 hi3 hss hsx e0 e1 e2 he hto hnsp hnss hsn hk HSI HPI
  go_enter Tryz.func102, Tryz.ntmps102
  go_wp2_with fail
  refine (HC.out _).mono ?_
  rintro e w1 ⟨rfl, g1⟩
  have hG := show Grew w w1 from grew_tr (gr) g1
  have HW1 := Lib.hid hG
  have HB1 := Lib.hid (HB.out.grew hG)
  have hs1 := HB1.out.lt
  have p0 : w1.cell? ⟨w.heap.size, 0, none⟩ = some (.slice (some ⟨pb, off, none⟩) pn pc) := (g1.cell (p := ⟨w.heap.size, 0, none⟩) (by simp only [World.size_alloc]; omega)).trans (by simp [go_sem])
  have lw : w.heap.size < w1.heap.size := by have := g1.size; simp only [World.size_alloc] at this; omega
  have hpw : w.heap.size ≠ sb := by omega
  clear g1 hG HC HB hsb
  go_upto_region 26 with fail
  refine wp_letH ?_
  intro E hE
  have GE := Lib.hid (show Grew w1 E from by rw [hE]; exact gr)
  have q0 : E.cell? ⟨w1.heap.size, 0, none⟩ = some (.int .i64 (dj : Int)) := by rw [hE]; simp [go_sem]
  have q1 : E.cell? ⟨w1.heap.size, 1, none⟩ = some (.int .i64 (aj : Int)) := by rw [hE]; simp [go_sem]
  have q2 : E.cell? ⟨w1.heap.size, 2, none⟩ = some (.int .i64 (k : Int)) := by rw [hE]; simp [go_sem]
  have p0' := (GE.out.cell (p := ⟨w.heap.size, 0, none⟩) lw).trans p0
  have hne : w1.heap.size ≠ sb := by omega
  have HBE := Lib.hid (HB1.out.grew GE.out)
  have HCH := Lib.hid (chg_gr (Chg.refl (fun b => b = sb) w) (grew_tr HW1.out GE.out))
  have HC0 := HCE.out E (grew_tr HW1.out GE.out)
  clear hE p0 HW1 HB1
  have HSC := Lib.hid (fun W W' (h : (fun W => W.cell? ⟨w1.heap.size, 0, none⟩ = some (.int .i64 (dj : Int)) ∧ W.cell? ⟨w1.heap.size, 1, none⟩ = some (.int .i64 (aj : Int)) ∧ W.cell? ⟨w1.heap.size, 2, none⟩ = some (.int .i64 (k : Int)) ∧ W.cell? ⟨w.heap.size, 0, none⟩ = some (.slice (some ⟨pb, off, none⟩) pn pc) ∧ W.cell? ⟨pb, off + k * 3, none⟩ = some (.int .i64 plo) ∧ W.cell? ⟨pb, off + k * 3 + 1, none⟩ = some (.int .i64 phi) ∧ W.cell? ⟨pb, off + k * 3 + 2, none⟩ = some (.slice ia is.length ic) ∧ W.cell? ⟨qb, qoff + k * 3, none⟩ = some (.bool on) ∧ W.cell? ⟨qb, qoff + k * 3 + 1, none⟩ = some (.int .i64 ol) ∧ W.cell? ⟨qb, qoff + k * 3 + 2, none⟩ = some (.int .i64 oh)) W) (c : Chg (fun b => b = sb) W W') => (⟨chg_cell c h.1 hne, chg_cell c h.2.1 hne, chg_cell c h.2.2.1 hne, chg_cell c h.2.2.2.1 hpw, chg_cell c h.2.2.2.2.1 hnp, chg_cell c h.2.2.2.2.2.1 hnp, chg_cell c h.2.2.2.2.2.2.1 hnp, chg_cell c h.2.2.2.2.2.2.2.1 hnq, chg_cell c h.2.2.2.2.2.2.2.2.1 hnq, chg_cell c h.2.2.2.2.2.2.2.2.2 hnq⟩ : (fun W => W.cell? ⟨w1.heap.size, 0, none⟩ = some (.int .i64 (dj : Int)) ∧ W.cell? ⟨w1.heap.size, 1, none⟩ = some (.int .i64 (aj : Int)) ∧ W.cell? ⟨w1.heap.size, 2, none⟩ = some (.int .i64 (k : Int)) ∧ W.cell? ⟨w.heap.size, 0, none⟩ = some (.slice (some ⟨pb, off, none⟩) pn pc) ∧ W.cell? ⟨pb, off + k * 3, none⟩ = some (.int .i64 plo) ∧ W.cell? ⟨pb, off + k * 3 + 1, none⟩ = some (.int .i64 phi) ∧ W.cell? ⟨pb, off + k * 3 + 2, none⟩ = some (.slice ia is.length ic) ∧ W.cell? ⟨qb, qoff + k * 3, none⟩ = some (.bool on) ∧ W.cell? ⟨qb, qoff + k * 3 + 1, none⟩ = some (.int .i64 ol) ∧ W.cell? ⟨qb, qoff + k * 3 + 2, none⟩ = some (.int .i64 oh)) W'))
  have HSE := Lib.hid (⟨q0, q1, q2, p0', HC0⟩ : (fun W => W.cell? ⟨w1.heap.size, 0, none⟩ = some (.int .i64 (dj : Int)) ∧ W.cell? ⟨w1.heap.size, 1, none⟩ = some (.int .i64 (aj : Int)) ∧ W.cell? ⟨w1.heap.size, 2, none⟩ = some (.int .i64 (k : Int)) ∧ W.cell? ⟨w.heap.size, 0, none⟩ = some (.slice (some ⟨pb, off, none⟩) pn pc) ∧ W.cell? ⟨pb, off + k * 3, none⟩ = some (.int .i64 plo) ∧ W.cell? ⟨pb, off + k * 3 + 1, none⟩ = some (.int .i64 phi) ∧ W.cell? ⟨pb, off + k * 3 + 2, none⟩ = some (.slice ia is.length ic) ∧ W.cell? ⟨qb, qoff + k * 3, none⟩ = some (.bool on) ∧ W.cell? ⟨qb, qoff + k * 3 + 1, none⟩ = some (.int .i64 ol) ∧ W.cell? ⟨qb, qoff + k * 3 + 2, none⟩ = some (.int .i64 oh)) E)
  have HSG := Lib.hid (fun W (g : Grew E W) => HSC.out E W HSE.out (chg_gr (Chg.refl _ _) g))
  clear q0 q1 q2 p0' HC0 HCE
  cases B
  · have HV : Hid (actI ps ss ⟨10, (dj : Int), (aj : Int), b, rel, lo, hi, (k : Int)⟩ xs ⟨slo, shi⟩ = none) := Lib.hid (by rw [HV0.out]; rfl)
    refine wp_region_held_drew (S := (fun W => W.cell? ⟨w1.heap.size, 0, none⟩ = some (.int .i64 (dj : Int)) ∧ W.cell? ⟨w1.heap.size, 1, none⟩ = some (.int .i64 (aj : Int)) ∧ W.cell? ⟨w1.heap.size, 2, none⟩ = some (.int .i64 (k : Int)) ∧ W.cell? ⟨w.heap.size, 0, none⟩ = some (.slice (some ⟨pb, off, none⟩) pn pc) ∧ W.cell? ⟨pb, off + k * 3, none⟩ = some (.int .i64 plo) ∧ W.cell? ⟨pb, off + k * 3 + 1, none⟩ = some (.int .i64 phi) ∧ W.cell? ⟨pb, off + k * 3 + 2, none⟩ = some (.slice ia is.length ic) ∧ W.cell? ⟨qb, qoff + k * 3, none⟩ = some (.bool on) ∧ W.cell? ⟨qb, qoff + k * 3 + 1, none⟩ = some (.int .i64 ol) ∧ W.cell? ⟨qb, qoff + k * 3 + 2, none⟩ = some (.int .i64 oh))) (by kernel_rfl) ?_ (fun hHeld => ?_)
    · (try dsimp only); (first | assumption | exact HSG.out _ (gr))
    refine wpAnyH_take (i := 0) (v := ?_) rfl (by kernel_rfl) (by kernel_rfl) (by kernel_rfl) (fun _ _ _ h => h) (Or.inl ⟨by rfl, ?_⟩) (by assumption) ?_
    rotate_left
    · (intro w hSw; (try dsimp only at hSw); go_simp; try with_reducible rfl)
    try simp only [List.getElem_toArray, List.getElem_cons_succ, List.getElem_cons_zero, Act.put, List.setIfInBounds_toArray, List.set_cons_zero, List.set_cons_succ]
    refine wpAnyH_take (i := 1) (v := ?_) rfl (by kernel_rfl) (by kernel_rfl) (by kernel_rfl) (fun _ _ _ h => h) (Or.inl ⟨by rfl, ?_⟩) (by assumption) ?_
    rotate_left
    · (intro w hSw; (try dsimp only at hSw); go_simp; try with_reducible rfl)
    try simp only [List.getElem_toArray, List.getElem_cons_succ, List.getElem_cons_zero, Act.put, List.setIfInBounds_toArray, List.set_cons_zero, List.set_cons_succ]
    refine wpAnyH_take (i := 2) (v := ?_) rfl (by kernel_rfl) (by kernel_rfl) (by kernel_rfl) (fun _ _ _ h => h) (Or.inl ⟨by rfl, ?_⟩) (by assumption) ?_
    rotate_left
    · (intro w hSw; (try dsimp only at hSw); go_simp; try with_reducible rfl)
    try simp only [List.getElem_toArray, List.getElem_cons_succ, List.getElem_cons_zero, Act.put, List.setIfInBounds_toArray, List.set_cons_zero, List.set_cons_succ]
    refine wpAnyH_take (i := 3) (v := ?_) rfl (by kernel_rfl) (by kernel_rfl) (by kernel_rfl) (fun _ _ _ h => h) (Or.inl ⟨by rfl, ?_⟩) (by assumption) ?_
    rotate_left
    · (intro w hSw; (try dsimp only at hSw); go_simp; try with_reducible rfl)
    try simp only [List.getElem_toArray, List.getElem_cons_succ, List.getElem_cons_zero, Act.put, List.setIfInBounds_toArray, List.set_cons_zero, List.set_cons_succ]
    refine wpAnyH_take (i := 4) (v := ?_) rfl (by kernel_rfl) (by kernel_rfl) (by kernel_rfl) (fun _ _ _ h => h) (Or.inl ⟨by rfl, ?_⟩) (by assumption) ?_
    rotate_left
    · (intro w hSw; (try dsimp only at hSw); go_simp; try with_reducible rfl)
    try simp only [List.getElem_toArray, List.getElem_cons_succ, List.getElem_cons_zero, Act.put, List.setIfInBounds_toArray, List.set_cons_zero, List.set_cons_succ]
    refine wpAnyH_take (i := 5) (v := ?_) rfl (by kernel_rfl) (by kernel_rfl) (by kernel_rfl) (fun _ _ _ h => h) (Or.inl ⟨by rfl, ?_⟩) (by assumption) ?_
    rotate_left
    · (intro w hSw; (try dsimp only at hSw); go_simp; try with_reducible rfl)
    try simp only [List.getElem_toArray, List.getElem_cons_succ, List.getElem_cons_zero, Act.put, List.setIfInBounds_toArray, List.set_cons_zero, List.set_cons_succ]
    refine wpAnyH_take (i := 6) (v := ?_) rfl (by kernel_rfl) (by kernel_rfl) (by kernel_rfl) (fun _ _ _ h => h) (Or.inl ⟨by rfl, ?_⟩) (by assumption) ?_
    rotate_left
    · (intro w hSw; (try dsimp only at hSw); go_simp; try with_reducible rfl)
    try simp only [List.getElem_toArray, List.getElem_cons_succ, List.getElem_cons_zero, Act.put, List.setIfInBounds_toArray, List.set_cons_zero, List.set_cons_succ]
    refine wpAnyH_take (i := 7) (v := ?_) rfl (by kernel_rfl) (by kernel_rfl) (by kernel_rfl) (fun _ _ _ h => h) (Or.inl ⟨by rfl, ?_⟩) (by assumption) ?_
    rotate_left
    · (intro w hSw; (try dsimp only at hSw); go_simp; try with_reducible rfl)
    try simp only [List.getElem_toArray, List.getElem_cons_succ, List.getElem_cons_zero, Act.put, List.setIfInBounds_toArray, List.set_cons_zero, List.set_cons_succ]
    refine wpAnyH_take (i := 8) (v := ?_) rfl (by kernel_rfl) (by kernel_rfl) (by kernel_rfl) (fun _ _ _ h => h) (Or.inl ⟨by rfl, ?_⟩) (by assumption) ?_
    rotate_left
    · (intro w hSw; (try dsimp only at hSw); go_simp; try with_reducible rfl)
    try simp only [List.getElem_toArray, List.getElem_cons_succ, List.getElem_cons_zero, Act.put, List.setIfInBounds_toArray, List.set_cons_zero, List.set_cons_succ]
    refine wpAnyH_ready (rs := [9]) (by kernel_rfl) (by simp) ?_
    refine AllReadyH.cons rfl (fun K hK => ?_) AllReadyH.nil
    try simp only [List.getElem_toArray, List.getElem_cons_succ, List.getElem_cons_zero]
    go_simp
    (refine (HKP.out _ _).mono ?_; rintro e wh ⟨rfl, ga⟩; have hgh : Grew E wh := grew_tr (grew_d (Below.refl _ _)) ga; have hs8 := HSG.out _ hgh; clear ga)
    refine hK.out _ _ ?_ (fun hHeld => ?_)
    · (try dsimp only); (first | assumption | exact HSG.out _ (gr))
    clear hK K
    try simp only [List.getElem_toArray, List.getElem_cons_succ, List.getElem_cons_zero, Act.put, List.setIfInBounds_toArray, List.set_cons_zero, List.set_cons_succ]
    refine wpAnyH_ready (rs := [10]) (by kernel_rfl) (by simp) ?_
    refine AllReadyH.cons rfl (fun K hK => ?_) AllReadyH.nil
    try simp only [List.getElem_toArray, List.getElem_cons_succ, List.getElem_cons_zero]
    go_simp
    (refine (HNW.out _ (HBE.out.grew hgh)).mono ?_; rintro e w2 ⟨rfl, hb2, hc2⟩; have hs9 := HSC.out _ _ hs8 hc2)
    refine hK.out _ _ ?_ (fun hHeld => ?_)
    · (try dsimp only); (first | assumption | exact HSG.out _ (gr))
    clear hK K
    try simp only [List.getElem_toArray, List.getElem_cons_succ, List.getElem_cons_zero, Act.put, List.setIfInBounds_toArray, List.set_cons_zero, List.set_cons_succ]
    refine wpAnyH_take (i := 11) (v := ?_) rfl (by kernel_rfl) (by kernel_rfl) (by kernel_rfl) (fun _ _ _ h => h) (Or.inl ⟨by rfl, ?_⟩) (by assumption) ?_
    rotate_left
    · (intro w hSw; (try dsimp only at hSw); go_simp; try with_reducible rfl)
    try simp only [List.getElem_toArray, List.getElem_cons_succ, List.getElem_cons_zero, Act.put, List.setIfInBounds_toArray, List.set_cons_zero, List.set_cons_succ]
    refine wpAnyH_take (i := 12) (v := ?_) rfl (by kernel_rfl) (by kernel_rfl) (by kernel_rfl) (fun _ _ _ h => h) (Or.inl ⟨by rfl, ?_⟩) (by assumption) ?_
    rotate_left
    · (intro w hSw; (try dsimp only at hSw); go_simp; try with_reducible rfl)
    try simp only [List.getElem_toArray, List.getElem_cons_succ, List.getElem_cons_zero, Act.put, List.setIfInBounds_toArray, List.set_cons_zero, List.set_cons_succ]
    refine wpAnyH_take (i := 13) (v := undef) rfl (by kernel_rfl) (by kernel_rfl) (by kernel_rfl) (fun _ _ _ h => h) (Or.inr ⟨by rfl, rfl⟩) (by assumption) ?_
    try simp only [List.getElem_toArray, List.getElem_cons_succ, List.getElem_cons_zero, Act.put, List.setIfInBounds_toArray, List.set_cons_zero, List.set_cons_succ]
    refine wpAnyH_take (i := 14) (v := undef) rfl (by kernel_rfl) (by kernel_rfl) (by kernel_rfl) (fun _ _ _ h => h) (Or.inr ⟨by rfl, rfl⟩) (by assumption) ?_
    try simp only [List.getElem_toArray, List.getElem_cons_succ, List.getElem_cons_zero, Act.put, List.setIfInBounds_toArray, List.set_cons_zero, List.set_cons_succ]
    refine wpAnyH_take (i := 15) (v := undef) rfl (by kernel_rfl) (by kernel_rfl) (by kernel_rfl) (fun _ _ _ h => h) (Or.inr ⟨by rfl, rfl⟩) (by assumption) ?_
    try simp only [List.getElem_toArray, List.getElem_cons_succ, List.getElem_cons_zero, Act.put, List.setIfInBounds_toArray, List.set_cons_zero, List.set_cons_succ]
    refine wpAnyH_take (i := 16) (v := undef) rfl (by kernel_rfl) (by kernel_rfl) (by kernel_rfl) (fun _ _ _ h => h) (Or.inr ⟨by rfl, rfl⟩) (by assumption) ?_
    try simp only [List.getElem_toArray, List.getElem_cons_succ, List.getElem_cons_zero, Act.put, List.setIfInBounds_toArray, List.set_cons_zero, List.set_cons_succ]
    refine wpAnyH_take (i := 17) (v := undef) rfl (by kernel_rfl) (by kernel_rfl) (by kernel_rfl) (fun _ _ _ h => h) (Or.inr ⟨by rfl, rfl⟩) (by assumption) ?_
    try simp only [List.getElem_toArray, List.getElem_cons_succ, List.getElem_cons_zero, Act.put, List.setIfInBounds_toArray, List.set_cons_zero, List.set_cons_succ]
    refine wpAnyH_take (i := 18) (v := undef) rfl (by kernel_rfl) (by kernel_rfl) (by kernel_rfl) (fun _ _ _ h => h) (Or.inr ⟨by rfl, rfl⟩) (by assumption) ?_
    try simp only [List.getElem_toArray, List.getElem_cons_succ, List.getElem_cons_zero, Act.put, List.setIfInBounds_toArray, List.set_cons_zero, List.set_cons_succ]
    refine wpAnyH_take (i := 19) (v := undef) rfl (by kernel_rfl) (by kernel_rfl) (by kernel_rfl) (fun _ _ _ h => h) (Or.inr ⟨by rfl, rfl⟩) (by assumption) ?_
    try simp only [List.getElem_toArray, List.getElem_cons_succ, List.getElem_cons_zero, Act.put, List.setIfInBounds_toArray, List.set_cons_zero, List.set_cons_succ]
    refine wpAnyH_take (i := 20) (v := ?_) rfl (by kernel_rfl) (by kernel_rfl) (by kernel_rfl) (fun _ _ _ h => h) (Or.inl ⟨by rfl, ?_⟩) (by assumption) ?_
    rotate_left
    · (intro w hSw; (try dsimp only at hSw); go_simp; try with_reducible rfl)
    try simp only [List.getElem_toArray, List.getElem_cons_succ, List.getElem_cons_zero, Act.put, List.setIfInBounds_toArray, List.set_cons_zero, List.set_cons_succ]
    refine wpAnyH_done (by kernel_rfl) ?_ _
    have HC2 := Lib.hid ((chg_gr HCH.out hgh).trans hc2 (fun _ _ h => h) (fun _ _ h => h))
    have HB2 := Lib.hid hb2
    clear hs8 hs9 hgh hc2 hb2
    go_wp2
    go_ret
    exact ⟨by rw [HV.out]; rfl, ⟨zs, slo, shi, HB2.out, fun z hz => by rw [HV.out] at hz; cases hz⟩, HC2.out⟩
  · cases on
    · have HV : Hid (actI ps ss ⟨10, (dj : Int), (aj : Int), b, rel, lo, hi, (k : Int)⟩ xs ⟨slo, shi⟩ = none) := Lib.hid (by rw [HV0.out]; rfl)
      refine wp_region_held_drew (S := (fun W => W.cell? ⟨w1.heap.size, 0, none⟩ = some (.int .i64 (dj : Int)) ∧ W.cell? ⟨w1.heap.size, 1, none⟩ = some (.int .i64 (aj : Int)) ∧ W.cell? ⟨w1.heap.size, 2, none⟩ = some (.int .i64 (k : Int)) ∧ W.cell? ⟨w.heap.size, 0, none⟩ = some (.slice (some ⟨pb, off, none⟩) pn pc) ∧ W.cell? ⟨pb, off + k * 3, none⟩ = some (.int .i64 plo) ∧ W.cell? ⟨pb, off + k * 3 + 1, none⟩ = some (.int .i64 phi) ∧ W.cell? ⟨pb, off + k * 3 + 2, none⟩ = some (.slice ia is.length ic) ∧ W.cell? ⟨qb, qoff + k * 3, none⟩ = some (.bool false) ∧ W.cell? ⟨qb, qoff + k * 3 + 1, none⟩ = some (.int .i64 ol) ∧ W.cell? ⟨qb, qoff + k * 3 + 2, none⟩ = some (.int .i64 oh))) (by kernel_rfl) ?_ (fun hHeld => ?_)
      · (try dsimp only); (first | assumption | exact HSG.out _ (gr))
      refine wpAnyH_take (i := 0) (v := ?_) rfl (by kernel_rfl) (by kernel_rfl) (by kernel_rfl) (fun _ _ _ h => h) (Or.inl ⟨by rfl, ?_⟩) (by assumption) ?_
      rotate_left
      · (intro w hSw; (try dsimp only at hSw); go_simp; try with_reducible rfl)
      try simp only [List.getElem_toArray, List.getElem_cons_succ, List.getElem_cons_zero, Act.put, List.setIfInBounds_toArray, List.set_cons_zero, List.set_cons_succ]
      refine wpAnyH_take (i := 1) (v := ?_) rfl (by kernel_rfl) (by kernel_rfl) (by kernel_rfl) (fun _ _ _ h => h) (Or.inl ⟨by rfl, ?_⟩) (by assumption) ?_
      rotate_left
      · (intro w hSw; (try dsimp only at hSw); go_simp; try with_reducible rfl)
      try simp only [List.getElem_toArray, List.getElem_cons_succ, List.getElem_cons_zero, Act.put, List.setIfInBounds_toArray, List.set_cons_zero, List.set_cons_succ]
      refine wpAnyH_take (i := 2) (v := ?_) rfl (by kernel_rfl) (by kernel_rfl) (by kernel_rfl) (fun _ _ _ h => h) (Or.inl ⟨by rfl, ?_⟩) (by assumption) ?_
      rotate_left
      · (intro w hSw; (try dsimp only at hSw); go_simp; try with_reducible rfl)
      try simp only [List.getElem_toArray, List.getElem_cons_succ, List.getElem_cons_zero, Act.put, List.setIfInBounds_toArray, List.set_cons_zero, List.set_cons_succ]
      refine wpAnyH_take (i := 3) (v := ?_) rfl (by kernel_rfl) (by kernel_rfl) (by kernel_rfl) (fun _ _ _ h => h) (Or.inl ⟨by rfl, ?_⟩) (by assumption) ?_
      rotate_left
      · (intro w hSw; (try dsimp only at hSw); go_simp; try with_reducible rfl)
      try simp only [List.getElem_toArray, List.getElem_cons_succ, List.getElem_cons_zero, Act.put, List.setIfInBounds_toArray, List.set_cons_zero, List.set_cons_succ]
      refine wpAnyH_take (i := 4) (v := ?_) rfl (by kernel_rfl) (by kernel_rfl) (by kernel_rfl) (fun _ _ _ h => h) (Or.inl ⟨by rfl, ?_⟩) (by assumption) ?_
      rotate_left
      · (intro w hSw; (try dsimp only at hSw); go_simp; try with_reducible rfl)
      try simp only [List.getElem_toArray, List.getElem_cons_succ, List.getElem_cons_zero, Act.put, List.setIfInBounds_toArray, List.set_cons_zero, List.set_cons_succ]
      refine wpAnyH_take (i := 5) (v := ?_) rfl (by kernel_rfl) (by kernel_rfl) (by kernel_rfl) (fun _ _ _ h => h) (Or.inl ⟨by rfl, ?_⟩) (by assumption) ?_
      rotate_left
      · (intro w hSw; (try dsimp only at hSw); go_simp; try with_reducible rfl)
      try simp only [List.getElem_toArray, List.getElem_cons_succ, List.getElem_cons_zero, Act.put, List.setIfInBounds_toArray, List.set_cons_zero, List.set_cons_succ]
      refine wpAnyH_take (i := 6) (v := ?_) rfl (by kernel_rfl) (by kernel_rfl) (by kernel_rfl) (fun _ _ _ h => h) (Or.inl ⟨by rfl, ?_⟩) (by assumption) ?_
      rotate_left
      · (intro w hSw; (try dsimp only at hSw); go_simp; try with_reducible rfl)
      try simp only [List.getElem_toArray, List.getElem_cons_succ, List.getElem_cons_zero, Act.put, List.setIfInBounds_toArray, List.set_cons_zero, List.set_cons_succ]
      refine wpAnyH_take (i := 7) (v := ?_) rfl (by kernel_rfl) (by kernel_rfl) (by kernel_rfl) (fun _ _ _ h => h) (Or.inl ⟨by rfl, ?_⟩) (by assumption) ?_
      rotate_left
      · (intro w hSw; (try dsimp only at hSw); go_simp; try with_reducible rfl)
      try simp only [List.getElem_toArray, List.getElem_cons_succ, List.getElem_cons_zero, Act.put, List.setIfInBounds_toArray, List.set_cons_zero, List.set_cons_succ]
      refine wpAnyH_take (i := 8) (v := ?_) rfl (by kernel_rfl) (by kernel_rfl) (by kernel_rfl) (fun _ _ _ h => h) (Or.inl ⟨by rfl, ?_⟩) (by assumption) ?_
      rotate_left
      · (intro w hSw; (try dsimp only at hSw); go_simp; try with_reducible rfl)
      try simp only [List.getElem_toArray, List.getElem_cons_succ, List.getElem_cons_zero, Act.put, List.setIfInBounds_toArray, List.set_cons_zero, List.set_cons_succ]
      refine wpAnyH_ready (rs := [9]) (by kernel_rfl) (by simp) ?_
      refine AllReadyH.cons rfl (fun K hK => ?_) AllReadyH.nil
      try simp only [List.getElem_toArray, List.getElem_cons_succ, List.getElem_cons_zero]
      go_simp
      (refine (HKP.out _ _).mono ?_; rintro e wh ⟨rfl, ga⟩; have hgh : Grew E wh := grew_tr (grew_d (Below.refl _ _)) ga; have hs8 := HSG.out _ hgh; clear ga)
      refine hK.out _ _ ?_ (fun hHeld => ?_)
      · (try dsimp only); (first | assumption | exact HSG.out _ (gr))
      clear hK K
      try simp only [List.getElem_toArray, List.getElem_cons_succ, List.getElem_cons_zero, Act.put, List.setIfInBounds_toArray, List.set_cons_zero, List.set_cons_succ]
      refine wpAnyH_ready (rs := [10]) (by kernel_rfl) (by simp) ?_
      refine AllReadyH.cons rfl (fun K hK => ?_) AllReadyH.nil
      try simp only [List.getElem_toArray, List.getElem_cons_succ, List.getElem_cons_zero]
      go_simp
      (refine (HNW.out _ (HBE.out.grew hgh)).mono ?_; rintro e w2 ⟨rfl, hb2, hc2⟩; have hs9 := HSC.out _ _ hs8 hc2)
      refine hK.out _ _ ?_ (fun hHeld => ?_)
      · (try dsimp only); (first | assumption | exact HSG.out _ (gr))
      clear hK K
      try simp only [List.getElem_toArray, List.getElem_cons_succ, List.getElem_cons_zero, Act.put, List.setIfInBounds_toArray, List.set_cons_zero, List.set_cons_succ]
      refine wpAnyH_take (i := 11) (v := ?_) rfl (by kernel_rfl) (by kernel_rfl) (by kernel_rfl) (fun _ _ _ h => h) (Or.inl ⟨by rfl, ?_⟩) (by assumption) ?_
      rotate_left
      · (intro w hSw; (try dsimp only at hSw); go_simp; try with_reducible rfl)
      try simp only [List.getElem_toArray, List.getElem_cons_succ, List.getElem_cons_zero, Act.put, List.setIfInBounds_toArray, List.set_cons_zero, List.set_cons_succ]
      refine wpAnyH_take (i := 12) (v := ?_) rfl (by kernel_rfl) (by kernel_rfl) (by kernel_rfl) (fun _ _ _ h => h) (Or.inl ⟨by rfl, ?_⟩) (by assumption) ?_
      rotate_left
      · (intro w hSw; (try dsimp only at hSw); go_simp; try with_reducible rfl)
      try simp only [List.getElem_toArray, List.getElem_cons_succ, List.getElem_cons_zero, Act.put, List.setIfInBounds_toArray, List.set_cons_zero, List.set_cons_succ]
      refine wpAnyH_take (i := 13) (v := ?_) rfl (by kernel_rfl) (by kernel_rfl) (by kernel_rfl) (fun _ _ _ h => h) (Or.inl ⟨by rfl, ?_⟩) (by assumption) ?_
      rotate_left
      · (intro w hSw; (try dsimp only at hSw); go_simp; try with_reducible rfl)
      try simp only [List.getElem_toArray, List.getElem_cons_succ, List.getElem_cons_zero, Act.put, List.setIfInBounds_toArray, List.set_cons_zero, List.set_cons_succ]
      refine wpAnyH_take (i := 14) (v := ?_) rfl (by kernel_rfl) (by kernel_rfl) (by kernel_rfl) (fun _ _ _ h => h) (Or.inl ⟨by rfl, ?_⟩) (by assumption) ?_
      rotate_left
      · (intro w hSw; (try dsimp only at hSw); go_simp; try with_reducible rfl)
      try simp only [List.getElem_toArray, List.getElem_cons_succ, List.getElem_cons_zero, Act.put, List.setIfInBounds_toArray, List.set_cons_zero, List.set_cons_succ]
      refine wpAnyH_take (i := 15) (v := ?_) rfl (by kernel_rfl) (by kernel_rfl) (by kernel_rfl) (fun _ _ _ h => h) (Or.inl ⟨by rfl, ?_⟩) (by assumption) ?_
      rotate_left
      · (intro w hSw; (try dsimp only at hSw); go_simp; try with_reducible rfl)
      try simp only [List.getElem_toArray, List.getElem_cons_succ, List.getElem_cons_zero, Act.put, List.setIfInBounds_toArray, List.set_cons_zero, List.set_cons_succ]
      refine wpAnyH_take (i := 16) (v := ?_) rfl (by kernel_rfl) (by kernel_rfl) (by kernel_rfl) (fun _ _ _ h => h) (Or.inl ⟨by rfl, ?_⟩) (by assumption) ?_
      rotate_left
      · (intro w hSw; (try dsimp only at hSw); go_simp; try with_reducible rfl)
      try simp only [List.getElem_toArray, List.getElem_cons_succ, List.getElem_cons_zero, Act.put, List.setIfInBounds_toArray, List.set_cons_zero, List.set_cons_succ]
      refine wpAnyH_take (i := 17) (v := ?_) rfl (by kernel_rfl) (by kernel_rfl) (by kernel_rfl) (fun _ _ _ h => h) (Or.inl ⟨by rfl, ?_⟩) (by assumption) ?_
      rotate_left
      · (intro w hSw; (try dsimp only at hSw); go_simp; try with_reducible rfl)
      try simp only [List.getElem_toArray, List.getElem_cons_succ, List.getElem_cons_zero, Act.put, List.setIfInBounds_toArray, List.set_cons_zero, List.set_cons_succ]
      refine wpAnyH_take (i := 18) (v := ?_) rfl (by kernel_rfl) (by kernel_rfl) (by kernel_rfl) (fun _ _ _ h => h) (Or.inl ⟨by rfl, ?_⟩) (by assumption) ?_
      rotate_left
      · (intro w hSw; (try dsimp only at hSw); go_simp; try with_reducible rfl)
      try simp only [List.getElem_toArray, List.getElem_cons_succ, List.getElem_cons_zero, Act.put, List.setIfInBounds_toArray, List.set_cons_zero, List.set_cons_succ]
      refine wpAnyH_take (i := 19) (v := ?_) rfl (by kernel_rfl) (by kernel_rfl) (by kernel_rfl) (fun _ _ _ h => h) (Or.inl ⟨by rfl, ?_⟩) (by assumption) ?_
      rotate_left
      · (intro w hSw; (try dsimp only at hSw); go_simp; try with_reducible rfl)
      try simp only [List.getElem_toArray, List.getElem_cons_succ, List.getElem_cons_zero, Act.put, List.setIfInBounds_toArray, List.set_cons_zero, List.set_cons_succ]
      refine wpAnyH_take (i := 20) (v := ?_) rfl (by kernel_rfl) (by kernel_rfl) (by kernel_rfl) (fun _ _ _ h => h) (Or.inl ⟨by rfl, ?_⟩) (by assumption) ?_
      rotate_left
      · (intro w hSw; (try dsimp only at hSw); go_simp; try with_reducible rfl)
      try simp only [List.getElem_toArray, List.getElem_cons_succ, List.getElem_cons_zero, Act.put, List.setIfInBounds_toArray, List.set_cons_zero, List.set_cons_succ]
      refine wpAnyH_done (by kernel_rfl) ?_ _
      have HC2 := Lib.hid ((chg_gr HCH.out hgh).trans hc2 (fun _ _ h => h) (fun _ _ h => h))
      have HB2 := Lib.hid hb2
      clear hs8 hs9 hgh hc2 hb2
      go_wp2
      go_ret
      exact ⟨by rw [HV.out]; rfl, ⟨zs, slo, shi, HB2.out, fun z hz => by rw [HV.out] at hz; cases hz⟩, HC2.out⟩
    · have HV : Hid (actI ps ss ⟨10, (dj : Int), (aj : Int), b, rel, lo, hi, (k : Int)⟩ xs ⟨slo, shi⟩ = some (zs.set dj ⟨ol, oh⟩, ⟨slo, shi⟩)) := Lib.hid (by rw [HV0.out]; rfl)
      refine wp_region_held_drew (S := (fun W => W.cell? ⟨w1.heap.size, 0, none⟩ = some (.int .i64 (dj : Int)) ∧ W.cell? ⟨w1.heap.size, 1, none⟩ = some (.int .i64 (aj : Int)) ∧ W.cell? ⟨w1.heap.size, 2, none⟩ = some (.int .i64 (k : Int)) ∧ W.cell? ⟨w.heap.size, 0, none⟩ = some (.slice (some ⟨pb, off, none⟩) pn pc) ∧ W.cell? ⟨pb, off + k * 3, none⟩ = some (.int .i64 plo) ∧ W.cell? ⟨pb, off + k * 3 + 1, none⟩ = some (.int .i64 phi) ∧ W.cell? ⟨pb, off + k * 3 + 2, none⟩ = some (.slice ia is.length ic) ∧ W.cell? ⟨qb, qoff + k * 3, none⟩ = some (.bool true) ∧ W.cell? ⟨qb, qoff + k * 3 + 1, none⟩ = some (.int .i64 ol) ∧ W.cell? ⟨qb, qoff + k * 3 + 2, none⟩ = some (.int .i64 oh))) (by kernel_rfl) ?_ (fun hHeld => ?_)
      · (try dsimp only); (first | assumption | exact HSG.out _ (gr))
      refine wpAnyH_take (i := 0) (v := ?_) rfl (by kernel_rfl) (by kernel_rfl) (by kernel_rfl) (fun _ _ _ h => h) (Or.inl ⟨by rfl, ?_⟩) (by assumption) ?_
      rotate_left
      · (intro w hSw; (try dsimp only at hSw); go_simp; try with_reducible rfl)
      try simp only [List.getElem_toArray, List.getElem_cons_succ, List.getElem_cons_zero, Act.put, List.setIfInBounds_toArray, List.set_cons_zero, List.set_cons_succ]
      refine wpAnyH_take (i := 1) (v := ?_) rfl (by kernel_rfl) (by kernel_rfl) (by kernel_rfl) (fun _ _ _ h => h) (Or.inl ⟨by rfl, ?_⟩) (by assumption) ?_
      rotate_left
      · (intro w hSw; (try dsimp only at hSw); go_simp; try with_reducible rfl)
      try simp only [List.getElem_toArray, List.getElem_cons_succ, List.getElem_cons_zero, Act.put, List.setIfInBounds_toArray, List.set_cons_zero, List.set_cons_succ]
      refine wpAnyH_take (i := 2) (v := ?_) rfl (by kernel_rfl) (by kernel_rfl) (by kernel_rfl) (fun _ _ _ h => h) (Or.inl ⟨by rfl, ?_⟩) (by assumption) ?_
      rotate_left
      · (intro w hSw; (try dsimp only at hSw); go_simp; try with_reducible rfl)
      try simp only [List.getElem_toArray, List.getElem_cons_succ, List.getElem_cons_zero, Act.put, List.setIfInBounds_toArray, List.set_cons_zero, List.set_cons_succ]
      refine wpAnyH_take (i := 3) (v := ?_) rfl (by kernel_rfl) (by kernel_rfl) (by kernel_rfl) (fun _ _ _ h => h) (Or.inl ⟨by rfl, ?_⟩) (by assumption) ?_
      rotate_left
      · (intro w hSw; (try dsimp only at hSw); go_simp; try with_reducible rfl)
      try simp only [List.getElem_toArray, List.getElem_cons_succ, List.getElem_cons_zero, Act.put, List.setIfInBounds_toArray, List.set_cons_zero, List.set_cons_succ]
      refine wpAnyH_take (i := 4) (v := ?_) rfl (by kernel_rfl) (by kernel_rfl) (by kernel_rfl) (fun _ _ _ h => h) (Or.inl ⟨by rfl, ?_⟩) (by assumption) ?_
      rotate_left
      · (intro w hSw; (try dsimp only at hSw); go_simp; try with_reducible rfl)
      try simp only [List.getElem_toArray, List.getElem_cons_succ, List.getElem_cons_zero, Act.put, List.setIfInBounds_toArray, List.set_cons_zero, List.set_cons_succ]
      refine wpAnyH_take (i := 5) (v := ?_) rfl (by kernel_rfl) (by kernel_rfl) (by kernel_rfl) (fun _ _ _ h => h) (Or.inl ⟨by rfl, ?_⟩) (by assumption) ?_
      rotate_left
      · (intro w hSw; (try dsimp only at hSw); go_simp; try with_reducible rfl)
      try simp only [List.getElem_toArray, List.getElem_cons_succ, List.getElem_cons_zero, Act.put, List.setIfInBounds_toArray, List.set_cons_zero, List.set_cons_succ]
      refine wpAnyH_take (i := 6) (v := ?_) rfl (by kernel_rfl) (by kernel_rfl) (by kernel_rfl) (fun _ _ _ h => h) (Or.inl ⟨by rfl, ?_⟩) (by assumption) ?_
      rotate_left
      · (intro w hSw; (try dsimp only at hSw); go_simp; try with_reducible rfl)
      try simp only [List.getElem_toArray, List.getElem_cons_succ, List.getElem_cons_zero, Act.put, List.setIfInBounds_toArray, List.set_cons_zero, List.set_cons_succ]
      refine wpAnyH_take (i := 7) (v := ?_) rfl (by kernel_rfl) (by kernel_rfl) (by kernel_rfl) (fun _ _ _ h => h) (Or.inl ⟨by rfl, ?_⟩) (by assumption) ?_
      rotate_left
      · (intro w hSw; (try dsimp only at hSw); go_simp; try with_reducible rfl)
      try simp only [List.getElem_toArray, List.getElem_cons_succ, List.getElem_cons_zero, Act.put, List.setIfInBounds_toArray, List.set_cons_zero, List.set_cons_succ]
      refine wpAnyH_take (i := 8) (v := ?_) rfl (by kernel_rfl) (by kernel_rfl) (by kernel_rfl) (fun _ _ _ h => h) (Or.inl ⟨by rfl, ?_⟩) (by assumption) ?_
      rotate_left
      · (intro w hSw; (try dsimp only at hSw); go_simp; try with_reducible rfl)
      try simp only [List.getElem_toArray, List.getElem_cons_succ, List.getElem_cons_zero, Act.put, List.setIfInBounds_toArray, List.set_cons_zero, List.set_cons_succ]
      refine wpAnyH_ready (rs := [9]) (by kernel_rfl) (by simp) ?_
      refine AllReadyH.cons rfl (fun K hK => ?_) AllReadyH.nil
      try simp only [List.getElem_toArray, List.getElem_cons_succ, List.getElem_cons_zero]
      go_simp
      (refine (HKP.out _ _).mono ?_; rintro e wh ⟨rfl, ga⟩; have hgh : Grew E wh := grew_tr (grew_d (Below.refl _ _)) ga; have hs8 := HSG.out _ hgh; clear ga)
      refine hK.out _ _ ?_ (fun hHeld => ?_)
      · (try dsimp only); (first | assumption | exact HSG.out _ (gr))
      clear hK K
      try simp only [List.getElem_toArray, List.getElem_cons_succ, List.getElem_cons_zero, Act.put, List.setIfInBounds_toArray, List.set_cons_zero, List.set_cons_succ]
      refine wpAnyH_ready (rs := [10]) (by kernel_rfl) (by simp) ?_
      refine AllReadyH.cons rfl (fun K hK => ?_) AllReadyH.nil
      try simp only [List.getElem_toArray, List.getElem_cons_succ, List.getElem_cons_zero]
      go_simp
      (refine (HNW.out _ (HBE.out.grew hgh)).mono ?_; rintro e w2 ⟨rfl, hb2, hc2⟩; have hs9 := HSC.out _ _ hs8 hc2)
      refine hK.out _ _ ?_ (fun hHeld => ?_)
      · (try dsimp only); (first | assumption | exact HSG.out _ (gr))
      clear hK K
      try simp only [List.getElem_toArray, List.getElem_cons_succ, List.getElem_cons_zero, Act.put, List.setIfInBounds_toArray, List.set_cons_zero, List.set_cons_succ]
      refine wpAnyH_take (i := 11) (v := ?_) rfl (by kernel_rfl) (by kernel_rfl) (by kernel_rfl) (fun _ _ _ h => h) (Or.inl ⟨by rfl, ?_⟩) (by assumption) ?_
      rotate_left
      · (intro w hSw; (try dsimp only at hSw); go_simp; try with_reducible rfl)
      try simp only [List.getElem_toArray, List.getElem_cons_succ, List.getElem_cons_zero, Act.put, List.setIfInBounds_toArray, List.set_cons_zero, List.set_cons_succ]
      refine wpAnyH_take (i := 12) (v := ?_) rfl (by kernel_rfl) (by kernel_rfl) (by kernel_rfl) (fun _ _ _ h => h) (Or.inl ⟨by rfl, ?_⟩) (by assumption) ?_
      rotate_left
      · (intro w hSw; (try dsimp only at hSw); go_simp; try with_reducible rfl)
      try simp only [List.getElem_toArray, List.getElem_cons_succ, List.getElem_cons_zero, Act.put, List.setIfInBounds_toArray, List.set_cons_zero, List.set_cons_succ]
      refine wpAnyH_take (i := 13) (v := ?_) rfl (by kernel_rfl) (by kernel_rfl) (by kernel_rfl) (fun _ _ _ h => h) (Or.inl ⟨by rfl, ?_⟩) (by assumption) ?_
      rotate_left
      · (intro w hSw; (try dsimp only at hSw); go_simp; try with_reducible rfl)
      try simp only [List.getElem_toArray, List.getElem_cons_succ, List.getElem_cons_zero, Act.put, List.setIfInBounds_toArray, List.set_cons_zero, List.set_cons_succ]
      refine wpAnyH_take (i := 14) (v := ?_) rfl (by kernel_rfl) (by kernel_rfl) (by kernel_rfl) (fun _ _ _ h => h) (Or.inl ⟨by rfl, ?_⟩) (by assumption) ?_
      rotate_left
      · (intro w hSw; (try dsimp only at hSw); go_simp; try with_reducible rfl)
      try simp only [List.getElem_toArray, List.getElem_cons_succ, List.getElem_cons_zero, Act.put, List.setIfInBounds_toArray, List.set_cons_zero, List.set_cons_succ]
      refine wpAnyH_take (i := 15) (v := ?_) rfl (by kernel_rfl) (by kernel_rfl) (by kernel_rfl) (fun _ _ _ h => h) (Or.inl ⟨by rfl, ?_⟩) (by assumption) ?_
      rotate_left
      · (intro w hSw; (try dsimp only at hSw); go_simp; try with_reducible rfl)
      try simp only [List.getElem_toArray, List.getElem_cons_succ, List.getElem_cons_zero, Act.put, List.setIfInBounds_toArray, List.set_cons_zero, List.set_cons_succ]
      refine wpAnyH_take (i := 16) (v := ?_) rfl (by kernel_rfl) (by kernel_rfl) (by kernel_rfl) (fun _ _ _ h => h) (Or.inl ⟨by rfl, ?_⟩) (by assumption) ?_
      rotate_left
      · (intro w hSw; (try dsimp only at hSw); go_simp; try with_reducible rfl)
      try simp only [List.getElem_toArray, List.getElem_cons_succ, List.getElem_cons_zero, Act.put, List.setIfInBounds_toArray, List.set_cons_zero, List.set_cons_succ]
      refine wpAnyH_take (i := 17) (v := ?_) rfl (by kernel_rfl) (by kernel_rfl) (by kernel_rfl) (fun _ _ _ h => h) (Or.inl ⟨by rfl, ?_⟩) (by assumption) ?_
      rotate_left
      · (intro w hSw; (try dsimp only at hSw); go_simp; try with_reducible rfl)
      try simp only [List.getElem_toArray, List.getElem_cons_succ, List.getElem_cons_zero, Act.put, List.setIfInBounds_toArray, List.set_cons_zero, List.set_cons_succ]
      refine wpAnyH_take (i := 18) (v := ?_) rfl (by kernel_rfl) (by kernel_rfl) (by kernel_rfl) (fun _ _ _ h => h) (Or.inl ⟨by rfl, ?_⟩) (by assumption) ?_
      rotate_left
      · (intro w hSw; (try dsimp only at hSw); go_simp; try with_reducible rfl)
      try simp only [List.getElem_toArray, List.getElem_cons_succ, List.getElem_cons_zero, Act.put, List.setIfInBounds_toArray, List.set_cons_zero, List.set_cons_succ]
      refine wpAnyH_take (i := 19) (v := ?_) rfl (by kernel_rfl) (by kernel_rfl) (by kernel_rfl) (fun _ _ _ h => h) (Or.inl ⟨by rfl, ?_⟩) (by assumption) ?_
      rotate_left
      · (intro w hSw; (try dsimp only at hSw); go_simp; try with_reducible rfl)
      try simp only [List.getElem_toArray, List.getElem_cons_succ, List.getElem_cons_zero, Act.put, List.setIfInBounds_toArray, List.set_cons_zero, List.set_cons_succ]
      refine wpAnyH_take (i := 20) (v := ?_) rfl (by kernel_rfl) (by kernel_rfl) (by kernel_rfl) (fun _ _ _ h => h) (Or.inl ⟨by rfl, ?_⟩) (by assumption) ?_
      rotate_left
      · (intro w hSw; (try dsimp only at hSw); go_simp; try with_reducible rfl)
      try simp only [List.getElem_toArray, List.getElem_cons_succ, List.getElem_cons_zero, Act.put, List.setIfInBounds_toArray, List.set_cons_zero, List.set_cons_succ]
      refine wpAnyH_done (by kernel_rfl) ?_ _
      have HC2 := Lib.hid ((chg_gr HCH.out hgh).trans hc2 (fun _ _ h => h) (fun _ _ h => h))
      have HB2 := Lib.hid hb2
      obtain ⟨v0, v1, v2, v3, v4, v5, v6, v7, v8, v9⟩ := hs9
      have vl := World.block_lt_of_cell? _ _ v0
      have vl2 := World.block_lt_of_cell? _ _ v7
      simp only at vl vl2
      obtain ⟨xd, hxd⟩ := set_cell HZ4.out hjd
      obtain ⟨z0, z1⟩ := st_cell HB2.out HZ4.out hxd
      have zf := fun i => HB2.out.frozen i
      have zl := HB2.out.lt
      clear hs8 hgh hc2 hb2 hxd v1 v3 v4 v5 v6
      go_wp2_with fail
      go_region
      go_wp2
      go_ret
      refine ⟨by rw [HV.out]; rfl, ⟨zs.set dj ⟨ol, oh⟩, slo, shi, ?_, fun z hz => by rw [HV.out] at hz; cases hz; exact ⟨rfl, rfl⟩⟩, ?_⟩
      · (repeat (first | with_reducible exact (st_set HB2.out (by simp only [List.length_set, HZ4.out]) hjd _ _) | with_reducible refine Blk.alloc ?_ _ | with_reducible refine Blk.grew ?_ (grew_d (Below.refl _ _))))
      · (repeat (first | with_reducible exact HC2.out | with_reducible refine chg_gr ?_ (grew_d (Below.refl _ _)) | with_reducible refine chg_gr ?_ (grew_al (Below.refl _ _) _) | with_reducible refine Chg.alw (F := fun b => b = sb) ?_ rfl _))
theorem insParts {i : Ins} {n m : Int} (h : insOkB i n m = true) : (1 ≤ i.op ∧ i.op ≤ 12) ∧ varB i.d = true ∧ varB i.a = true ∧ varB i.b = true ∧ tailB i n m = true := by
  simp only [insOkB, headB, Bool.and_eq_true, decide_eq_true_eq] at h
  obtain ⟨⟨h1, _, hD, hA, hB⟩, hT⟩ := h
  exact ⟨h1, hD, hA, hB, hT⟩
theorem opTwelve {op : Int} (h : 1 ≤ op ∧ op ≤ 12) : op = 1 ∨ op = 2 ∨ op = 3 ∨ op = 4 ∨ op = 5 ∨ op = 6 ∨ op = 7 ∨ op = 8 ∨ op = 9 ∨ op = 10 ∨ op = 11 ∨ op = 12 := by omega
theorem implItvRel (rel : Int) (a b : Itv) (w : World) (h : 1 ≤ rel ∧ rel ≤ 4) (ha : itvB a = true) (hb : itvB b = true) :
    Calls Tryz.prog 100 #[.int .i64 rel, a.v, b.v] w fun e w' => e = .returned (relV (relI rel a b)) ∧ Grew w w' := by
  rcases (show rel = 1 ∨ rel = 2 ∨ rel = 3 ∨ rel = 4 from by omega) with rfl | rfl | rfl | rfl
  · exact implItvRel1 a b w ha hb
  · exact implItvRel2 a b w ha hb
  · exact implItvRel3 a b w ha hb
  · exact implItvRel4 a b w ha hb
theorem implItvNotR (rel : Int) (a b : Itv) (w : World) (h : 1 ≤ rel ∧ rel ≤ 4) (ha : itvB a = true) (hb : itvB b = true) :
    Calls Tryz.prog 101 #[.int .i64 rel, a.v, b.v] w fun e w' => e = .returned (relV (notI rel a b)) ∧ Grew w w' := by
  rcases (show rel = 1 ∨ rel = 2 ∨ rel = 3 ∨ rel = 4 from by omega) with rfl | rfl | rfl | rfl
  · exact implItvNot1 a b w ha hb
  · exact implItvNot2 a b w ha hb
  · exact implItvNot3 a b w ha hb
  · exact implItvNot4 a b w ha hb
theorem implAct (sb : Nat) (pa : Option Addr) (pn pc : Nat) (ps : List Prc) (sa : Option Addr) (sn sc : Nat) (ss : List Sum) (i : Ins) (xs : List Itv) (slo shi : Int) (w : World) (hBk : Blk w sb 110 (stC xs slo shi)) (ho : stOkB true xs slo shi = true)
    (hr : RdP w pa pn ps) (hp : prgOkB ps = true) (hss : RdL ESum 3 w sa sn ss) (hsn : sn = pn) (hnsp : ∀ x : Addr, pa = some x → x.block ≠ sb) (hnss : ∀ x : Addr, sa = some x → x.block ≠ sb) (hi : insOkB i pn 10 = true) (hk : i.op ≠ 8 ∧ i.op ≠ 9 ∧ i.op ≠ 12) :
    Calls Tryz.prog 102 #[.pointer (some ⟨sb, 0, none⟩), .agg #[.slice pa pn pc], .slice sa sn sc, i.v] w (RetAct (actI ps ss i xs ⟨slo, shi⟩) sb w) := by
  obtain ⟨op, d, a, b, rel, lo, hi2, to⟩ := i
  obtain ⟨h1, hD, hA, hB, hT⟩ := insParts hi
  rcases opTwelve h1 with rfl | rfl | rfl | rfl | rfl | rfl | rfl | rfl | rfl | rfl | rfl | rfl
  · exact implAct1 sb pa pn pc ps sa sn sc ss d a b rel lo hi2 to xs slo shi w hBk ho hD hA hB
  · exact implAct2 sb pa pn pc ps sa sn sc ss d a b rel lo hi2 to xs slo shi w hBk ho hD hA hB
  · exact implAct3 sb pa pn pc ps sa sn sc ss d a b rel lo hi2 to xs slo shi w hBk ho hD hA hB
  · exact implAct4 sb pa pn pc ps sa sn sc ss d a b rel lo hi2 to xs slo shi w hBk ho hD hA hB
  · exact implAct5 sb pa pn pc ps sa sn sc ss d a b rel lo hi2 to xs slo shi w hBk ho hD hA hB
  · exact implAct6 sb pa pn pc ps sa sn sc ss d a b rel lo hi2 to xs slo shi w hBk ho hD hA hB
  · exact implAct7 sb pa pn pc ps sa sn sc ss d a b rel lo hi2 to xs slo shi w hBk ho hD hA hB
  · simp at hk
  · simp at hk
  · exact implAct10 sb pa pn pc ps sa sn sc ss d a b rel lo hi2 to xs slo shi w hBk ho hD hA hB hr hp (by simpa [tailB] using hT) hss hsn hnsp hnss
  · have hrel : 1 ≤ rel ∧ rel ≤ 4 := by simpa [tailB] using hT
    exact implAct11 sb pa pn pc ps sa sn sc ss d a b rel lo hi2 to xs slo shi w hBk ho hD hA hB hrel (fun x y W hx hy => implItvRel rel x y W hrel hx hy)
  · simp at hk
end Go.Proofs.YtpmfpgbpndobpaaGreat
