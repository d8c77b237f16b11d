/- Lemmas and walks of this proof, some texts one behind the other. No condition. -/
import Derived.Test.YtpmfpgbpndobpaaGreatStepA
import Derived.Test.YtpmfpgbpndobpaaGreatRegG
set_option linter.unusedSimpArgs false
set_option linter.unusedVariables false
/- What a step makes of a state: the program's relate. No condition. -/
namespace Go.Proofs.YtpmfpgbpndobpaaGreat
open Go.RowKit
set_option linter.unusedVariables false
set_option linter.unusedSimpArgs false
attribute [local go_sem] ext_cell ext_frozen ext_lt ext_le ext_le1 lt_s2 lt_s3 lt_s4 lt_s5 lt_s6 ext_lt1 ext_lt2 ext_lt3

/-- What comes of a change of a state: done or not, the state's block alone. -/
def RetAct (o : Option (List Itv × Itv)) (sb : Nat) (w : World) (e : Ending) (w' : World) : Prop :=
  e = .returned (.bool o.isSome) ∧ (∃ ys l h, Blk w' sb 110 (stC ys l h) ∧ ∀ z, o = some z → ys = z.1 ∧ ⟨l, h⟩ = z.2) ∧ Chg (fun b => b = sb) w w'
theorem chg_cell {sb b i : Nat} {v : Value} {w w' : World} (h : Chg (fun b => b = sb) w w') (hc : w.cell? ⟨b, i, none⟩ = some v) (hn : b ≠ sb) : w'.cell? ⟨b, i, none⟩ = some v :=
  (World.cell?_of_block (w := w) (w' := w') (a := ⟨b, i, none⟩) (h.block b (World.block_lt_of_cell? _ _ hc) hn)).trans hc
theorem narI_eq (xs : List Itv) (k : Int) (t : Itv) : (narI xs k t).isSome = (meetI (nthI xs k) t).isSome := by simp [narI]
theorem narI_get {xs : List Itv} {k : Int} {t : Itv} (h : (meetI (nthI xs k) t).isSome = true) : narI xs k t = some (setI xs k ((meetI (nthI xs k) t).getD ⟨0, 0⟩)) := by
  cases hm : meetI (nthI xs k) t with
  | none => rw [hm] at h; cases h
  | some x => simp [narI, hm]
theorem narI_none {xs : List Itv} {k : Int} {t : Itv} (h : (meetI (nthI xs k) t).isSome = false) : narI xs k t = none := by
  cases hm : meetI (nthI xs k) t with
  | none => simp [narI, hm]
  | some x => rw [hm] at h; cases h
set_option maxRecDepth 100000 in
set_option maxHeartbeats 4000000 in
theorem implRelate (f : FuncId) (hcf : ∀ args W, (callFunc f args).run Tryz.prog W = .ok (.enter f args) W) (o : Option (Itv × Itv)) (sb : Nat) (rel a b : Int) (xs : List Itv) (lo hi : Int) (w : World) (hb0 : Blk w sb 110 (stC xs lo hi)) (ho : stOkB true xs lo hi = true) (ha : varB a = true) (hb : varB b = true)
    (HF0 : ∀ W, Calls Tryz.prog f #[.int .i64 rel, (nthI xs a).v, (nthI xs b).v] W fun e w' => e = .returned (relV o) ∧ Grew W w') (hok : ∀ p, o = some p → itvB p.1 = true ∧ itvB p.2 = true) :
    Calls Tryz.prog 99 #[.pointer (some ⟨sb, 0, none⟩), .func (.func f) #[] #[], .int .i64 rel, .int .i64 a, .int .i64 b] w (RetAct ((relSt o xs a b).map fun zs => (zs, ⟨lo, hi⟩)) sb w) := by
  have h4 : xs.length = 4 := (stOk_parts ho).1
  have HA := Lib.hid ha
  have HBB := Lib.hid hb
  have HO := Lib.hid ho
  have hna := nthI_ok ho ha
  obtain ⟨aj, hea, hja, hxa⟩ := nthI_get h4 ha
  obtain ⟨bj, heb, hjb, hxb⟩ := nthI_get h4 hb
  have HNA := Lib.hid hna
  obtain ⟨⟨al, ah⟩, hXa⟩ : ∃ x, nthI xs a = x := ⟨_, rfl⟩
  obtain ⟨⟨bl, bh⟩, hXb⟩ : ∃ x, nthI xs b = x := ⟨_, rfl⟩
  rw [hXa, hXb] at HF0
  rw [hXa] at hxa
  rw [hXb] at hxb
  rw [relV_eq] at HF0
  obtain ⟨⟨xl, xh⟩, hx⟩ : ∃ x, rA o = x := ⟨_, rfl⟩
  obtain ⟨⟨yl, yh⟩, hy⟩ : ∃ x, rB o = x := ⟨_, rfl⟩
  obtain ⟨B, hB⟩ : ∃ x, o.isSome = x := ⟨_, rfl⟩
  rw [hx, hy, hB] at HF0
  have HF := Lib.hid HF0
  have HXX := Lib.hid hx
  have HYY := Lib.hid hy
  have HBo := Lib.hid hB
  have HOK := Lib.hid hok
  have H4 := Lib.hid h4
  have HX1 := Lib.hid hxa
  have HX2 := Lib.hid hxb
  have HB0 := Lib.hid hb0
  have hsb := hb0.lt
  subst hea heb
  have HCF := Lib.hid hcf
  clear hcf hXa hXb hx hy hB hok h4 hxa hxb hb0 ho ha hb hna HF0
  have haq : ¬ (4 : Int) ≤ (aj : Int) := by omega
  have hbq : ¬ (4 : Int) ≤ (bj : Int) := by omega
  go_enter Tryz.func99, Tryz.ntmps99
  go_upto_region 1 with fail
  refine wp_letH ?_
  intro E hE
  have GO := Lib.hid (show Grew w E from by rw [hE]; exact gr)
  obtain ⟨q0, q1⟩ := st_cell (HB0.out.grew GO.out) H4.out HX1.out
  obtain ⟨q2, q3⟩ := st_cell (HB0.out.grew GO.out) H4.out HX2.out
  simp only at q0 q1 q2 q3
  clear hE
  obtain ⟨VV, v0, v1, v2, v3, v4, v5, v6, v7, v8, v9, v10, v11, v12, v13, v14, v15, v16, v17, v18, v19, v20, v21, v22, v23, -⟩ := vl [.func (.func f) #[] #[], .int .i64 (rel), .pointer (some ⟨sb, 0, none⟩), .int .i64 ((aj : Int)), .pointer (some ⟨sb, 0, none⟩), .pointer (some ⟨sb, 0, none⟩), .pointer (some ⟨sb, aj * 2, none⟩), .agg #[.int .i64 al, .int .i64 ah], .pointer (some ⟨sb, 0, none⟩), .int .i64 ((bj : Int)), .pointer (some ⟨sb, 0, none⟩), .pointer (some ⟨sb, 0, none⟩), .pointer (some ⟨sb, bj * 2, none⟩), .agg #[.int .i64 bl, .int .i64 bh], .tuple #[.agg #[.int .i64 xl, .int .i64 xh], .agg #[.int .i64 yl, .int .i64 yh], .bool B], .tuple #[.agg #[.int .i64 xl, .int .i64 xh], .agg #[.int .i64 yl, .int .i64 yh], .bool B], .agg #[.int .i64 xl, .int .i64 xh], .agg #[.int .i64 yl, .int .i64 yh], .bool B, undef, undef, undef, undef, .bool B]
  have HK := fun W (c : Chg (preB [⟨some 19, 0, 21, 31, #[.int .i64 0, .int .i64 0], #[.int .i64 xl, .int .i64 xh]⟩, ⟨some 20, 0, 22, 31, #[.int .i64 0, .int .i64 0], #[.int .i64 yl, .int .i64 yh]⟩]) _ W) => And.intro (ck c q0) (And.intro (ck c q1) (And.intro (ck c q2) (ck c q3)))
  refine region_box 46 [⟨some 19, 0, 21, 31, #[.int .i64 0, .int .i64 0], #[.int .i64 xl, .int .i64 xh]⟩, ⟨some 20, 0, 22, 31, #[.int .i64 0, .int .i64 0], #[.int .i64 yl, .int .i64 yh]⟩] VV (by kernel_rfl) rfl (by kernel_rfl) rfl (by intro b hb ha; simp only [List.mem_cons, List.not_mem_nil, or_false] at hb; rcases hb with rfl | rfl <;> first | (cases ha; done) | assumption) (by intro j k b c hjk hj hk hb hc; rcases j with _ | _ | j <;> rcases k with _ | _ | k <;> simp at hj hk hjk <;> (try subst hj) <;> (try subst hk) <;> first | (cases hb; done) | (cases hc; done) | (simp only; omega)) ⟨?_, ?_, ?_, ?_, ?_, ?_, ?_, ?_, ?_, ?_, ?_, ?_, ?_, ?_, ?_, ?_, ?_, ?_, ?_, ?_, ?_, ?_, ?_, ?_, trivial⟩ ?_
  · exact b_vx v0 rfl rfl (fun gm a W h => by have e1 : a.eval (.tmp 1) = .func (.func f) #[] #[] := (h.slot 1 (by kernel_rfl)).trans rfl; simp only [execOp, e1]; first | (simp [go_sem, haq, hbq, HCF.out] <;> first | exact wrapIn | rfl) | kernel_rfl)
  · exact b_vx v1 rfl rfl (fun gm a W h => by have e2 : a.eval (.tmp 2) = .int .i64 (rel) := (h.slot 2 (by kernel_rfl)).trans rfl; simp only [execOp, e2]; first | (simp [go_sem, haq, hbq, HCF.out] <;> first | exact wrapIn | rfl) | kernel_rfl)
  · exact b_vx v2 rfl rfl (fun gm a W h => by have e0 : a.eval (.tmp 0) = .pointer (some ⟨sb, 0, none⟩) := (h.slot 0 (by kernel_rfl)).trans rfl; simp only [execOp, e0]; first | (simp [go_sem, haq, hbq, HCF.out] <;> first | exact wrapIn | rfl) | kernel_rfl)
  · exact b_vx v3 rfl rfl (fun gm a W h => by have e3 : a.eval (.tmp 3) = .int .i64 ((aj : Int)) := (h.slot 3 (by kernel_rfl)).trans rfl; simp only [execOp, e3]; first | (simp [go_sem, haq, hbq, HCF.out] <;> first | exact wrapIn | rfl) | kernel_rfl)
  · exact b_vx v4 rfl rfl (fun gm a W h => by have e17 := (h.vb 2 17).trans v2; simp only [execOp, e17]; first | (simp [go_sem, haq, hbq, HCF.out] <;> first | exact wrapIn | rfl) | kernel_rfl)
  · exact b_vx v5 rfl rfl (fun gm a W h => by have e19 := (h.vb 4 19).trans v4; simp only [execOp, e19]; first | (simp [go_sem, haq, hbq, HCF.out] <;> first | exact wrapIn | rfl) | kernel_rfl)
  · exact b_vx v6 rfl rfl (fun gm a W h => by have e20 := (h.vb 5 20).trans v5; have e18 := (h.vb 3 18).trans v3; simp only [execOp, e20, e18]; first | (simp [go_sem, haq, hbq, HCF.out] <;> first | exact wrapIn | rfl) | kernel_rfl)
  · exact b_vx v7 rfl rfl (fun gm a W h => by have e21 := (h.vb 6 21).trans v6; obtain ⟨kq0, kq1, kq2, kq3⟩ := HK W h.chg; simp only [execOp, e21]; first | (simp [go_sem, kq0, kq1, kq2, kq3, haq, hbq, HCF.out] <;> first | exact wrapIn | rfl) | kernel_rfl)
  · exact b_vx v8 rfl rfl (fun gm a W h => by have e0 : a.eval (.tmp 0) = .pointer (some ⟨sb, 0, none⟩) := (h.slot 0 (by kernel_rfl)).trans rfl; simp only [execOp, e0]; first | (simp [go_sem, haq, hbq, HCF.out] <;> first | exact wrapIn | rfl) | kernel_rfl)
  · exact b_vx v9 rfl rfl (fun gm a W h => by have e4 : a.eval (.tmp 4) = .int .i64 ((bj : Int)) := (h.slot 4 (by kernel_rfl)).trans rfl; simp only [execOp, e4]; first | (simp [go_sem, haq, hbq, HCF.out] <;> first | exact wrapIn | rfl) | kernel_rfl)
  · exact b_vx v10 rfl rfl (fun gm a W h => by have e23 := (h.vb 8 23).trans v8; simp only [execOp, e23]; first | (simp [go_sem, haq, hbq, HCF.out] <;> first | exact wrapIn | rfl) | kernel_rfl)
  · exact b_vx v11 rfl rfl (fun gm a W h => by have e25 := (h.vb 10 25).trans v10; simp only [execOp, e25]; first | (simp [go_sem, haq, hbq, HCF.out] <;> first | exact wrapIn | rfl) | kernel_rfl)
  · exact b_vx v12 rfl rfl (fun gm a W h => by have e26 := (h.vb 11 26).trans v11; have e24 := (h.vb 9 24).trans v9; simp only [execOp, e26, e24]; first | (simp [go_sem, haq, hbq, HCF.out] <;> first | exact wrapIn | rfl) | kernel_rfl)
  · exact b_vx v13 rfl rfl (fun gm a W h => by have e27 := (h.vb 12 27).trans v12; obtain ⟨kq0, kq1, kq2, kq3⟩ := HK W h.chg; simp only [execOp, e27]; first | (simp [go_sem, kq0, kq1, kq2, kq3, haq, hbq, HCF.out] <;> first | exact wrapIn | rfl) | kernel_rfl)
  · exact b_cx v14 rfl rfl (fun gm a W h => by
      have e15 := (h.vb 0 15).trans v0
      have e16 := (h.vb 1 16).trans v1
      have e22 := (h.vb 7 22).trans v7
      have e28 := (h.vb 13 28).trans v13
      simp only [execOp, resolve, e15, e16, e22, e28]
      first | (simp [Deferred.ofValue, invoke, e15, e16, e22, e28, haq, hbq, HCF.out]; done) | (simp [Deferred.ofValue, invoke, go_sem, e15, e16, e22, e28, haq, hbq, HCF.out]; done)) (fun W => HF.out W)
  · exact b_vx v15 rfl rfl (fun gm a W h => by have e29 := (h.vb 14 29).trans v14; simp only [execOp, e29]; first | (simp [go_sem, haq, hbq, HCF.out] <;> first | exact wrapIn | rfl) | kernel_rfl)
  · exact b_vx v16 rfl rfl (fun gm a W h => by have e14 := (h.vb 15 14).trans v15; simp only [execOp, e14]; first | (simp [go_sem, haq, hbq, HCF.out] <;> first | exact wrapIn | rfl) | kernel_rfl)
  · exact b_vx v17 rfl rfl (fun gm a W h => by have e14 := (h.vb 15 14).trans v15; simp only [execOp, e14]; first | (simp [go_sem, haq, hbq, HCF.out] <;> first | exact wrapIn | rfl) | kernel_rfl)
  · exact b_vx v18 rfl rfl (fun gm a W h => by have e14 := (h.vb 15 14).trans v15; simp only [execOp, e14]; first | (simp [go_sem, haq, hbq, HCF.out] <;> first | exact wrapIn | rfl) | kernel_rfl)
  · exact b_alloc 0 _ rfl rfl rfl (by kernel_rfl) rfl (fun gm a W h => by kernel_rfl)
  · exact b_alloc 1 _ rfl rfl rfl (by kernel_rfl) rfl (fun gm a W h => by kernel_rfl)
  · refine b_store 0 _ rfl rfl rfl v21 (fun j hj => by cases hj; exact ⟨11, ⟨⟨⟨19, .data⟩, by simp, rfl, by kernel_rfl⟩, by kernel_rfl⟩⟩) rfl (fun gm a W h hold hb => ?_)
    have e11 : a.eval (.tmp 11) = .pointer (some ⟨gm 0, 0, none⟩) := (h.vb 19 11).trans rfl
    have e30 := (h.vb 16 30).trans v16
    simp only at hb
    have hf := fun j => hb.frozen j
    have c0 := hb.cell 0
    have c1 := hb.cell 1
    refine ⟨_, by (simp only [execOp, e11, e30]; simp [go_sem, hf, c0, c1, haq, hbq, HCF.out]; try rfl), (hb.set_ 0 _).set_ 1 _, chgs2 _ _ _ _ _ _⟩
  · refine b_store 1 _ rfl rfl rfl v22 (fun j hj => by cases hj; exact ⟨12, ⟨⟨⟨20, .data⟩, by simp, rfl, by kernel_rfl⟩, by kernel_rfl⟩⟩) rfl (fun gm a W h hold hb => ?_)
    have e12 : a.eval (.tmp 12) = .pointer (some ⟨gm 1, 0, none⟩) := (h.vb 20 12).trans rfl
    have e31 := (h.vb 17 31).trans v17
    simp only at hb
    have hf := fun j => hb.frozen j
    have c0 := hb.cell 0
    have c1 := hb.cell 1
    refine ⟨_, by (simp only [execOp, e12, e31]; simp [go_sem, hf, c0, c1, haq, hbq, HCF.out]; try rfl), (hb.set_ 0 _).set_ 1 _, chgs2 _ _ _ _ _ _⟩
  · exact b_vx v23 rfl rfl (fun gm a W h => by have e32 := (h.vb 18 32).trans v18; simp only [execOp, e32]; first | (simp [go_sem, haq, hbq, HCF.out] <;> first | exact wrapIn | rfl) | kernel_rfl)
  intro gm vs w9 hc9 hb9 hold9 hge9 hv9
  have x0 := (hv9 0 15 (by kernel_rfl)).trans v0
  have x1 := (hv9 1 16 (by kernel_rfl)).trans v1
  have x2 := (hv9 2 17 (by kernel_rfl)).trans v2
  have x3 := (hv9 3 18 (by kernel_rfl)).trans v3
  have x4 := (hv9 4 19 (by kernel_rfl)).trans v4
  have x5 := (hv9 5 20 (by kernel_rfl)).trans v5
  have x6 := (hv9 6 21 (by kernel_rfl)).trans v6
  have x7 := (hv9 7 22 (by kernel_rfl)).trans v7
  have x8 := (hv9 8 23 (by kernel_rfl)).trans v8
  have x9 := (hv9 9 24 (by kernel_rfl)).trans v9
  have x10 := (hv9 10 25 (by kernel_rfl)).trans v10
  have x11 := (hv9 11 26 (by kernel_rfl)).trans v11
  have x12 := (hv9 12 27 (by kernel_rfl)).trans v12
  have x13 := (hv9 13 28 (by kernel_rfl)).trans v13
  have x14 := (hv9 14 29 (by kernel_rfl)).trans v14
  have x15 := (hv9 15 14 (by kernel_rfl)).trans v15
  have x16 := (hv9 16 30 (by kernel_rfl)).trans v16
  have x17 := (hv9 17 31 (by kernel_rfl)).trans v17
  have x18 := (hv9 18 32 (by kernel_rfl)).trans v18
  have x19 : vs 19 = .pointer (some ⟨gm 0, 0, none⟩) := (hv9 19 11 (by kernel_rfl)).trans rfl
  have x20 : vs 20 = .pointer (some ⟨gm 1, 0, none⟩) := (hv9 20 12 (by kernel_rfl)).trans rfl
  have x23 := (hv9 23 13 (by kernel_rfl)).trans v23
  have y0 := hb9 0 _ rfl
  have g0 := hge9 0 _ 19 rfl rfl
  simp only at y0
  have y1 := hb9 1 _ rfl
  have g1 := hge9 1 _ 20 rfl rfl
  simp only at y1
  simp only [putAll, Act.put, List.setIfInBounds_toArray, List.set_cons_zero, List.set_cons_succ, Nat.zero_add, Nat.reduceAdd, x0, x1, x2, x3, x4, x5, x6, x7, x8, x9, x10, x11, x12, x13, x14, x15, x16, x17, x18, x19, x20, x23]
  clear hb9 hold9 hge9 hv9 x0 x1 x2 x3 x4 x5 x6 x7 x8 x9 x10 x11 x12 x13 x14 x15 x16 x17 x18 x19 x20 x23 v0 v1 v2 v3 v4 v5 v6 v7 v8 v9 v10 v11 v12 v13 v14 v15 v16 v17 v18 v19 v20 v21 v22 v23 HK VV
  have G9 := chg_pre hc9 (by intro b hb; simp only [List.mem_cons, List.not_mem_nil, or_false] at hb; rcases hb with rfl | rfl <;> simp)
  have HW9 := Lib.hid (grew_tr GO.out G9)
  have HB9 := Lib.hid (HB0.out.grew (grew_tr GO.out G9))
  have hge := GO.out.size
  obtain ⟨g11, hg11⟩ : ∃ g, gm 0 = g := ⟨_, rfl⟩
  obtain ⟨g12, hg12⟩ : ∃ g, gm 1 = g := ⟨_, rfl⟩
  rw [hg11] at y0 g0 ⊢
  rw [hg12] at y1 g1 ⊢
  have r0 := y0.cell 0
  have r1 := y0.cell 1
  have u0 := y1.cell 0
  have u1 := y1.cell 1
  have rl := y0.lt
  have ul := y1.lt
  have n11 : g11 ≠ sb := by omega
  have n12 : g12 ≠ sb := by omega
  simp only [List.getElem?_toArray, List.getElem?_cons_zero, List.getElem?_cons_succ] at r0 r1 u0 u1
  clear y0 y1 hg11 hg12 hc9 G9 q0 q1 q2 q3 g0 g1 gm vs hge
  cases B
  · have hon : o = none := by cases ho : o with | none => rfl | some p => have := HBo.out; rw [ho] at this; cases this
    subst hon
    go_wp2
    go_ret
    exact ⟨by simp [relSt], ⟨xs, lo, hi, HB9.out, fun z hz => by simp [relSt] at hz⟩, chg_gr (Chg.refl _ _) HW9.out⟩
  · obtain ⟨p, hp⟩ : ∃ p, o = some p := by cases ho : o with | none => (have := HBo.out; rw [ho] at this; cases this) | some p => exact ⟨p, rfl⟩
    obtain ⟨p1, p2⟩ := p
    have e1 : p1 = ⟨xl, xh⟩ := by have := HXX.out; rw [hp] at this; exact this
    have e2 : p2 = ⟨yl, yh⟩ := by have := HYY.out; rw [hp] at this; exact this
    subst e1 e2
    obtain ⟨ok1, ok2⟩ := HOK.out _ hp
    have HN1 := Lib.hid (implNarrow sb (aj : Int) ⟨xl, xh⟩ xs lo hi w9 HB9.out H4.out HA.out HNA.out ok1)
    have HRS : Hid (relSt o xs aj bj = (narI xs aj ⟨xl, xh⟩).bind fun zs => narI zs bj ⟨yl, yh⟩) := Lib.hid (by rw [hp]; rfl)
    clear hp HBo HXX HYY HOK ok1
    go_wp2_with fail
    refine HN1.out.mono ?_
    rintro e w10 ⟨rfl, hb10, hc10⟩
    have v0 := chg_cell hc10 u0 n12
    have v1 := chg_cell hc10 u1 n12
    have vl := Nat.lt_of_lt_of_le ul hc10.size
    have HC10 := Lib.hid ((chg_gr (Chg.refl (fun b => b = sb) w) HW9.out).trans hc10 (fun _ _ h => h) (fun _ _ h => h))
    have HB10 := Lib.hid hb10
    clear hb10 hc10 r0 r1 u0 u1 rl ul
    obtain ⟨m, hm⟩ : ∃ m, (meetI (nthI xs aj) ⟨xl, xh⟩).isSome = m := ⟨_, rfl⟩
    rw [hm]
    cases m
    · have HRN : Hid (relSt o xs aj bj = none) := Lib.hid (by rw [HRS.out, narI_none hm]; rfl)
      clear hm HRS
      go_wp2
      go_ret
      refine ⟨by rw [HRN.out]; rfl, ⟨_, _, _, HB10.out, fun z hz => by rw [HRN.out] at hz; cases hz⟩, HC10.out⟩
    · have hnar := narI_get hm
      have hok1 := narI_ok HO.out hnar
      obtain ⟨zs, hzs⟩ : ∃ zs, setI xs aj ((meetI (nthI xs aj) ⟨xl, xh⟩).getD ⟨0, 0⟩) = zs := ⟨_, rfl⟩
      rw [hzs] at hnar hok1 HB10
      have HN2 := Lib.hid (implNarrow sb (bj : Int) ⟨yl, yh⟩ zs lo hi w10 HB10.out (stOk_parts hok1).1 HBB.out (nthI_ok hok1 HBB.out) ok2)
      have HR2 : Hid (relSt o xs aj bj = narI zs bj ⟨yl, yh⟩) := Lib.hid (by rw [HRS.out, hnar]; rfl)
      clear hm HRS hnar hok1 hzs ok2
      go_wp2_with fail
      refine HN2.out.mono ?_
      rintro e w11 ⟨rfl, hb11, hc11⟩
      have HC11 := Lib.hid (HC10.out.trans hc11 (fun _ _ h => h) (fun _ _ h => h))
      have HB11 := Lib.hid hb11
      clear hb11 hc11 v0 v1 vl
      go_wp2
      go_ret
      refine ⟨?_, ⟨_, _, _, HB11.out, fun z hz => ?_⟩, HC11.out⟩
      · rw [HR2.out, Option.isSome_map, narI_eq]
        first | rfl | simp
      · rw [HR2.out] at hz
        cases hm2 : (meetI (nthI zs bj) ⟨yl, yh⟩).isSome
        · rw [narI_none hm2] at hz; cases hz
        · rw [narI_get hm2] at hz
          cases hz
          exact ⟨rfl, rfl⟩
theorem cfRel : ∀ args W, (callFunc 100 args).run Tryz.prog W = .ok (.enter 100 args) W := fun args W => by kernel_rfl
theorem cfNot : ∀ args W, (callFunc 101 args).run Tryz.prog W = .ok (.enter 101 args) W := fun args W => by kernel_rfl
end Go.Proofs.YtpmfpgbpndobpaaGreat

/- A drawn region in which a call writes a box: a step for region_box. No condition. -/
namespace Go.Proofs.YtpmfpgbpndobpaaGreat
open Go.RowKit
set_option linter.unusedVariables false
set_option linter.unusedSimpArgs false

section
variable {P : Program} {ops : Array Oper} {Q : Exit → Act → World → Prop} {a0 : Act} {bs : List Bx} {V : Nat → Value} {wo : World} {i : Nat} {o : Oper}
/-- A call that writes a box that stood before. -/
theorem b_scall (k : Nat) (b : Bx) (hk : bs[k]? = some b) (hi : b.st = i) (ho : ownB bs i = none) (hal0 : b.al = none) (hs : uniqS (bs.map (·.st)) i k = true) {f : FuncId} {vals : Array Value}
    (h : ∀ (gm : Nat → Nat) (a : Act) (W : World), BAt ops a0 bs V wo gm i o a W → Blk W b.at0 b.T b.old → (execOp a.eval o).run P W = .ok (.enter f vals) W)
    (C : ∀ W, Blk W b.at0 b.T b.old → Calls P f vals W fun e w' => e = .returned (V i) ∧ Blk w' b.at0 b.T b.new ∧ Chg (fun t => t = b.at0) W w') : BStep P ops Q a0 bs V wo i o := by
  intro gm L a W hLs hiz hL hC hI hf hd
  have hat := at_of hI hL hC hf hd
  have hn : ∀ b, b ∈ bs → b.al ≠ some i := fun b hb e => by
    unfold ownB at ho
    rw [List.findIdx?_eq_none_iff] at ho
    have := ho b hb
    simp [e] at this
  have hal : b.alive L := fun j hj => by rw [hal0] at hj; cases hj
  have hgm := hI.old k b hk hal0
  have hb0 := hI.blk k b hk hal
  rw [hi, getD_ff hL, hgm] at hb0
  unfold Oper.wp
  rw [h gm a W hat hb0]
  refine Calls.mono (C W hb0) ?_
  rintro e W' ⟨rfl, hnew, hchg⟩
  refine ⟨V i, gm, rfl, by simp [valB, ho], ⟨?_, fun j c hj hc => ?_, hI.old, fun j c m hj hm hc => hI.ge j c m hj hm (alive_set (by omega) (hn c (List.mem_of_getElem? hj)) hc), fun j m c d hjm hj hm hc hd => hI.ne j m c d hjm hj hm (alive_set (by omega) (hn c (List.mem_of_getElem? hj)) hc) (alive_set (by omega) (hn d (List.mem_of_getElem? hm)) hd)⟩, fun _ _ _ _ h => h⟩
  · refine hI.chg.trans hchg (fun _ _ h => h) (fun t ht e => ?_)
    subst e
    exact ⟨b, List.mem_of_getElem? hk, hal0, rfl⟩
  · have hc' := alive_set (by omega) (hn c (List.mem_of_getElem? hj)) hc
    by_cases e : j = k
    · subst e
      rw [hk] at hj
      cases hj
      rw [hi, getD_set1 (by omega), hgm]
      exact hnew
    · have hne : ¬ i = c.st := fun e2 => e (uniqS_spec hs hj e2.symm)
      rw [getD_set hne]
      exact (hI.blk j c hj hc').chg hchg (fun e2 => hI.ne j k c b e hj hk hc' hal (by rw [e2, hgm]))
theorem b_scx {x : Value} (hv : V i = x) (k : Nat) (b : Bx) (hk : bs[k]? = some b) (hi : b.st = i) (ho : ownB bs i = none) (hal0 : b.al = none) (hs : uniqS (bs.map (·.st)) i k = true) {f : FuncId} {vals : Array Value}
    (h : ∀ (gm : Nat → Nat) (a : Act) (W : World), BAt ops a0 bs V wo gm i o a W → Blk W b.at0 b.T b.old → (execOp a.eval o).run P W = .ok (.enter f vals) W)
    (C : ∀ W, Blk W b.at0 b.T b.old → Calls P f vals W fun e w' => e = .returned x ∧ Blk w' b.at0 b.T b.new ∧ Chg (fun t => t = b.at0) W w') : BStep P ops Q a0 bs V wo i o :=
  b_scall k b hk hi ho hal0 hs h (fun W hb => by rw [hv]; exact C W hb)
end
end Go.Proofs.YtpmfpgbpndobpaaGreat
