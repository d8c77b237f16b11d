/- Lemmas and walks of this proof, some texts one behind the other. No condition. -/
import Derived.Test.YtpmfpgbpndobpaaGreatSpA
set_option linter.unusedSimpArgs false
set_option linter.unusedVariables false
/- States by value in memory of their own: the reference's l7Set, l7Cut, l7Two. No condition. -/
namespace Go.Proofs.YtpmfpgbpndobpaaGreat
open Go.RowKit
set_option linter.unusedVariables false
set_option linter.unusedSimpArgs false
attribute [local go_sem] ext_cell ext_frozen ext_lt ext_le ext_le1 lt_s2 lt_s3 lt_s4 lt_s5 lt_s6 ext_lt1 ext_lt2 ext_lt3

set_option maxHeartbeats 2000000 in
theorem specL7Set (B rb c : Nat) (xs : List Itv) (lo hi k : Int) (x : Itv) (w : World) (ho : OwnR w B rb c xs) (hk : varB k = true) :
    Calls Tryz.prog 115 #[.agg #[.bool true, .slice (some ⟨rb, 0, none⟩) 4 c, .int .i64 lo, .int .i64 hi], .int .i64 k, x.v] w fun e w' => e = .returned (.agg #[.bool true, .slice (some ⟨rb, 0, none⟩) 4 c, .int .i64 lo, .int .i64 hi]) ∧ OwnR w' B rb c (setI xs k x) ∧ Chg (fun b => b = rb) w w' := by
  simp only [varB, Bool.and_eq_true, decide_eq_true_eq] at hk
  obtain ⟨j, rfl⟩ := Int.eq_ofNat_of_zero_le hk.1
  have hj : j < 4 := by omega
  obtain ⟨xl, xh⟩ := x
  rw [setI_nat]
  obtain ⟨xo, hxo⟩ := set_cell ho.1 hj
  obtain ⟨c0, c1⟩ := ho.cell hj hxo
  have hf := fun i => ho.frozen i
  have hl := ho.lt
  have hj4 : (j : Int) < 4 := by omega
  have hl1 : rb < w.heap.size + 1 := by omega
  have hl2 : rb < w.heap.size + 1 + 1 := by omega
  have hn0 : ¬ rb = w.heap.size := by omega
  have hn1 : ¬ rb = w.heap.size + 1 := by omega
  have hn2 : ¬ rb = w.heap.size + 1 + 1 := by omega
  have hm0 : ¬ w.heap.size = rb := by omega
  have hm1 : ¬ w.heap.size + 1 = rb := by omega
  have hm2 : ¬ w.heap.size + 1 + 1 = rb := by omega
  have HO := Lib.hid ho
  clear ho hk hxo
  go_enter Tryz.func115, Tryz.ntmps115
  go_wp2
  refine bodyPost_ret (by simp [results, Tryz.results115, go_sem]; try rfl) rfl ?_
  refine ⟨rfl, ?_, ?_⟩
  · exact (HO.out.set hj ⟨xl, xh⟩).grew (grew_al (grew_al (grew_al (Below.refl _ _) _) _) _)
  · exact chg_gr (Chg.alw (F := fun b => b = rb) (Chg.alw (F := fun b => b = rb) (Chg.refl _ _) rfl _) rfl _) (grew_al (grew_al (grew_al (Below.refl _ _) _) _) _)
/-- A state by value, or none. -/
def stV (o : Option (List Itv × Itv)) (rb c : Nat) : Value := match o with
  | none => .agg #[.bool false, .slice none 0 0, .int .i64 0, .int .i64 0]
  | some z => .agg #[.bool true, .slice (some ⟨rb, 0, none⟩) 4 c, .int .i64 z.2.lo, .int .i64 z.2.hi]
--GEN
set_option maxRecDepth 100000 in
set_option maxHeartbeats 4000000 in
theorem specL7Cut (B rb c : Nat) (xs : List Itv) (lo hi k : Int) (t : Itv) (w : World) (ho : OwnR w B rb c xs) (hk : varB k = true) (hxo : itvB (nthI xs k) = true) (ht : itvB t = true) :
    Calls Tryz.prog 139 #[.agg #[.bool true, .slice (some ⟨rb, 0, none⟩) 4 c, .int .i64 lo, .int .i64 hi], .int .i64 k, t.v] w fun e w' => e = .returned (.tuple #[stV ((narI xs k t).map fun zs => (zs, (⟨lo, hi⟩ : Itv))) rb c, .bool (narI xs k t).isSome]) ∧ OwnR w' B rb c ((narI xs k t).getD xs) ∧ Chg (fun b => b = rb) w w' := by
  have HK := Lib.hid hk
  obtain ⟨j, rfl, hj, hx⟩ := nthI_get ho.1 hk
  have HM0 := implItvMeet
  clear HM0
  have HM := Lib.hid (fun W => specItvMeet (nthI xs j) t W hxo ht)
  rw [optV_eq] at HM
  obtain ⟨m, hmm⟩ : ∃ m, (meetI (nthI xs j) t).isSome = m := ⟨_, rfl⟩
  obtain ⟨⟨ml, mh⟩, hmv⟩ : ∃ m, (meetI (nthI xs j) t).getD ⟨0, 0⟩ = m := ⟨_, rfl⟩
  rw [hmm, hmv] at HM
  have HNR : Hid (narI xs j t = if m = true then some (setI xs j ⟨ml, mh⟩) else none) := Lib.hid (by
    cases m
    · rw [narI_none hmm]; rfl
    · rw [narI_get hmm, hmv]; rfl)
  rw [HNR.out]
  obtain ⟨⟨xl, xh⟩, hX⟩ : ∃ x, nthI xs j = x := ⟨_, rfl⟩
  rw [hX] at hx HM
  obtain ⟨tl, th⟩ := t
  have hlt := ho.lt
  have HX := Lib.hid hx
  have HO := Lib.hid ho
  clear HNR hmm hmv hX hk hxo ht hx ho
  have haq : ¬ (4 : Int) ≤ (j : Int) := by omega
  go_enter Tryz.func139, Tryz.ntmps139
  go_upto_region 1 with fail
  refine wp_letH ?_
  intro E hE
  have GO := Lib.hid (show Grew w E from by rw [hE]; exact gr)
  have q0 : E.cell? ⟨w.heap.size, 0, none⟩ = some (.bool true) := by rw [hE]; simp [go_sem]
  have q1 : E.cell? ⟨w.heap.size, 1, none⟩ = some (.slice (some ⟨rb, 0, none⟩) 4 c) := by rw [hE]; simp [go_sem]
  have q2 : E.cell? ⟨w.heap.size, 2, none⟩ = some (.int .i64 lo) := by rw [hE]; simp [go_sem]
  have q3 : E.cell? ⟨w.heap.size, 3, none⟩ = some (.int .i64 hi) := by rw [hE]; simp [go_sem]
  have q4 : E.cell? ⟨w.heap.size + 1, 0, none⟩ = some (.int .i64 tl) := by rw [hE]; simp [go_sem]
  have q5 : E.cell? ⟨w.heap.size + 1, 1, none⟩ = some (.int .i64 th) := by rw [hE]; simp [go_sem]
  have Z6 : Blk E (w.heap.size + 1 + 1) 33 #[.bool false, .slice none 0 0, .int .i64 0, .int .i64 0] := by rw [hE]; exact Blk.new' (by simp only [World.size_alloc])
  obtain ⟨q6, q7⟩ := (HO.out.grew GO.out).cell hj HX.out
  simp only at q6 q7
  clear hE
  obtain ⟨VV, v0, v1, v2, v3, v4, v5, v6, v7, v8, v9, v10, v11, v12, -⟩ := vl [.pointer (some ⟨w.heap.size, 1, none⟩), .slice (some ⟨rb, 0, none⟩) 4 c, .int .i64 ((j : Int)), .pointer (some ⟨rb, j * 2, none⟩), .agg #[.int .i64 xl, .int .i64 xh], .agg #[.int .i64 tl, .int .i64 th], .tuple #[.agg #[.int .i64 ml, .int .i64 mh], .bool m], .tuple #[.agg #[.int .i64 ml, .int .i64 mh], .bool m], .agg #[.int .i64 ml, .int .i64 mh], .bool m, undef, undef, .bool m]
  have HK := fun W (c : Chg (preB [⟨some 10, 0, 11, 31, #[.int .i64 0, .int .i64 0], #[.int .i64 ml, .int .i64 mh]⟩]) _ W) => And.intro (ck c q0) (And.intro (ck c q1) (And.intro (ck c q2) (And.intro (ck c q3) (And.intro (ck c q4) (And.intro (ck c q5) (And.intro (ck c q6) (ck c q7)))))))
  refine region_box 27 [⟨some 10, 0, 11, 31, #[.int .i64 0, .int .i64 0], #[.int .i64 ml, .int .i64 mh]⟩] VV (by kernel_rfl) rfl (by kernel_rfl) rfl (by intro b hb ha; simp only [List.mem_cons, List.not_mem_nil, or_false] at hb; rcases hb with rfl <;> first | (cases ha; done) | assumption) (by intro j k b c hjk hj hk hb hc; rcases j with _ | _ | j <;> rcases k with _ | _ | k <;> simp at hj hk hjk <;> (try subst hj) <;> (try subst hk) <;> first | (cases hb; done) | (cases hc; done) | (simp only; omega)) ⟨?_, ?_, ?_, ?_, ?_, ?_, ?_, ?_, ?_, ?_, ?_, ?_, ?_, trivial⟩ ?_
  · exact b_vx v0 rfl rfl (fun gm a W h => by have e3 : a.eval (.tmp 3) = .pointer (some ⟨w.heap.size, 0, none⟩) := (h.slot 3 (by kernel_rfl)).trans rfl; simp only [execOp, e3]; first | (simp [go_sem, haq] <;> first | exact wrapIn | rfl) | kernel_rfl)
  · exact b_vx v1 rfl rfl (fun gm a W h => by have e11 := (h.vb 0 11).trans v0; obtain ⟨kq0, kq1, kq2, kq3, kq4, kq5, kq6, kq7⟩ := HK W h.chg; simp only [execOp, e11]; first | (simp [go_sem, kq0, kq1, kq2, kq3, kq4, kq5, kq6, kq7, haq] <;> first | exact wrapIn | rfl) | kernel_rfl)
  · exact b_vx v2 rfl rfl (fun gm a W h => by have e1 : a.eval (.tmp 1) = .int .i64 ((j : Int)) := (h.slot 1 (by kernel_rfl)).trans rfl; simp only [execOp, e1]; first | (simp [go_sem, haq] <;> first | exact wrapIn | rfl) | kernel_rfl)
  · exact b_vx v3 rfl rfl (fun gm a W h => by have e12 := (h.vb 1 12).trans v1; have e13 := (h.vb 2 13).trans v2; simp only [execOp, e12, e13]; first | (simp [go_sem, haq] <;> first | exact wrapIn | rfl) | kernel_rfl)
  · exact b_vx v4 rfl rfl (fun gm a W h => by have e14 := (h.vb 3 14).trans v3; obtain ⟨kq0, kq1, kq2, kq3, kq4, kq5, kq6, kq7⟩ := HK W h.chg; simp only [execOp, e14]; first | (simp [go_sem, kq0, kq1, kq2, kq3, kq4, kq5, kq6, kq7, haq] <;> first | exact wrapIn | rfl) | kernel_rfl)
  · exact b_vx v5 rfl rfl (fun gm a W h => by have e5 : a.eval (.tmp 5) = .pointer (some ⟨w.heap.size + 1, 0, none⟩) := (h.slot 5 (by kernel_rfl)).trans rfl; obtain ⟨kq0, kq1, kq2, kq3, kq4, kq5, kq6, kq7⟩ := HK W h.chg; simp only [execOp, e5]; first | (simp [go_sem, kq0, kq1, kq2, kq3, kq4, kq5, kq6, kq7, haq] <;> first | exact wrapIn | rfl) | kernel_rfl)
  · exact b_cx v6 rfl rfl (fun gm a W h => by
      have e15 := (h.vb 4 15).trans v4
      have e16 := (h.vb 5 16).trans v5
      refine Eq.trans (b := .ok (.enter 156 #[a.eval (.tmp 15), a.eval (.tmp 16)]) W) (by kernel_rfl) ?_
      rw [e15, e16]) (fun W => HM.out W)
  · exact b_vx v7 rfl rfl (fun gm a W h => by have e17 := (h.vb 6 17).trans v6; simp only [execOp, e17]; first | (simp [go_sem, haq] <;> first | exact wrapIn | rfl) | kernel_rfl)
  · exact b_vx v8 rfl rfl (fun gm a W h => by have e10 := (h.vb 7 10).trans v7; simp only [execOp, e10]; first | (simp [go_sem, haq] <;> first | exact wrapIn | rfl) | kernel_rfl)
  · exact b_vx v9 rfl rfl (fun gm a W h => by have e10 := (h.vb 7 10).trans v7; simp only [execOp, e10]; first | (simp [go_sem, haq] <;> first | exact wrapIn | rfl) | kernel_rfl)
  · exact b_alloc 0 _ rfl rfl rfl (by kernel_rfl) rfl (fun gm a W h => by kernel_rfl)
  · refine b_store 0 _ rfl rfl rfl v11 (fun j hj => by cases hj; exact ⟨8, ⟨⟨⟨10, .data⟩, by simp, rfl, by kernel_rfl⟩, by kernel_rfl⟩⟩) rfl (fun gm a W h hold hb => ?_)
    have e8 : a.eval (.tmp 8) = .pointer (some ⟨gm 0, 0, none⟩) := (h.vb 10 8).trans rfl
    have e18 := (h.vb 8 18).trans v8
    simp only at hb
    have hf := fun j => hb.frozen j
    have c0 := hb.cell 0
    have c1 := hb.cell 1
    refine ⟨_, by (simp only [execOp, e8, e18]; simp [go_sem, hf, c0, c1, haq]; try rfl), (hb.set_ 0 _).set_ 1 _, chgs2 _ _ _ _ _ _⟩
  · exact b_vx v12 rfl rfl (fun gm a W h => by have e19 := (h.vb 9 19).trans v9; simp only [execOp, e19]; first | (simp [go_sem, haq] <;> first | exact wrapIn | rfl) | kernel_rfl)
  intro gm vs w9 hc9 hb9 hold9 hge9 hv9
  have x0 := (hv9 0 11 (by kernel_rfl)).trans v0
  have x1 := (hv9 1 12 (by kernel_rfl)).trans v1
  have x2 := (hv9 2 13 (by kernel_rfl)).trans v2
  have x3 := (hv9 3 14 (by kernel_rfl)).trans v3
  have x4 := (hv9 4 15 (by kernel_rfl)).trans v4
  have x5 := (hv9 5 16 (by kernel_rfl)).trans v5
  have x6 := (hv9 6 17 (by kernel_rfl)).trans v6
  have x7 := (hv9 7 10 (by kernel_rfl)).trans v7
  have x8 := (hv9 8 18 (by kernel_rfl)).trans v8
  have x9 := (hv9 9 19 (by kernel_rfl)).trans v9
  have x10 : vs 10 = .pointer (some ⟨gm 0, 0, none⟩) := (hv9 10 8 (by kernel_rfl)).trans rfl
  have x12 := (hv9 12 9 (by kernel_rfl)).trans v12
  have y0 := hb9 0 _ rfl
  have g0 := hge9 0 _ 10 rfl rfl
  simp only at y0
  simp only [putAll, Act.put, List.setIfInBounds_toArray, List.set_cons_zero, List.set_cons_succ, Nat.zero_add, Nat.reduceAdd, x0, x1, x2, x3, x4, x5, x6, x7, x8, x9, x10, x12]
  clear hb9 hold9 hge9 hv9 x0 x1 x2 x3 x4 x5 x6 x7 x8 x9 x10 x12 v0 v1 v2 v3 v4 v5 v6 v7 v8 v9 v10 v11 v12 HK VV
  have G9 := chg_pre hc9 (by intro b hb; simp only [List.mem_cons, List.not_mem_nil, or_false] at hb; subst hb; simp)
  have HW9 := Lib.hid (grew_tr GO.out G9)
  have hge := GO.out.size
  obtain ⟨g8, hg8⟩ : ∃ g, gm 0 = g := ⟨_, rfl⟩
  rw [hg8] at y0 g0 ⊢
  have r0 := y0.cell 0
  have r1 := y0.cell 1
  have rl := y0.lt
  have ZZ := Z6.grew G9
  have HZ := Lib.hid ZZ
  have q0 := (G9.cell (p := ⟨w.heap.size, 0, none⟩) (World.block_lt_of_cell? _ _ q0)).trans q0
  have q1 := (G9.cell (p := ⟨w.heap.size, 1, none⟩) (World.block_lt_of_cell? _ _ q1)).trans q1
  have q2 := (G9.cell (p := ⟨w.heap.size, 2, none⟩) (World.block_lt_of_cell? _ _ q2)).trans q2
  have q3 := (G9.cell (p := ⟨w.heap.size, 3, none⟩) (World.block_lt_of_cell? _ _ q3)).trans q3
  have ql := World.block_lt_of_cell? _ _ q0
  simp only at ql
  simp only [List.getElem?_toArray, List.getElem?_cons_zero, List.getElem?_cons_succ] at r0 r1
  have HO9 := Lib.hid (HO.out.grew HW9.out)
  clear y0 hg8 hc9 G9 q4 q5 q6 q7 g0 gm vs hge Z6 HM HO
  cases m
  · have z0 := ZZ.cell 0
    have z1 := ZZ.cell 1
    have z2 := ZZ.cell 2
    have z3 := ZZ.cell 3
    have zl := ZZ.lt
    have zf := fun j => ZZ.frozen j
    simp only [List.getElem?_toArray, List.getElem?_cons_zero, List.getElem?_cons_succ] at z0 z1 z2 z3
    clear ZZ
    go_wp2
    refine bodyPost_ret (by simp [results, Tryz.results139, go_sem, z0, z1, z2, z3, zl]; try rfl) rfl ?_
    refine ⟨rfl, ?_, ?_⟩
    · refine HO9.out.chg (F := fun b => b = w.heap.size + 1 + 1) ?_ (by omega)
      repeat (first | with_reducible exact Chg.refl _ _ | with_reducible refine Chg.alw (F := fun b => b = w.heap.size + 1 + 1) ?_ rfl _)
    · refine chg_gr (Chg.refl _ _) ?_
      repeat (first | with_reducible exact HW9.out | with_reducible refine grew_set ?_ (by first | omega | (simp only; omega)) _)
  · clear ZZ
    go_wp2_with fail
    refine (specL7Set B rb c xs lo hi (j : Int) ⟨ml, mh⟩ _ HO9.out HK.out).mono ?_
    rintro e w2 ⟨rfl, ho2, hc2⟩
    have ZZ := HZ.out.chg hc2 (by omega)
    have HO2 := Lib.hid ho2
    have HC2 := Lib.hid ((chg_gr (Chg.refl (fun b => b = rb) w) HW9.out).trans hc2 (fun _ _ h => h) (fun _ _ h => h))
    have hsz := HW9.out.size
    have hsz2 := hc2.size
    have z0 := ZZ.cell 0
    have z1 := ZZ.cell 1
    have z2 := ZZ.cell 2
    have z3 := ZZ.cell 3
    have zl := ZZ.lt
    have zf := fun j => ZZ.frozen j
    simp only [List.getElem?_toArray, List.getElem?_cons_zero, List.getElem?_cons_succ] at z0 z1 z2 z3
    clear ZZ ho2 hc2
    go_wp2
    refine bodyPost_ret (by simp [results, Tryz.results139, go_sem, z0, z1, z2, z3, zl]; try rfl) rfl ?_
    have hnn : w.heap.size + 1 + 1 ≠ rb := by omega
    refine ⟨rfl, ?_, ?_⟩
    · refine HO2.out.chg (F := fun b => b = w.heap.size + 1 + 1) ?_ (by omega)
      repeat (first | with_reducible exact Chg.refl _ _ | with_reducible refine Chg.alw (F := fun b => b = w.heap.size + 1 + 1) ?_ rfl _)
    · refine HC2.out.trans (G := fun b => b = w.heap.size + 1 + 1) ?_ (fun _ _ h => h) (fun i hi e => by omega)
      repeat (first | with_reducible exact Chg.refl _ _ | with_reducible refine Chg.alw (F := fun b => b = w.heap.size + 1 + 1) ?_ rfl _)
end Go.Proofs.YtpmfpgbpndobpaaGreat

/- States by value in memory of their own: the reference's l7Two, l7Holds, l7Otherwise. No condition. -/
namespace Go.Proofs.YtpmfpgbpndobpaaGreat
open Go.RowKit
set_option linter.unusedVariables false
set_option linter.unusedSimpArgs false
attribute [local go_sem] ext_cell ext_frozen ext_lt ext_le ext_le1 lt_s2 lt_s3 lt_s4 lt_s5 lt_s6 ext_lt1 ext_lt2 ext_lt3

/-- A state by value comes back, or none; its row alone was written. -/
def RetTwo (o : Option (List Itv)) (cI : Itv) (B rb c : Nat) (w : World) (e : Ending) (w' : World) : Prop :=
  e = .returned (stV (o.map fun zs => (zs, cI)) rb c) ∧ (∃ ys, OwnR w' B rb c ys ∧ ∀ zs, o = some zs → ys = zs) ∧ Chg (fun b => b = rb) w w'
/-- The result's box is written behind. -/
theorem ret_far {B rb c z : Nat} {ys : List Itv} {w w1 w2 : World} (ho : OwnR w1 B rb c ys) (hc : Chg (fun b => b = rb) w w1) (h2 : Chg (fun b => b = z) w1 w2) (hz : w.heap.size ≤ z) (hr : z ≠ rb) : OwnR w2 B rb c ys ∧ Chg (fun b => b = rb) w w2 :=
  ⟨ho.chg h2 (fun e => hr e.symm), hc.trans h2 (fun _ _ h => h) (fun i hi e => by subst e; omega)⟩
set_option maxRecDepth 100000 in
set_option maxHeartbeats 4000000 in
theorem specL7Two (B rb c : Nat) (xs : List Itv) (lo hi : Int) (i : Ins) (o : Option (Itv × Itv)) (w : World) (ho : OwnR w B rb c xs) (hs : stOkB true xs lo hi = true) (ha : varB i.a = true) (hb : varB i.b = true) (hok : ∀ p, o = some p → itvB p.1 = true ∧ itvB p.2 = true) :
    Calls Tryz.prog 143 #[.agg #[.bool true, .slice (some ⟨rb, 0, none⟩) 4 c, .int .i64 lo, .int .i64 hi], i.v, (rA o).v, (rB o).v, .bool o.isSome] w (RetTwo (relSt o xs i.a i.b) ⟨lo, hi⟩ B rb c w) := by
  obtain ⟨op, d, a, b, rel, ilo, ihi, to⟩ := i
  simp only at ha hb
  obtain ⟨⟨xl, xh⟩, hx⟩ : ∃ x, rA o = x := ⟨_, rfl⟩
  obtain ⟨⟨yl, yh⟩, hy⟩ : ∃ x, rB o = x := ⟨_, rfl⟩
  rw [hx, hy]
  have hrb := ho.lt
  have n4 : w.heap.size + 1 + 1 + 1 + 1 ≠ rb := by omega
  have n3 : w.heap.size + 1 + 1 + 1 ≠ rb := by omega
  have n1 : w.heap.size + 1 ≠ rb := by omega
  have HO := Lib.hid ho
  have HA := Lib.hid ha
  have HB := Lib.hid hb
  cases o with
  | none =>
    clear hok hs ha hb ho hx hy
    go_enter Tryz.func143, Tryz.ntmps143
    go_wp2
    go_returns
    have hr := ret_far (z := w.heap.size + 1 + 1 + 1 + 1) (w2 := w) HO.out (Chg.refl (fun b => b = rb) w) (Chg.refl _ _) (by omega) n4
    refine ⟨rfl, ⟨xs, ?_, fun zs hz => by cases hz⟩, ?_⟩
    · exact HO.out.grew (gr)
    · exact chg_gr (Chg.refl _ _) (gr)
  | some p =>
    obtain ⟨p1, p2⟩ := p
    have e1 : p1 = ⟨xl, xh⟩ := hx
    have e2 : p2 = ⟨yl, yh⟩ := hy
    subst e1 e2
    obtain ⟨ok1, ok2⟩ := hok _ rfl
    have HN1 := Lib.hid (fun W (hW : OwnR W B rb c xs) => specL7Cut B rb c xs lo hi a ⟨xl, xh⟩ W hW ha (nthI_ok hs ha) ok1)
    have HRS : Hid (relSt (some (⟨xl, xh⟩, ⟨yl, yh⟩)) xs a b = (narI xs a ⟨xl, xh⟩).bind fun zs => narI zs b ⟨yl, yh⟩) := Lib.hid rfl
    obtain ⟨R, hR⟩ : ∃ r, relSt (some ((⟨xl, xh⟩ : Itv), (⟨yl, yh⟩ : Itv))) xs a b = r := ⟨_, rfl⟩
    rw [hR] at HRS ⊢
    have hnok := fun zs (e : narI xs a ⟨xl, xh⟩ = some zs) => narI_ok hs e
    obtain ⟨n, hn⟩ : ∃ n, narI xs a ⟨xl, xh⟩ = n := ⟨_, rfl⟩
    rw [hn] at HRS HN1 hnok
    have HOK := Lib.hid hnok
    have HK2 := Lib.hid ok2
    clear hok hs ha hb ho hx hy ok1 ok2 hn hR hnok
    go_enter Tryz.func143, Tryz.ntmps143
    go_wp2_with fail
    refine (HN1.out _ (HO.out.grew (gr))).mono ?_
    rintro e w2 ⟨rfl, ho2, hc2⟩
    have k3 : w2.cell? ⟨w.heap.size + 1, 3, none⟩ = some (.int .i64 b) := chg_cell hc2 (by simp [go_sem]) n1
    have y0 : w2.cell? ⟨w.heap.size + 1 + 1 + 1, 0, none⟩ = some (.int .i64 yl) := chg_cell hc2 (by simp [go_sem]) n3
    have y1 : w2.cell? ⟨w.heap.size + 1 + 1 + 1, 1, none⟩ = some (.int .i64 yh) := chg_cell hc2 (by simp [go_sem]) n3
    have Z2 : Blk w2 (w.heap.size + 1 + 1 + 1 + 1) 33 #[.bool false, .slice none 0 0, .int .i64 0, .int .i64 0] := (show Blk (((((w.alloc (.cells #[.bool true, .slice (some ⟨rb, 0, none⟩) 4 c, .int .i64 lo, .int .i64 hi] 33)).alloc (.cells #[.int .i64 op, .int .i64 d, .int .i64 a, .int .i64 b, .int .i64 rel, .int .i64 ilo, .int .i64 ihi, .int .i64 to] 28)).alloc (.cells #[.int .i64 xl, .int .i64 xh] 31)).alloc (.cells #[.int .i64 yl, .int .i64 yh] 31)).alloc (.cells #[.bool false, .slice none 0 0, .int .i64 0, .int .i64 0] 33)) (w.heap.size + 1 + 1 + 1 + 1) 33 #[.bool false, .slice none 0 0, .int .i64 0, .int .i64 0] from Blk.new' (by simp only [World.size_alloc])).chg hc2 n4
    have HC2 := Lib.hid ((chg_gr (Chg.refl (fun b => b = rb) w) (show Grew w (((((w.alloc (.cells #[.bool true, .slice (some ⟨rb, 0, none⟩) 4 c, .int .i64 lo, .int .i64 hi] 33)).alloc (.cells #[.int .i64 op, .int .i64 d, .int .i64 a, .int .i64 b, .int .i64 rel, .int .i64 ilo, .int .i64 ihi, .int .i64 to] 28)).alloc (.cells #[.int .i64 xl, .int .i64 xh] 31)).alloc (.cells #[.int .i64 yl, .int .i64 yh] 31)).alloc (.cells #[.bool false, .slice none 0 0, .int .i64 0, .int .i64 0] 33)) from gr)).trans hc2 (fun _ _ h => h) (fun _ _ h => h))
    have hsz2 : w.heap.size + 1 + 1 + 1 + 1 + 1 ≤ w2.heap.size := by have := hc2.size; simp only [World.size_alloc] at this; exact this
    have l1 : w.heap.size + 1 < w2.heap.size := by omega
    have l3 : w.heap.size + 1 + 1 + 1 < w2.heap.size := by omega
    have HO2 := Lib.hid ho2
    clear ho2 hc2 HO HN1
    cases n with
    | none =>
      have HRN : Hid (R = none) := Lib.hid (HRS.out)
      have HZ := Lib.hid Z2
      have z0 := Z2.cell 0
      have z1 := Z2.cell 1
      have z2 := Z2.cell 2
      have z3 := Z2.cell 3
      have zl := Z2.lt
      have zf := fun j => Z2.frozen j
      simp only [List.getElem?_toArray, List.getElem?_cons_zero, List.getElem?_cons_succ] at z0 z1 z2 z3
      clear Z2 y0 y1 k3
      dsimp only [stV, Option.map_none, Option.isSome_none, Option.getD_none] at HO2 ⊢
      go_wp2
      refine bodyPost_ret (by simp [results, Tryz.results143, go_sem, z0, z1, z2, z3, zl]; try rfl) rfl ?_
      rw [HRN.out]
      refine ⟨rfl, ⟨_, (ret_far (z := w.heap.size + 1 + 1 + 1 + 1) HO2.out HC2.out ?_ (by omega) n4).1, fun zs hz => by cases hz⟩, (ret_far (z := w.heap.size + 1 + 1 + 1 + 1) HO2.out HC2.out ?_ (by omega) n4).2⟩
      all_goals (repeat (first | with_reducible exact Chg.refl _ _ | with_reducible refine Chg.alw (F := fun b => b = w.heap.size + 1 + 1 + 1 + 1) ?_ rfl _ | with_reducible refine chg_gr ?_ (grew_al (Below.refl _ _) _)))
    | some zs1 =>
      have hok1 := HOK.out _ rfl
      have HN2 := Lib.hid (fun W (hW : OwnR W B rb c zs1) => specL7Cut B rb c zs1 lo hi b ⟨yl, yh⟩ W hW HB.out (nthI_ok hok1 HB.out) HK2.out)
      have HR2 : Hid (R = narI zs1 b ⟨yl, yh⟩) := Lib.hid HRS.out
      clear hok1 HOK HRS HK2
      dsimp only [stV, Option.map_some, Option.isSome_some, Option.getD_some] at HO2 ⊢
      have HZ := Lib.hid Z2
      clear Z2
      go_wp2_with fail
      refine (HN2.out _ (HO2.out.grew (gr))).mono ?_
      rintro e w4 ⟨rfl, ho4, hc4⟩
      have hsz4 := hc4.size
      simp only [World.size_alloc] at hsz4
      have ZZ := (HZ.out.alloc (.cells #[.bool true, .slice (some ⟨rb, 0, none⟩) 4 c, .int .i64 lo, .int .i64 hi] 33)).chg hc4 n4
      have HC4 := Lib.hid ((chg_gr HC2.out (grew_al (Below.refl _ _) _)).trans hc4 (fun _ _ h => h) (fun _ _ h => h))
      have HO4 := Lib.hid ho4
      rw [← HR2.out] at HO4 ⊢
      clear ho4 hc4 HO2 HN2 HR2 y0 y1 k3 HC2
      have z0 := ZZ.cell 0
      have z1 := ZZ.cell 1
      have z2 := ZZ.cell 2
      have z3 := ZZ.cell 3
      have zl := ZZ.lt
      have zf := fun j => ZZ.frozen j
      simp only [List.getElem?_toArray, List.getElem?_cons_zero, List.getElem?_cons_succ] at z0 z1 z2 z3
      clear ZZ HZ
      cases R with
      | none =>
        dsimp only [stV, Option.map_none, Option.isSome_none, Option.getD_none] at HO4 ⊢
        go_wp2
        refine bodyPost_ret (by simp [results, Tryz.results143, go_sem, z0, z1, z2, z3, zl]; try rfl) rfl ?_
        refine ⟨rfl, ⟨_, (ret_far (z := w.heap.size + 1 + 1 + 1 + 1) HO4.out HC4.out ?_ (by omega) n4).1, fun zs hz => by cases hz⟩, (ret_far (z := w.heap.size + 1 + 1 + 1 + 1) HO4.out HC4.out ?_ (by omega) n4).2⟩
        all_goals (repeat (first | with_reducible exact Chg.refl _ _ | with_reducible refine Chg.alw (F := fun b => b = w.heap.size + 1 + 1 + 1 + 1) ?_ rfl _ | with_reducible refine chg_gr ?_ (grew_al (Below.refl _ _) _)))
      | some zs2 =>
        dsimp only [stV, Option.map_some, Option.isSome_some, Option.getD_some] at HO4 ⊢
        go_wp2
        refine bodyPost_ret (by simp [results, Tryz.results143, go_sem, z0, z1, z2, z3, zl]; try rfl) rfl ?_
        refine ⟨rfl, ⟨_, (ret_far (z := w.heap.size + 1 + 1 + 1 + 1) HO4.out HC4.out ?_ (by omega) n4).1, fun zs hz => by cases hz; rfl⟩, (ret_far (z := w.heap.size + 1 + 1 + 1 + 1) HO4.out HC4.out ?_ (by omega) n4).2⟩
        all_goals (repeat (first | with_reducible exact Chg.refl _ _ | with_reducible refine Chg.alw (F := fun b => b = w.heap.size + 1 + 1 + 1 + 1) ?_ rfl _ | with_reducible refine chg_gr ?_ (grew_al (Below.refl _ _) _)))
end Go.Proofs.YtpmfpgbpndobpaaGreat
