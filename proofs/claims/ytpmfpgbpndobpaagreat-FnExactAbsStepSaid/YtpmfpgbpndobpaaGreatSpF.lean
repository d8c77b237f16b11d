/- States by value in memory of their own: the reference's l7Do. No condition. -/
import Derived.Test.YtpmfpgbpndobpaaGreatSpD
namespace Go.Proofs.YtpmfpgbpndobpaaGreat
open Go.RowKit
set_option linter.unusedVariables false
set_option linter.unusedSimpArgs false
attribute [local go_sem] ext_cell ext_frozen ext_lt ext_le ext_le1 lt_s2 lt_s3 lt_s4 lt_s5 lt_s6 ext_lt1 ext_lt2 ext_lt3

theorem endI_wo {b : Itv} (h : ¬ (b.lo = 0 ∧ b.hi = 0)) : (endI b 0).getD ⟨0, 0⟩ = woI b ⟨0, 0⟩ := by
  obtain ⟨bl, bh⟩ := b
  simp only at h
  simp only [endI, woI, if_neg h]
  by_cases h1 : bl = 0
  · subst h1
    have : ¬ bh = 0 := fun e => h ⟨rfl, e⟩
    simp [this]
  · by_cases h2 : bh = 0
    · subst h2
      simp [h1]
    · simp [h1, h2]
theorem do4_ne {a b r : Itv} (h : doI 4 a b = some r) : ¬ (b.lo = 0 ∧ b.hi = 0) := by
  rintro ⟨h1, h2⟩
  obtain ⟨bl, bh⟩ := b
  simp only at h1 h2
  subst h1 h2
  simp [doI, ressI, cornI, secI, inB] at h
set_option maxRecDepth 100000 in
set_option maxHeartbeats 8000000 in
theorem specL7Do1 (ps : List Prc) (ss : List Sum) (xa : Option Addr) (xc : Nat) (xs : List Itv) (lo hi : Int) (d a b rel ilo ihi to : Int) (w : World) (hx : RdL EItv 2 w xa 4 xs) (hs : stOkB true xs lo hi = true) (hd : varB d = true) (ha : varB a = true) (hb : varB b = true) :
    Calls Tryz.prog 121 #[.agg #[.bool true, .slice xa 4 xc, .int .i64 lo, .int .i64 hi], Ins.v ⟨1, d, a, b, rel, ilo, ihi, to⟩] w (RetO (actI ps ss ⟨1, d, a, b, rel, ilo, ihi, to⟩ xs ⟨lo, hi⟩) w) := by
  have HS := Lib.hid hs
  have HD := Lib.hid hd
  have HB := Lib.hid hb
  obtain ⟨aj, rfl, hja, hxa⟩ := nthI_get hx.len ha
  obtain ⟨bj, rfl, hjb, hxb⟩ := nthI_get hx.len hb
  obtain ⟨dj, rfl, hjd, hxd⟩ := nthI_get hx.len hd
  have hoa := nthI_ok hs ha
  have hob := nthI_ok hs hb
  have HV0 : Hid (actI ps ss ⟨1, (dj : Int), (aj : Int), (bj : Int), rel, ilo, ihi, to⟩ xs ⟨lo, hi⟩ = (doI 1 (nthI xs aj) (nthI xs bj)).map fun r => ((setI xs dj r), (⟨lo, hi⟩ : Itv))) := Lib.hid (by simp [actI])
  rw [HV0.out]
  have HI := Lib.hid (fun W => specItvDo 1 (nthI xs aj) (nthI xs bj) W (by omega) hoa hob)
  rw [optV_eq] at HI
  obtain ⟨⟨al, ah⟩, hXa⟩ : ∃ x, nthI xs aj = x := ⟨_, rfl⟩
  obtain ⟨⟨bl, bh⟩, hXb⟩ : ∃ x, nthI xs bj = x := ⟨_, rfl⟩
  rw [hXa] at HI hxa hoa
  rw [hXb] at HI hxb hob
  rw [hXa, hXb]
  have HXA := Lib.hid hxa
  have HXB := Lib.hid hxb
  have HOB := Lib.hid (itvB_iff.1 hob)
  obtain ⟨O, hO⟩ : ∃ o, doI 1 ⟨al, ah⟩ ⟨bl, bh⟩ = o := ⟨_, rfl⟩
  rw [hO] at HI ⊢
  have HOO := Lib.hid hO
  obtain ⟨⟨rl, rh⟩, hr⟩ : ∃ m, O.getD ⟨0, 0⟩ = m := ⟨_, rfl⟩
  obtain ⟨m, hm⟩ : ∃ x, O.isSome = x := ⟨_, rfl⟩
  rw [hr, hm] at HI
  have HR := Lib.hid hr
  have HMo := Lib.hid hm
  have HX := Lib.hid hx
  clear HV0 hXa hXb hxa hxb hxd hoa hob hx hs hd ha hb hO hr hm
  have haq : ¬ (4 : Int) ≤ (aj : Int) := by omega
  have hbq : ¬ (4 : Int) ≤ (bj : Int) := by omega
  go_enter Tryz.func121, Tryz.ntmps121
  go_wp2_with fail
  refine (specL7Copy xa xc xs lo hi _ (HX.out.grew staysItv (gr))).mono ?_
  rintro e w1 ⟨rb, c, rfl, hor, g1⟩
  have i0 : w1.cell? ⟨w.heap.size + 1, 0, none⟩ = some (.int .i64 (1 : Int)) := (g1.cell (p := ⟨w.heap.size + 1, 0, none⟩) (by simp only [World.size_alloc]; omega)).trans (by simp [go_sem])
  have i1 : w1.cell? ⟨w.heap.size + 1, 1, none⟩ = some (.int .i64 (dj : Int)) := (g1.cell (p := ⟨w.heap.size + 1, 1, none⟩) (by simp only [World.size_alloc]; omega)).trans (by simp [go_sem])
  have i2 : w1.cell? ⟨w.heap.size + 1, 2, none⟩ = some (.int .i64 (aj : Int)) := (g1.cell (p := ⟨w.heap.size + 1, 2, none⟩) (by simp only [World.size_alloc]; omega)).trans (by simp [go_sem])
  have i3 : w1.cell? ⟨w.heap.size + 1, 3, none⟩ = some (.int .i64 (bj : Int)) := (g1.cell (p := ⟨w.heap.size + 1, 3, none⟩) (by simp only [World.size_alloc]; omega)).trans (by simp [go_sem])
  have i4 : w1.cell? ⟨w.heap.size + 1, 4, none⟩ = some (.int .i64 rel) := (g1.cell (p := ⟨w.heap.size + 1, 4, none⟩) (by simp only [World.size_alloc]; omega)).trans (by simp [go_sem])
  have i5 : w1.cell? ⟨w.heap.size + 1, 5, none⟩ = some (.int .i64 ilo) := (g1.cell (p := ⟨w.heap.size + 1, 5, none⟩) (by simp only [World.size_alloc]; omega)).trans (by simp [go_sem])
  have i6 : w1.cell? ⟨w.heap.size + 1, 6, none⟩ = some (.int .i64 ihi) := (g1.cell (p := ⟨w.heap.size + 1, 6, none⟩) (by simp only [World.size_alloc]; omega)).trans (by simp [go_sem])
  have i7 : w1.cell? ⟨w.heap.size + 1, 7, none⟩ = some (.int .i64 to) := (g1.cell (p := ⟨w.heap.size + 1, 7, none⟩) (by simp only [World.size_alloc]; omega)).trans (by simp [go_sem])
  have Z4 : Blk w1 (w.heap.size + 1 + 1) 33 #[.bool false, .slice none 0 0, .int .i64 0, .int .i64 0] := (show Blk (((w.alloc (.cells #[.bool true, .slice xa 4 xc, .int .i64 lo, .int .i64 hi] 33)).alloc (.cells #[.int .i64 (1 : Int), .int .i64 (dj : Int), .int .i64 (aj : Int), .int .i64 (bj : Int), .int .i64 rel, .int .i64 ilo, .int .i64 ihi, .int .i64 to] 28)).alloc (.cells #[.bool false, .slice none 0 0, .int .i64 0, .int .i64 0] 33)) (w.heap.size + 1 + 1) 33 #[.bool false, .slice none 0 0, .int .i64 0, .int .i64 0] from Blk.new' (by simp only [World.size_alloc])).grew g1
  have HG1 := Lib.hid (show Grew w w1 from grew_tr (gr) g1)
  have HO1 := Lib.hid hor
  have HZ1 := Lib.hid Z4
  have hb1 := hor.2.1
  simp only [World.size_alloc] at hb1
  have hb2 := hor.lt
  clear hor g1 Z4 HX
  go_upto_region 2 with fail
  refine wp_letH ?_
  intro E hE
  have GE := Lib.hid (show Grew w1 E from by rw [hE]; exact gr)
  have i0 := (GE.out.cell (p := ⟨w.heap.size + 1, 0, none⟩) (World.block_lt_of_cell? _ _ i0)).trans i0
  have i1 := (GE.out.cell (p := ⟨w.heap.size + 1, 1, none⟩) (World.block_lt_of_cell? _ _ i1)).trans i1
  have i2 := (GE.out.cell (p := ⟨w.heap.size + 1, 2, none⟩) (World.block_lt_of_cell? _ _ i2)).trans i2
  have i3 := (GE.out.cell (p := ⟨w.heap.size + 1, 3, none⟩) (World.block_lt_of_cell? _ _ i3)).trans i3
  have i4 := (GE.out.cell (p := ⟨w.heap.size + 1, 4, none⟩) (World.block_lt_of_cell? _ _ i4)).trans i4
  have i5 := (GE.out.cell (p := ⟨w.heap.size + 1, 5, none⟩) (World.block_lt_of_cell? _ _ i5)).trans i5
  have i6 := (GE.out.cell (p := ⟨w.heap.size + 1, 6, none⟩) (World.block_lt_of_cell? _ _ i6)).trans i6
  have i7 := (GE.out.cell (p := ⟨w.heap.size + 1, 7, none⟩) (World.block_lt_of_cell? _ _ i7)).trans i7
  have q1 : E.cell? ⟨w1.heap.size, 1, none⟩ = some (.slice (some ⟨rb, 0, none⟩) 4 c) := by rw [hE]; simp [go_sem]
  have hE5 : Blk E w1.heap.size 33 #[.bool true, .slice (some ⟨rb, 0, none⟩) 4 c, .int .i64 lo, .int .i64 hi] := by rw [hE]; exact Blk.new' rfl
  have HE5 := Lib.hid hE5
  obtain ⟨x0', x1'⟩ := (HO1.out.grew GE.out).cell hja HXA.out
  obtain ⟨y0', y1'⟩ := (HO1.out.grew GE.out).cell hjb HXB.out
  simp only at x0' x1' y0' y1'
  have hszE : E.heap.size = w1.heap.size + 1 := by rw [hE]; simp only [World.size_alloc]
  clear hE hE5
  obtain ⟨VV, v0, v1, v2, v3, v4, v5, v6, v7, v8, v9, v10, v11, v12, v13, v14, v15, v16, v17, v18, v19, v20, -⟩ := vl [.pointer (some ⟨w.heap.size + 1, 0, none⟩), .int .i64 ((1 : Int)), .pointer (some ⟨w1.heap.size, 1, none⟩), .slice (some ⟨rb, 0, none⟩) 4 c, .pointer (some ⟨w.heap.size + 1, 2, none⟩), .int .i64 ((aj : Int)), .pointer (some ⟨rb, aj * 2, none⟩), .agg #[.int .i64 al, .int .i64 ah], .pointer (some ⟨w1.heap.size, 1, none⟩), .slice (some ⟨rb, 0, none⟩) 4 c, .pointer (some ⟨w.heap.size + 1, 3, none⟩), .int .i64 ((bj : Int)), .pointer (some ⟨rb, bj * 2, none⟩), .agg #[.int .i64 bl, .int .i64 bh], .tuple #[.agg #[.int .i64 rl, .int .i64 rh], .bool m], .tuple #[.agg #[.int .i64 rl, .int .i64 rh], .bool m], .agg #[.int .i64 rl, .int .i64 rh], .bool m, undef, undef, .bool m]
  have HK := fun W (c : Chg (preB [⟨some 18, 0, 19, 31, #[.int .i64 0, .int .i64 0], #[.int .i64 rl, .int .i64 rh]⟩]) _ W) => And.intro (ck c i0) (And.intro (ck c q1) (And.intro (ck c i2) (And.intro (ck c i3) (And.intro (ck c x0') (And.intro (ck c x1') (And.intro (ck c y0') (ck c y1')))))))
  refine region_box 56 [⟨some 18, 0, 19, 31, #[.int .i64 0, .int .i64 0], #[.int .i64 rl, .int .i64 rh]⟩] VV (by kernel_rfl) rfl (by kernel_rfl) rfl (by intro b hb ha; simp only [List.mem_cons, List.not_mem_nil, or_false] at hb; rcases hb with rfl <;> first | (cases ha; done) | assumption) (by intro j k b c hjk hj hk hb hc; rcases j with _ | _ | j <;> rcases k with _ | _ | k <;> simp at hj hk hjk <;> (try subst hj) <;> (try subst hk) <;> first | (cases hb; done) | (cases hc; done) | (simp only; omega)) ⟨?_, ?_, ?_, ?_, ?_, ?_, ?_, ?_, ?_, ?_, ?_, ?_, ?_, ?_, ?_, ?_, ?_, ?_, ?_, ?_, ?_, trivial⟩ ?_
  · exact b_vx v0 rfl rfl (fun gm a W h => by have e3 : a.eval (.tmp 3) = .pointer (some ⟨w.heap.size + 1, 0, none⟩) := (h.slot 3 (by kernel_rfl)).trans rfl; simp only [execOp, e3]; first | (simp [go_sem, haq, hbq] <;> first | exact wrapIn | rfl) | kernel_rfl)
  · exact b_vx v1 rfl rfl (fun gm a W h => by have e13 := (h.vb 0 13).trans v0; obtain ⟨ki0, kq1, ki2, ki3, kx0', kx1', ky0', ky1'⟩ := HK W h.chg; simp only [execOp, e13]; first | (simp [go_sem, ki0, kq1, ki2, ki3, kx0', kx1', ky0', ky1', haq, hbq] <;> first | exact wrapIn | rfl) | kernel_rfl)
  · exact b_vx v2 rfl rfl (fun gm a W h => by have e5 : a.eval (.tmp 5) = .pointer (some ⟨w1.heap.size, 0, none⟩) := (h.slot 5 (by kernel_rfl)).trans rfl; simp only [execOp, e5]; first | (simp [go_sem, haq, hbq] <;> first | exact wrapIn | rfl) | kernel_rfl)
  · exact b_vx v3 rfl rfl (fun gm a W h => by have e15 := (h.vb 2 15).trans v2; obtain ⟨ki0, kq1, ki2, ki3, kx0', kx1', ky0', ky1'⟩ := HK W h.chg; simp only [execOp, e15]; first | (simp [go_sem, ki0, kq1, ki2, ki3, kx0', kx1', ky0', ky1', haq, hbq] <;> first | exact wrapIn | rfl) | kernel_rfl)
  · exact b_vx v4 rfl rfl (fun gm a W h => by have e3 : a.eval (.tmp 3) = .pointer (some ⟨w.heap.size + 1, 0, none⟩) := (h.slot 3 (by kernel_rfl)).trans rfl; simp only [execOp, e3]; first | (simp [go_sem, haq, hbq] <;> first | exact wrapIn | rfl) | kernel_rfl)
  · exact b_vx v5 rfl rfl (fun gm a W h => by have e17 := (h.vb 4 17).trans v4; obtain ⟨ki0, kq1, ki2, ki3, kx0', kx1', ky0', ky1'⟩ := HK W h.chg; simp only [execOp, e17]; first | (simp [go_sem, ki0, kq1, ki2, ki3, kx0', kx1', ky0', ky1', haq, hbq] <;> first | exact wrapIn | rfl) | kernel_rfl)
  · exact b_vx v6 rfl rfl (fun gm a W h => by have e16 := (h.vb 3 16).trans v3; have e18 := (h.vb 5 18).trans v5; simp only [execOp, e16, e18]; first | (simp [go_sem, haq, hbq] <;> first | exact wrapIn | rfl) | kernel_rfl)
  · exact b_vx v7 rfl rfl (fun gm a W h => by have e19 := (h.vb 6 19).trans v6; obtain ⟨ki0, kq1, ki2, ki3, kx0', kx1', ky0', ky1'⟩ := HK W h.chg; simp only [execOp, e19]; first | (simp [go_sem, ki0, kq1, ki2, ki3, kx0', kx1', ky0', ky1', haq, hbq] <;> first | exact wrapIn | rfl) | kernel_rfl)
  · exact b_vx v8 rfl rfl (fun gm a W h => by have e5 : a.eval (.tmp 5) = .pointer (some ⟨w1.heap.size, 0, none⟩) := (h.slot 5 (by kernel_rfl)).trans rfl; simp only [execOp, e5]; first | (simp [go_sem, haq, hbq] <;> first | exact wrapIn | rfl) | kernel_rfl)
  · exact b_vx v9 rfl rfl (fun gm a W h => by have e21 := (h.vb 8 21).trans v8; obtain ⟨ki0, kq1, ki2, ki3, kx0', kx1', ky0', ky1'⟩ := HK W h.chg; simp only [execOp, e21]; first | (simp [go_sem, ki0, kq1, ki2, ki3, kx0', kx1', ky0', ky1', haq, hbq] <;> first | exact wrapIn | rfl) | kernel_rfl)
  · exact b_vx v10 rfl rfl (fun gm a W h => by have e3 : a.eval (.tmp 3) = .pointer (some ⟨w.heap.size + 1, 0, none⟩) := (h.slot 3 (by kernel_rfl)).trans rfl; simp only [execOp, e3]; first | (simp [go_sem, haq, hbq] <;> first | exact wrapIn | rfl) | kernel_rfl)
  · exact b_vx v11 rfl rfl (fun gm a W h => by have e23 := (h.vb 10 23).trans v10; obtain ⟨ki0, kq1, ki2, ki3, kx0', kx1', ky0', ky1'⟩ := HK W h.chg; simp only [execOp, e23]; first | (simp [go_sem, ki0, kq1, ki2, ki3, kx0', kx1', ky0', ky1', haq, hbq] <;> first | exact wrapIn | rfl) | kernel_rfl)
  · exact b_vx v12 rfl rfl (fun gm a W h => by have e22 := (h.vb 9 22).trans v9; have e24 := (h.vb 11 24).trans v11; simp only [execOp, e22, e24]; first | (simp [go_sem, haq, hbq] <;> first | exact wrapIn | rfl) | kernel_rfl)
  · exact b_vx v13 rfl rfl (fun gm a W h => by have e25 := (h.vb 12 25).trans v12; obtain ⟨ki0, kq1, ki2, ki3, kx0', kx1', ky0', ky1'⟩ := HK W h.chg; simp only [execOp, e25]; first | (simp [go_sem, ki0, kq1, ki2, ki3, kx0', kx1', ky0', ky1', haq, hbq] <;> first | exact wrapIn | rfl) | kernel_rfl)
  · exact b_cx v14 rfl rfl (fun gm a W h => by
      have e14 := (h.vb 1 14).trans v1
      have e20 := (h.vb 7 20).trans v7
      have e26 := (h.vb 13 26).trans v13
      refine Eq.trans (b := .ok (.enter 146 #[a.eval (.tmp 14), a.eval (.tmp 20), a.eval (.tmp 26)]) W) (by kernel_rfl) ?_
      rw [e14, e20, e26]) (fun W => HI.out W)
  · exact b_vx v15 rfl rfl (fun gm a W h => by have e27 := (h.vb 14 27).trans v14; simp only [execOp, e27]; first | (simp [go_sem, haq, hbq] <;> first | exact wrapIn | rfl) | kernel_rfl)
  · exact b_vx v16 rfl rfl (fun gm a W h => by have e12 := (h.vb 15 12).trans v15; simp only [execOp, e12]; first | (simp [go_sem, haq, hbq] <;> first | exact wrapIn | rfl) | kernel_rfl)
  · exact b_vx v17 rfl rfl (fun gm a W h => by have e12 := (h.vb 15 12).trans v15; simp only [execOp, e12]; first | (simp [go_sem, haq, hbq] <;> first | exact wrapIn | rfl) | kernel_rfl)
  · exact b_alloc 0 _ rfl rfl rfl (by kernel_rfl) rfl (fun gm a W h => by kernel_rfl)
  · refine b_store 0 _ rfl rfl rfl v19 (fun j hj => by cases hj; exact ⟨6, ⟨⟨⟨18, .data⟩, by simp, rfl, by kernel_rfl⟩, by kernel_rfl⟩⟩) rfl (fun gm a W h hold hb => ?_)
    have e6 : a.eval (.tmp 6) = .pointer (some ⟨gm 0, 0, none⟩) := (h.vb 18 6).trans rfl
    have e28 := (h.vb 16 28).trans v16
    simp only at hb
    have hf := fun j => hb.frozen j
    have c0 := hb.cell 0
    have c1 := hb.cell 1
    refine ⟨_, by (simp only [execOp, e6, e28]; simp [go_sem, hf, c0, c1, haq, hbq]; try rfl), (hb.set_ 0 _).set_ 1 _, chgs2 _ _ _ _ _ _⟩
  · exact b_vx v20 rfl rfl (fun gm a W h => by have e29 := (h.vb 17 29).trans v17; simp only [execOp, e29]; first | (simp [go_sem, haq, hbq] <;> first | exact wrapIn | rfl) | kernel_rfl)
  intro gm vs w9 hc9 hb9 hold9 hge9 hv9
  have x0 := (hv9 0 13 (by kernel_rfl)).trans v0
  have x1 := (hv9 1 14 (by kernel_rfl)).trans v1
  have x2 := (hv9 2 15 (by kernel_rfl)).trans v2
  have x3 := (hv9 3 16 (by kernel_rfl)).trans v3
  have x4 := (hv9 4 17 (by kernel_rfl)).trans v4
  have x5 := (hv9 5 18 (by kernel_rfl)).trans v5
  have x6 := (hv9 6 19 (by kernel_rfl)).trans v6
  have x7 := (hv9 7 20 (by kernel_rfl)).trans v7
  have x8 := (hv9 8 21 (by kernel_rfl)).trans v8
  have x9 := (hv9 9 22 (by kernel_rfl)).trans v9
  have x10 := (hv9 10 23 (by kernel_rfl)).trans v10
  have x11 := (hv9 11 24 (by kernel_rfl)).trans v11
  have x12 := (hv9 12 25 (by kernel_rfl)).trans v12
  have x13 := (hv9 13 26 (by kernel_rfl)).trans v13
  have x14 := (hv9 14 27 (by kernel_rfl)).trans v14
  have x15 := (hv9 15 12 (by kernel_rfl)).trans v15
  have x16 := (hv9 16 28 (by kernel_rfl)).trans v16
  have x17 := (hv9 17 29 (by kernel_rfl)).trans v17
  have x18 : vs 18 = .pointer (some ⟨gm 0, 0, none⟩) := (hv9 18 6 (by kernel_rfl)).trans rfl
  have x20 := (hv9 20 7 (by kernel_rfl)).trans v20
  have y0 := hb9 0 _ rfl
  have g0 := hge9 0 _ 18 rfl rfl
  simp only at y0
  simp only [putAll, Act.put, List.setIfInBounds_toArray, List.set_cons_zero, List.set_cons_succ, Nat.zero_add, Nat.reduceAdd, x0, x1, x2, x3, x4, x5, x6, x7, x8, x9, x10, x11, x12, x13, x14, x15, x16, x17, x18, x20]
  clear hb9 hold9 hge9 hv9 x0 x1 x2 x3 x4 x5 x6 x7 x8 x9 x10 x11 x12 x13 x14 x15 x16 x17 x18 x20 v0 v1 v2 v3 v4 v5 v6 v7 v8 v9 v10 v11 v12 v13 v14 v15 v16 v17 v18 v19 v20 HK VV
  have G9 := chg_pre hc9 (by intro b hb; simp only [List.mem_cons, List.not_mem_nil, or_false] at hb; subst hb; simp)
  obtain ⟨g6, hg6⟩ : ∃ g, gm 0 = g := ⟨_, rfl⟩
  rw [hg6] at y0 g0 ⊢
  have HY6 := Lib.hid y0
  have HW9 := Lib.hid (grew_tr HG1.out (grew_tr GE.out G9))
  have HO9 := Lib.hid (HO1.out.grew (grew_tr GE.out G9))
  have HE9 := Lib.hid (HE5.out.grew G9)
  have HZ9 := Lib.hid (HZ1.out.grew (grew_tr GE.out G9))
  have i0 := (G9.cell (p := ⟨w.heap.size + 1, 0, none⟩) (World.block_lt_of_cell? _ _ i0)).trans i0
  have i1 := (G9.cell (p := ⟨w.heap.size + 1, 1, none⟩) (World.block_lt_of_cell? _ _ i1)).trans i1
  have i3 := (G9.cell (p := ⟨w.heap.size + 1, 3, none⟩) (World.block_lt_of_cell? _ _ i3)).trans i3
  have il := World.block_lt_of_cell? _ _ i0
  simp only at il
  have hsz9 := G9.size
  have n6 : g6 ≠ rb := by omega
  have n5 : w1.heap.size ≠ rb := by omega
  have n4 : w.heap.size + 1 + 1 ≠ rb := by omega
  have n3 : w.heap.size + 1 ≠ rb := by omega
  clear y0 hg6 hc9 G9 q1 i2 i4 i5 i6 i7 x0' x1' y0' y1' gm vs HO1 HE5 HZ1 HI
  cases m
  · have hon : O = none := by cases hh : O with | none => rfl | some p => have := HMo.out; rw [hh] at this; cases this
    subst hon
    have ZZ := HZ9.out
    have z0 := ZZ.cell 0
    have z1 := ZZ.cell 1
    have z2 := ZZ.cell 2
    have z3 := ZZ.cell 3
    have zl := ZZ.lt
    have zf := fun j => ZZ.frozen j
    simp only [List.getElem?_toArray, List.getElem?_cons_zero, List.getElem?_cons_succ] at z0 z1 z2 z3
    clear ZZ
    go_wp2
    refine bodyPost_ret (by simp [results, Tryz.results121, go_sem, z0, z1, z2, z3, zl]; try rfl) rfl ?_
    refine ⟨?_, 0, 0, rfl, fun z hz => by cases hz⟩
    repeat (first | with_reducible exact HW9.out | with_reducible refine grew_set ?_ (by first | omega | (simp only; omega)) _)
  · obtain ⟨r, hr⟩ : ∃ r, O = some r := by cases hh : O with | none => (have := HMo.out; rw [hh] at this; cases this) | some p => exact ⟨p, rfl⟩
    subst hr
    have er : r = ⟨rl, rh⟩ := HR.out
    subst er
    have E0 := HE9.out.cell 0
    have E1 := HE9.out.cell 1
    have E2 := HE9.out.cell 2
    have E3 := HE9.out.cell 3
    have r0 := HY6.out.cell 0
    have r1 := HY6.out.cell 1
    have El := HE9.out.lt
    have rl6 := HY6.out.lt
    simp only [List.getElem?_toArray, List.getElem?_cons_zero, List.getElem?_cons_succ] at E0 E1 E2 E3 r0 r1
    have HBSET := Lib.hid (fun W (h : OwnR W w.heap.size rb c xs) => specL7Set w.heap.size rb c xs lo hi (dj : Int) ⟨rl, rh⟩ W h HD.out)
    go_wp2_with fail
    refine (HBSET.out _ (HO9.out.mono (by simp only [World.size_alloc]; omega))).mono ?_
    rintro e w2 ⟨rfl, ho2, hc2⟩
    have ZZ := HZ9.out.chg hc2 n4
    have HO2 := Lib.hid ho2
    have HW2 := Lib.hid (Below.trans HW9.out (hc2.belowB HW9.out.size (fun k hk => by subst hk; omega)))
    clear E0 E1 E2 E3 i0 i1 i3
    have z0 := ZZ.cell 0
    have z1 := ZZ.cell 1
    have z2 := ZZ.cell 2
    have z3 := ZZ.cell 3
    have zl := ZZ.lt
    have zf := fun j => ZZ.frozen j
    simp only [List.getElem?_toArray, List.getElem?_cons_zero, List.getElem?_cons_succ] at z0 z1 z2 z3
    clear ZZ ho2 hc2 r0 r1
    go_wp2
    refine bodyPost_ret (by simp [results, Tryz.results121, go_sem, z0, z1, z2, z3, zl]; try rfl) rfl ?_
    refine ⟨?_, rb, c, rfl, fun z hz => ?_⟩
    · repeat (first | with_reducible exact HW2.out | with_reducible refine grew_set ?_ (by first | omega | (simp only; omega)) _)
    · cases hz
      refine OwnR.chg (F := fun b => b = w.heap.size + 1 + 1) HO2.out ?_ (fun e => n4 e.symm)
      repeat (first | with_reducible exact Chg.refl _ _ | with_reducible refine Chg.alw (F := fun b => b = w.heap.size + 1 + 1) ?_ rfl _)
set_option maxRecDepth 100000 in
set_option maxHeartbeats 8000000 in
theorem specL7Do2 (ps : List Prc) (ss : List Sum) (xa : Option Addr) (xc : Nat) (xs : List Itv) (lo hi : Int) (d a b rel ilo ihi to : Int) (w : World) (hx : RdL EItv 2 w xa 4 xs) (hs : stOkB true xs lo hi = true) (hd : varB d = true) (ha : varB a = true) (hb : varB b = true) :
    Calls Tryz.prog 121 #[.agg #[.bool true, .slice xa 4 xc, .int .i64 lo, .int .i64 hi], Ins.v ⟨2, d, a, b, rel, ilo, ihi, to⟩] w (RetO (actI ps ss ⟨2, d, a, b, rel, ilo, ihi, to⟩ xs ⟨lo, hi⟩) w) := by
  have HS := Lib.hid hs
  have HD := Lib.hid hd
  have HB := Lib.hid hb
  obtain ⟨aj, rfl, hja, hxa⟩ := nthI_get hx.len ha
  obtain ⟨bj, rfl, hjb, hxb⟩ := nthI_get hx.len hb
  obtain ⟨dj, rfl, hjd, hxd⟩ := nthI_get hx.len hd
  have hoa := nthI_ok hs ha
  have hob := nthI_ok hs hb
  have HV0 : Hid (actI ps ss ⟨2, (dj : Int), (aj : Int), (bj : Int), rel, ilo, ihi, to⟩ xs ⟨lo, hi⟩ = (doI 2 (nthI xs aj) (nthI xs bj)).map fun r => ((setI xs dj r), (⟨lo, hi⟩ : Itv))) := Lib.hid (by simp [actI])
  rw [HV0.out]
  have HI := Lib.hid (fun W => specItvDo 2 (nthI xs aj) (nthI xs bj) W (by omega) hoa hob)
  rw [optV_eq] at HI
  obtain ⟨⟨al, ah⟩, hXa⟩ : ∃ x, nthI xs aj = x := ⟨_, rfl⟩
  obtain ⟨⟨bl, bh⟩, hXb⟩ : ∃ x, nthI xs bj = x := ⟨_, rfl⟩
  rw [hXa] at HI hxa hoa
  rw [hXb] at HI hxb hob
  rw [hXa, hXb]
  have HXA := Lib.hid hxa
  have HXB := Lib.hid hxb
  have HOB := Lib.hid (itvB_iff.1 hob)
  obtain ⟨O, hO⟩ : ∃ o, doI 2 ⟨al, ah⟩ ⟨bl, bh⟩ = o := ⟨_, rfl⟩
  rw [hO] at HI ⊢
  have HOO := Lib.hid hO
  obtain ⟨⟨rl, rh⟩, hr⟩ : ∃ m, O.getD ⟨0, 0⟩ = m := ⟨_, rfl⟩
  obtain ⟨m, hm⟩ : ∃ x, O.isSome = x := ⟨_, rfl⟩
  rw [hr, hm] at HI
  have HR := Lib.hid hr
  have HMo := Lib.hid hm
  have HX := Lib.hid hx
  clear HV0 hXa hXb hxa hxb hxd hoa hob hx hs hd ha hb hO hr hm
  have haq : ¬ (4 : Int) ≤ (aj : Int) := by omega
  have hbq : ¬ (4 : Int) ≤ (bj : Int) := by omega
  go_enter Tryz.func121, Tryz.ntmps121
  go_wp2_with fail
  refine (specL7Copy xa xc xs lo hi _ (HX.out.grew staysItv (gr))).mono ?_
  rintro e w1 ⟨rb, c, rfl, hor, g1⟩
  have i0 : w1.cell? ⟨w.heap.size + 1, 0, none⟩ = some (.int .i64 (2 : Int)) := (g1.cell (p := ⟨w.heap.size + 1, 0, none⟩) (by simp only [World.size_alloc]; omega)).trans (by simp [go_sem])
  have i1 : w1.cell? ⟨w.heap.size + 1, 1, none⟩ = some (.int .i64 (dj : Int)) := (g1.cell (p := ⟨w.heap.size + 1, 1, none⟩) (by simp only [World.size_alloc]; omega)).trans (by simp [go_sem])
  have i2 : w1.cell? ⟨w.heap.size + 1, 2, none⟩ = some (.int .i64 (aj : Int)) := (g1.cell (p := ⟨w.heap.size + 1, 2, none⟩) (by simp only [World.size_alloc]; omega)).trans (by simp [go_sem])
  have i3 : w1.cell? ⟨w.heap.size + 1, 3, none⟩ = some (.int .i64 (bj : Int)) := (g1.cell (p := ⟨w.heap.size + 1, 3, none⟩) (by simp only [World.size_alloc]; omega)).trans (by simp [go_sem])
  have i4 : w1.cell? ⟨w.heap.size + 1, 4, none⟩ = some (.int .i64 rel) := (g1.cell (p := ⟨w.heap.size + 1, 4, none⟩) (by simp only [World.size_alloc]; omega)).trans (by simp [go_sem])
  have i5 : w1.cell? ⟨w.heap.size + 1, 5, none⟩ = some (.int .i64 ilo) := (g1.cell (p := ⟨w.heap.size + 1, 5, none⟩) (by simp only [World.size_alloc]; omega)).trans (by simp [go_sem])
  have i6 : w1.cell? ⟨w.heap.size + 1, 6, none⟩ = some (.int .i64 ihi) := (g1.cell (p := ⟨w.heap.size + 1, 6, none⟩) (by simp only [World.size_alloc]; omega)).trans (by simp [go_sem])
  have i7 : w1.cell? ⟨w.heap.size + 1, 7, none⟩ = some (.int .i64 to) := (g1.cell (p := ⟨w.heap.size + 1, 7, none⟩) (by simp only [World.size_alloc]; omega)).trans (by simp [go_sem])
  have Z4 : Blk w1 (w.heap.size + 1 + 1) 33 #[.bool false, .slice none 0 0, .int .i64 0, .int .i64 0] := (show Blk (((w.alloc (.cells #[.bool true, .slice xa 4 xc, .int .i64 lo, .int .i64 hi] 33)).alloc (.cells #[.int .i64 (2 : Int), .int .i64 (dj : Int), .int .i64 (aj : Int), .int .i64 (bj : Int), .int .i64 rel, .int .i64 ilo, .int .i64 ihi, .int .i64 to] 28)).alloc (.cells #[.bool false, .slice none 0 0, .int .i64 0, .int .i64 0] 33)) (w.heap.size + 1 + 1) 33 #[.bool false, .slice none 0 0, .int .i64 0, .int .i64 0] from Blk.new' (by simp only [World.size_alloc])).grew g1
  have HG1 := Lib.hid (show Grew w w1 from grew_tr (gr) g1)
  have HO1 := Lib.hid hor
  have HZ1 := Lib.hid Z4
  have hb1 := hor.2.1
  simp only [World.size_alloc] at hb1
  have hb2 := hor.lt
  clear hor g1 Z4 HX
  go_upto_region 2 with fail
  refine wp_letH ?_
  intro E hE
  have GE := Lib.hid (show Grew w1 E from by rw [hE]; exact gr)
  have i0 := (GE.out.cell (p := ⟨w.heap.size + 1, 0, none⟩) (World.block_lt_of_cell? _ _ i0)).trans i0
  have i1 := (GE.out.cell (p := ⟨w.heap.size + 1, 1, none⟩) (World.block_lt_of_cell? _ _ i1)).trans i1
  have i2 := (GE.out.cell (p := ⟨w.heap.size + 1, 2, none⟩) (World.block_lt_of_cell? _ _ i2)).trans i2
  have i3 := (GE.out.cell (p := ⟨w.heap.size + 1, 3, none⟩) (World.block_lt_of_cell? _ _ i3)).trans i3
  have i4 := (GE.out.cell (p := ⟨w.heap.size + 1, 4, none⟩) (World.block_lt_of_cell? _ _ i4)).trans i4
  have i5 := (GE.out.cell (p := ⟨w.heap.size + 1, 5, none⟩) (World.block_lt_of_cell? _ _ i5)).trans i5
  have i6 := (GE.out.cell (p := ⟨w.heap.size + 1, 6, none⟩) (World.block_lt_of_cell? _ _ i6)).trans i6
  have i7 := (GE.out.cell (p := ⟨w.heap.size + 1, 7, none⟩) (World.block_lt_of_cell? _ _ i7)).trans i7
  have q1 : E.cell? ⟨w1.heap.size, 1, none⟩ = some (.slice (some ⟨rb, 0, none⟩) 4 c) := by rw [hE]; simp [go_sem]
  have hE5 : Blk E w1.heap.size 33 #[.bool true, .slice (some ⟨rb, 0, none⟩) 4 c, .int .i64 lo, .int .i64 hi] := by rw [hE]; exact Blk.new' rfl
  have HE5 := Lib.hid hE5
  obtain ⟨x0', x1'⟩ := (HO1.out.grew GE.out).cell hja HXA.out
  obtain ⟨y0', y1'⟩ := (HO1.out.grew GE.out).cell hjb HXB.out
  simp only at x0' x1' y0' y1'
  have hszE : E.heap.size = w1.heap.size + 1 := by rw [hE]; simp only [World.size_alloc]
  clear hE hE5
  obtain ⟨VV, v0, v1, v2, v3, v4, v5, v6, v7, v8, v9, v10, v11, v12, v13, v14, v15, v16, v17, v18, v19, v20, -⟩ := vl [.pointer (some ⟨w.heap.size + 1, 0, none⟩), .int .i64 ((2 : Int)), .pointer (some ⟨w1.heap.size, 1, none⟩), .slice (some ⟨rb, 0, none⟩) 4 c, .pointer (some ⟨w.heap.size + 1, 2, none⟩), .int .i64 ((aj : Int)), .pointer (some ⟨rb, aj * 2, none⟩), .agg #[.int .i64 al, .int .i64 ah], .pointer (some ⟨w1.heap.size, 1, none⟩), .slice (some ⟨rb, 0, none⟩) 4 c, .pointer (some ⟨w.heap.size + 1, 3, none⟩), .int .i64 ((bj : Int)), .pointer (some ⟨rb, bj * 2, none⟩), .agg #[.int .i64 bl, .int .i64 bh], .tuple #[.agg #[.int .i64 rl, .int .i64 rh], .bool m], .tuple #[.agg #[.int .i64 rl, .int .i64 rh], .bool m], .agg #[.int .i64 rl, .int .i64 rh], .bool m, undef, undef, .bool m]
  have HK := fun W (c : Chg (preB [⟨some 18, 0, 19, 31, #[.int .i64 0, .int .i64 0], #[.int .i64 rl, .int .i64 rh]⟩]) _ W) => And.intro (ck c i0) (And.intro (ck c q1) (And.intro (ck c i2) (And.intro (ck c i3) (And.intro (ck c x0') (And.intro (ck c x1') (And.intro (ck c y0') (ck c y1')))))))
  refine region_box 56 [⟨some 18, 0, 19, 31, #[.int .i64 0, .int .i64 0], #[.int .i64 rl, .int .i64 rh]⟩] VV (by kernel_rfl) rfl (by kernel_rfl) rfl (by intro b hb ha; simp only [List.mem_cons, List.not_mem_nil, or_false] at hb; rcases hb with rfl <;> first | (cases ha; done) | assumption) (by intro j k b c hjk hj hk hb hc; rcases j with _ | _ | j <;> rcases k with _ | _ | k <;> simp at hj hk hjk <;> (try subst hj) <;> (try subst hk) <;> first | (cases hb; done) | (cases hc; done) | (simp only; omega)) ⟨?_, ?_, ?_, ?_, ?_, ?_, ?_, ?_, ?_, ?_, ?_, ?_, ?_, ?_, ?_, ?_, ?_, ?_, ?_, ?_, ?_, trivial⟩ ?_
  · exact b_vx v0 rfl rfl (fun gm a W h => by have e3 : a.eval (.tmp 3) = .pointer (some ⟨w.heap.size + 1, 0, none⟩) := (h.slot 3 (by kernel_rfl)).trans rfl; simp only [execOp, e3]; first | (simp [go_sem, haq, hbq] <;> first | exact wrapIn | rfl) | kernel_rfl)
  · exact b_vx v1 rfl rfl (fun gm a W h => by have e13 := (h.vb 0 13).trans v0; obtain ⟨ki0, kq1, ki2, ki3, kx0', kx1', ky0', ky1'⟩ := HK W h.chg; simp only [execOp, e13]; first | (simp [go_sem, ki0, kq1, ki2, ki3, kx0', kx1', ky0', ky1', haq, hbq] <;> first | exact wrapIn | rfl) | kernel_rfl)
  · exact b_vx v2 rfl rfl (fun gm a W h => by have e5 : a.eval (.tmp 5) = .pointer (some ⟨w1.heap.size, 0, none⟩) := (h.slot 5 (by kernel_rfl)).trans rfl; simp only [execOp, e5]; first | (simp [go_sem, haq, hbq] <;> first | exact wrapIn | rfl) | kernel_rfl)
  · exact b_vx v3 rfl rfl (fun gm a W h => by have e15 := (h.vb 2 15).trans v2; obtain ⟨ki0, kq1, ki2, ki3, kx0', kx1', ky0', ky1'⟩ := HK W h.chg; simp only [execOp, e15]; first | (simp [go_sem, ki0, kq1, ki2, ki3, kx0', kx1', ky0', ky1', haq, hbq] <;> first | exact wrapIn | rfl) | kernel_rfl)
  · exact b_vx v4 rfl rfl (fun gm a W h => by have e3 : a.eval (.tmp 3) = .pointer (some ⟨w.heap.size + 1, 0, none⟩) := (h.slot 3 (by kernel_rfl)).trans rfl; simp only [execOp, e3]; first | (simp [go_sem, haq, hbq] <;> first | exact wrapIn | rfl) | kernel_rfl)
  · exact b_vx v5 rfl rfl (fun gm a W h => by have e17 := (h.vb 4 17).trans v4; obtain ⟨ki0, kq1, ki2, ki3, kx0', kx1', ky0', ky1'⟩ := HK W h.chg; simp only [execOp, e17]; first | (simp [go_sem, ki0, kq1, ki2, ki3, kx0', kx1', ky0', ky1', haq, hbq] <;> first | exact wrapIn | rfl) | kernel_rfl)
  · exact b_vx v6 rfl rfl (fun gm a W h => by have e16 := (h.vb 3 16).trans v3; have e18 := (h.vb 5 18).trans v5; simp only [execOp, e16, e18]; first | (simp [go_sem, haq, hbq] <;> first | exact wrapIn | rfl) | kernel_rfl)
  · exact b_vx v7 rfl rfl (fun gm a W h => by have e19 := (h.vb 6 19).trans v6; obtain ⟨ki0, kq1, ki2, ki3, kx0', kx1', ky0', ky1'⟩ := HK W h.chg; simp only [execOp, e19]; first | (simp [go_sem, ki0, kq1, ki2, ki3, kx0', kx1', ky0', ky1', haq, hbq] <;> first | exact wrapIn | rfl) | kernel_rfl)
  · exact b_vx v8 rfl rfl (fun gm a W h => by have e5 : a.eval (.tmp 5) = .pointer (some ⟨w1.heap.size, 0, none⟩) := (h.slot 5 (by kernel_rfl)).trans rfl; simp only [execOp, e5]; first | (simp [go_sem, haq, hbq] <;> first | exact wrapIn | rfl) | kernel_rfl)
  · exact b_vx v9 rfl rfl (fun gm a W h => by have e21 := (h.vb 8 21).trans v8; obtain ⟨ki0, kq1, ki2, ki3, kx0', kx1', ky0', ky1'⟩ := HK W h.chg; simp only [execOp, e21]; first | (simp [go_sem, ki0, kq1, ki2, ki3, kx0', kx1', ky0', ky1', haq, hbq] <;> first | exact wrapIn | rfl) | kernel_rfl)
  · exact b_vx v10 rfl rfl (fun gm a W h => by have e3 : a.eval (.tmp 3) = .pointer (some ⟨w.heap.size + 1, 0, none⟩) := (h.slot 3 (by kernel_rfl)).trans rfl; simp only [execOp, e3]; first | (simp [go_sem, haq, hbq] <;> first | exact wrapIn | rfl) | kernel_rfl)
  · exact b_vx v11 rfl rfl (fun gm a W h => by have e23 := (h.vb 10 23).trans v10; obtain ⟨ki0, kq1, ki2, ki3, kx0', kx1', ky0', ky1'⟩ := HK W h.chg; simp only [execOp, e23]; first | (simp [go_sem, ki0, kq1, ki2, ki3, kx0', kx1', ky0', ky1', haq, hbq] <;> first | exact wrapIn | rfl) | kernel_rfl)
  · exact b_vx v12 rfl rfl (fun gm a W h => by have e22 := (h.vb 9 22).trans v9; have e24 := (h.vb 11 24).trans v11; simp only [execOp, e22, e24]; first | (simp [go_sem, haq, hbq] <;> first | exact wrapIn | rfl) | kernel_rfl)
  · exact b_vx v13 rfl rfl (fun gm a W h => by have e25 := (h.vb 12 25).trans v12; obtain ⟨ki0, kq1, ki2, ki3, kx0', kx1', ky0', ky1'⟩ := HK W h.chg; simp only [execOp, e25]; first | (simp [go_sem, ki0, kq1, ki2, ki3, kx0', kx1', ky0', ky1', haq, hbq] <;> first | exact wrapIn | rfl) | kernel_rfl)
  · exact b_cx v14 rfl rfl (fun gm a W h => by
      have e14 := (h.vb 1 14).trans v1
      have e20 := (h.vb 7 20).trans v7
      have e26 := (h.vb 13 26).trans v13
      refine Eq.trans (b := .ok (.enter 146 #[a.eval (.tmp 14), a.eval (.tmp 20), a.eval (.tmp 26)]) W) (by kernel_rfl) ?_
      rw [e14, e20, e26]) (fun W => HI.out W)
  · exact b_vx v15 rfl rfl (fun gm a W h => by have e27 := (h.vb 14 27).trans v14; simp only [execOp, e27]; first | (simp [go_sem, haq, hbq] <;> first | exact wrapIn | rfl) | kernel_rfl)
  · exact b_vx v16 rfl rfl (fun gm a W h => by have e12 := (h.vb 15 12).trans v15; simp only [execOp, e12]; first | (simp [go_sem, haq, hbq] <;> first | exact wrapIn | rfl) | kernel_rfl)
  · exact b_vx v17 rfl rfl (fun gm a W h => by have e12 := (h.vb 15 12).trans v15; simp only [execOp, e12]; first | (simp [go_sem, haq, hbq] <;> first | exact wrapIn | rfl) | kernel_rfl)
  · exact b_alloc 0 _ rfl rfl rfl (by kernel_rfl) rfl (fun gm a W h => by kernel_rfl)
  · refine b_store 0 _ rfl rfl rfl v19 (fun j hj => by cases hj; exact ⟨6, ⟨⟨⟨18, .data⟩, by simp, rfl, by kernel_rfl⟩, by kernel_rfl⟩⟩) rfl (fun gm a W h hold hb => ?_)
    have e6 : a.eval (.tmp 6) = .pointer (some ⟨gm 0, 0, none⟩) := (h.vb 18 6).trans rfl
    have e28 := (h.vb 16 28).trans v16
    simp only at hb
    have hf := fun j => hb.frozen j
    have c0 := hb.cell 0
    have c1 := hb.cell 1
    refine ⟨_, by (simp only [execOp, e6, e28]; simp [go_sem, hf, c0, c1, haq, hbq]; try rfl), (hb.set_ 0 _).set_ 1 _, chgs2 _ _ _ _ _ _⟩
  · exact b_vx v20 rfl rfl (fun gm a W h => by have e29 := (h.vb 17 29).trans v17; simp only [execOp, e29]; first | (simp [go_sem, haq, hbq] <;> first | exact wrapIn | rfl) | kernel_rfl)
  intro gm vs w9 hc9 hb9 hold9 hge9 hv9
  have x0 := (hv9 0 13 (by kernel_rfl)).trans v0
  have x1 := (hv9 1 14 (by kernel_rfl)).trans v1
  have x2 := (hv9 2 15 (by kernel_rfl)).trans v2
  have x3 := (hv9 3 16 (by kernel_rfl)).trans v3
  have x4 := (hv9 4 17 (by kernel_rfl)).trans v4
  have x5 := (hv9 5 18 (by kernel_rfl)).trans v5
  have x6 := (hv9 6 19 (by kernel_rfl)).trans v6
  have x7 := (hv9 7 20 (by kernel_rfl)).trans v7
  have x8 := (hv9 8 21 (by kernel_rfl)).trans v8
  have x9 := (hv9 9 22 (by kernel_rfl)).trans v9
  have x10 := (hv9 10 23 (by kernel_rfl)).trans v10
  have x11 := (hv9 11 24 (by kernel_rfl)).trans v11
  have x12 := (hv9 12 25 (by kernel_rfl)).trans v12
  have x13 := (hv9 13 26 (by kernel_rfl)).trans v13
  have x14 := (hv9 14 27 (by kernel_rfl)).trans v14
  have x15 := (hv9 15 12 (by kernel_rfl)).trans v15
  have x16 := (hv9 16 28 (by kernel_rfl)).trans v16
  have x17 := (hv9 17 29 (by kernel_rfl)).trans v17
  have x18 : vs 18 = .pointer (some ⟨gm 0, 0, none⟩) := (hv9 18 6 (by kernel_rfl)).trans rfl
  have x20 := (hv9 20 7 (by kernel_rfl)).trans v20
  have y0 := hb9 0 _ rfl
  have g0 := hge9 0 _ 18 rfl rfl
  simp only at y0
  simp only [putAll, Act.put, List.setIfInBounds_toArray, List.set_cons_zero, List.set_cons_succ, Nat.zero_add, Nat.reduceAdd, x0, x1, x2, x3, x4, x5, x6, x7, x8, x9, x10, x11, x12, x13, x14, x15, x16, x17, x18, x20]
  clear hb9 hold9 hge9 hv9 x0 x1 x2 x3 x4 x5 x6 x7 x8 x9 x10 x11 x12 x13 x14 x15 x16 x17 x18 x20 v0 v1 v2 v3 v4 v5 v6 v7 v8 v9 v10 v11 v12 v13 v14 v15 v16 v17 v18 v19 v20 HK VV
  have G9 := chg_pre hc9 (by intro b hb; simp only [List.mem_cons, List.not_mem_nil, or_false] at hb; subst hb; simp)
  obtain ⟨g6, hg6⟩ : ∃ g, gm 0 = g := ⟨_, rfl⟩
  rw [hg6] at y0 g0 ⊢
  have HY6 := Lib.hid y0
  have HW9 := Lib.hid (grew_tr HG1.out (grew_tr GE.out G9))
  have HO9 := Lib.hid (HO1.out.grew (grew_tr GE.out G9))
  have HE9 := Lib.hid (HE5.out.grew G9)
  have HZ9 := Lib.hid (HZ1.out.grew (grew_tr GE.out G9))
  have i0 := (G9.cell (p := ⟨w.heap.size + 1, 0, none⟩) (World.block_lt_of_cell? _ _ i0)).trans i0
  have i1 := (G9.cell (p := ⟨w.heap.size + 1, 1, none⟩) (World.block_lt_of_cell? _ _ i1)).trans i1
  have i3 := (G9.cell (p := ⟨w.heap.size + 1, 3, none⟩) (World.block_lt_of_cell? _ _ i3)).trans i3
  have il := World.block_lt_of_cell? _ _ i0
  simp only at il
  have hsz9 := G9.size
  have n6 : g6 ≠ rb := by omega
  have n5 : w1.heap.size ≠ rb := by omega
  have n4 : w.heap.size + 1 + 1 ≠ rb := by omega
  have n3 : w.heap.size + 1 ≠ rb := by omega
  clear y0 hg6 hc9 G9 q1 i2 i4 i5 i6 i7 x0' x1' y0' y1' gm vs HO1 HE5 HZ1 HI
  cases m
  · have hon : O = none := by cases hh : O with | none => rfl | some p => have := HMo.out; rw [hh] at this; cases this
    subst hon
    have ZZ := HZ9.out
    have z0 := ZZ.cell 0
    have z1 := ZZ.cell 1
    have z2 := ZZ.cell 2
    have z3 := ZZ.cell 3
    have zl := ZZ.lt
    have zf := fun j => ZZ.frozen j
    simp only [List.getElem?_toArray, List.getElem?_cons_zero, List.getElem?_cons_succ] at z0 z1 z2 z3
    clear ZZ
    go_wp2
    refine bodyPost_ret (by simp [results, Tryz.results121, go_sem, z0, z1, z2, z3, zl]; try rfl) rfl ?_
    refine ⟨?_, 0, 0, rfl, fun z hz => by cases hz⟩
    repeat (first | with_reducible exact HW9.out | with_reducible refine grew_set ?_ (by first | omega | (simp only; omega)) _)
  · obtain ⟨r, hr⟩ : ∃ r, O = some r := by cases hh : O with | none => (have := HMo.out; rw [hh] at this; cases this) | some p => exact ⟨p, rfl⟩
    subst hr
    have er : r = ⟨rl, rh⟩ := HR.out
    subst er
    have E0 := HE9.out.cell 0
    have E1 := HE9.out.cell 1
    have E2 := HE9.out.cell 2
    have E3 := HE9.out.cell 3
    have r0 := HY6.out.cell 0
    have r1 := HY6.out.cell 1
    have El := HE9.out.lt
    have rl6 := HY6.out.lt
    simp only [List.getElem?_toArray, List.getElem?_cons_zero, List.getElem?_cons_succ] at E0 E1 E2 E3 r0 r1
    have HBSET := Lib.hid (fun W (h : OwnR W w.heap.size rb c xs) => specL7Set w.heap.size rb c xs lo hi (dj : Int) ⟨rl, rh⟩ W h HD.out)
    go_wp2_with fail
    refine (HBSET.out _ (HO9.out.mono (by simp only [World.size_alloc]; omega))).mono ?_
    rintro e w2 ⟨rfl, ho2, hc2⟩
    have ZZ := HZ9.out.chg hc2 n4
    have HO2 := Lib.hid ho2
    have HW2 := Lib.hid (Below.trans HW9.out (hc2.belowB HW9.out.size (fun k hk => by subst hk; omega)))
    clear E0 E1 E2 E3 i0 i1 i3
    have z0 := ZZ.cell 0
    have z1 := ZZ.cell 1
    have z2 := ZZ.cell 2
    have z3 := ZZ.cell 3
    have zl := ZZ.lt
    have zf := fun j => ZZ.frozen j
    simp only [List.getElem?_toArray, List.getElem?_cons_zero, List.getElem?_cons_succ] at z0 z1 z2 z3
    clear ZZ ho2 hc2 r0 r1
    go_wp2
    refine bodyPost_ret (by simp [results, Tryz.results121, go_sem, z0, z1, z2, z3, zl]; try rfl) rfl ?_
    refine ⟨?_, rb, c, rfl, fun z hz => ?_⟩
    · repeat (first | with_reducible exact HW2.out | with_reducible refine grew_set ?_ (by first | omega | (simp only; omega)) _)
    · cases hz
      refine OwnR.chg (F := fun b => b = w.heap.size + 1 + 1) HO2.out ?_ (fun e => n4 e.symm)
      repeat (first | with_reducible exact Chg.refl _ _ | with_reducible refine Chg.alw (F := fun b => b = w.heap.size + 1 + 1) ?_ rfl _)
set_option maxRecDepth 100000 in
set_option maxHeartbeats 8000000 in
theorem specL7Do3 (ps : List Prc) (ss : List Sum) (xa : Option Addr) (xc : Nat) (xs : List Itv) (lo hi : Int) (d a b rel ilo ihi to : Int) (w : World) (hx : RdL EItv 2 w xa 4 xs) (hs : stOkB true xs lo hi = true) (hd : varB d = true) (ha : varB a = true) (hb : varB b = true) :
    Calls Tryz.prog 121 #[.agg #[.bool true, .slice xa 4 xc, .int .i64 lo, .int .i64 hi], Ins.v ⟨3, d, a, b, rel, ilo, ihi, to⟩] w (RetO (actI ps ss ⟨3, d, a, b, rel, ilo, ihi, to⟩ xs ⟨lo, hi⟩) w) := by
  have HS := Lib.hid hs
  have HD := Lib.hid hd
  have HB := Lib.hid hb
  obtain ⟨aj, rfl, hja, hxa⟩ := nthI_get hx.len ha
  obtain ⟨bj, rfl, hjb, hxb⟩ := nthI_get hx.len hb
  obtain ⟨dj, rfl, hjd, hxd⟩ := nthI_get hx.len hd
  have hoa := nthI_ok hs ha
  have hob := nthI_ok hs hb
  have HV0 : Hid (actI ps ss ⟨3, (dj : Int), (aj : Int), (bj : Int), rel, ilo, ihi, to⟩ xs ⟨lo, hi⟩ = (doI 3 (nthI xs aj) (nthI xs bj)).map fun r => ((setI xs dj r), (⟨lo, hi⟩ : Itv))) := Lib.hid (by simp [actI])
  rw [HV0.out]
  have HI := Lib.hid (fun W => specItvDo 3 (nthI xs aj) (nthI xs bj) W (by omega) hoa hob)
  rw [optV_eq] at HI
  obtain ⟨⟨al, ah⟩, hXa⟩ : ∃ x, nthI xs aj = x := ⟨_, rfl⟩
  obtain ⟨⟨bl, bh⟩, hXb⟩ : ∃ x, nthI xs bj = x := ⟨_, rfl⟩
  rw [hXa] at HI hxa hoa
  rw [hXb] at HI hxb hob
  rw [hXa, hXb]
  have HXA := Lib.hid hxa
  have HXB := Lib.hid hxb
  have HOB := Lib.hid (itvB_iff.1 hob)
  obtain ⟨O, hO⟩ : ∃ o, doI 3 ⟨al, ah⟩ ⟨bl, bh⟩ = o := ⟨_, rfl⟩
  rw [hO] at HI ⊢
  have HOO := Lib.hid hO
  obtain ⟨⟨rl, rh⟩, hr⟩ : ∃ m, O.getD ⟨0, 0⟩ = m := ⟨_, rfl⟩
  obtain ⟨m, hm⟩ : ∃ x, O.isSome = x := ⟨_, rfl⟩
  rw [hr, hm] at HI
  have HR := Lib.hid hr
  have HMo := Lib.hid hm
  have HX := Lib.hid hx
  clear HV0 hXa hXb hxa hxb hxd hoa hob hx hs hd ha hb hO hr hm
  have haq : ¬ (4 : Int) ≤ (aj : Int) := by omega
  have hbq : ¬ (4 : Int) ≤ (bj : Int) := by omega
  go_enter Tryz.func121, Tryz.ntmps121
  go_wp2_with fail
  refine (specL7Copy xa xc xs lo hi _ (HX.out.grew staysItv (gr))).mono ?_
  rintro e w1 ⟨rb, c, rfl, hor, g1⟩
  have i0 : w1.cell? ⟨w.heap.size + 1, 0, none⟩ = some (.int .i64 (3 : Int)) := (g1.cell (p := ⟨w.heap.size + 1, 0, none⟩) (by simp only [World.size_alloc]; omega)).trans (by simp [go_sem])
  have i1 : w1.cell? ⟨w.heap.size + 1, 1, none⟩ = some (.int .i64 (dj : Int)) := (g1.cell (p := ⟨w.heap.size + 1, 1, none⟩) (by simp only [World.size_alloc]; omega)).trans (by simp [go_sem])
  have i2 : w1.cell? ⟨w.heap.size + 1, 2, none⟩ = some (.int .i64 (aj : Int)) := (g1.cell (p := ⟨w.heap.size + 1, 2, none⟩) (by simp only [World.size_alloc]; omega)).trans (by simp [go_sem])
  have i3 : w1.cell? ⟨w.heap.size + 1, 3, none⟩ = some (.int .i64 (bj : Int)) := (g1.cell (p := ⟨w.heap.size + 1, 3, none⟩) (by simp only [World.size_alloc]; omega)).trans (by simp [go_sem])
  have i4 : w1.cell? ⟨w.heap.size + 1, 4, none⟩ = some (.int .i64 rel) := (g1.cell (p := ⟨w.heap.size + 1, 4, none⟩) (by simp only [World.size_alloc]; omega)).trans (by simp [go_sem])
  have i5 : w1.cell? ⟨w.heap.size + 1, 5, none⟩ = some (.int .i64 ilo) := (g1.cell (p := ⟨w.heap.size + 1, 5, none⟩) (by simp only [World.size_alloc]; omega)).trans (by simp [go_sem])
  have i6 : w1.cell? ⟨w.heap.size + 1, 6, none⟩ = some (.int .i64 ihi) := (g1.cell (p := ⟨w.heap.size + 1, 6, none⟩) (by simp only [World.size_alloc]; omega)).trans (by simp [go_sem])
  have i7 : w1.cell? ⟨w.heap.size + 1, 7, none⟩ = some (.int .i64 to) := (g1.cell (p := ⟨w.heap.size + 1, 7, none⟩) (by simp only [World.size_alloc]; omega)).trans (by simp [go_sem])
  have Z4 : Blk w1 (w.heap.size + 1 + 1) 33 #[.bool false, .slice none 0 0, .int .i64 0, .int .i64 0] := (show Blk (((w.alloc (.cells #[.bool true, .slice xa 4 xc, .int .i64 lo, .int .i64 hi] 33)).alloc (.cells #[.int .i64 (3 : Int), .int .i64 (dj : Int), .int .i64 (aj : Int), .int .i64 (bj : Int), .int .i64 rel, .int .i64 ilo, .int .i64 ihi, .int .i64 to] 28)).alloc (.cells #[.bool false, .slice none 0 0, .int .i64 0, .int .i64 0] 33)) (w.heap.size + 1 + 1) 33 #[.bool false, .slice none 0 0, .int .i64 0, .int .i64 0] from Blk.new' (by simp only [World.size_alloc])).grew g1
  have HG1 := Lib.hid (show Grew w w1 from grew_tr (gr) g1)
  have HO1 := Lib.hid hor
  have HZ1 := Lib.hid Z4
  have hb1 := hor.2.1
  simp only [World.size_alloc] at hb1
  have hb2 := hor.lt
  clear hor g1 Z4 HX
  go_upto_region 2 with fail
  refine wp_letH ?_
  intro E hE
  have GE := Lib.hid (show Grew w1 E from by rw [hE]; exact gr)
  have i0 := (GE.out.cell (p := ⟨w.heap.size + 1, 0, none⟩) (World.block_lt_of_cell? _ _ i0)).trans i0
  have i1 := (GE.out.cell (p := ⟨w.heap.size + 1, 1, none⟩) (World.block_lt_of_cell? _ _ i1)).trans i1
  have i2 := (GE.out.cell (p := ⟨w.heap.size + 1, 2, none⟩) (World.block_lt_of_cell? _ _ i2)).trans i2
  have i3 := (GE.out.cell (p := ⟨w.heap.size + 1, 3, none⟩) (World.block_lt_of_cell? _ _ i3)).trans i3
  have i4 := (GE.out.cell (p := ⟨w.heap.size + 1, 4, none⟩) (World.block_lt_of_cell? _ _ i4)).trans i4
  have i5 := (GE.out.cell (p := ⟨w.heap.size + 1, 5, none⟩) (World.block_lt_of_cell? _ _ i5)).trans i5
  have i6 := (GE.out.cell (p := ⟨w.heap.size + 1, 6, none⟩) (World.block_lt_of_cell? _ _ i6)).trans i6
  have i7 := (GE.out.cell (p := ⟨w.heap.size + 1, 7, none⟩) (World.block_lt_of_cell? _ _ i7)).trans i7
  have q1 : E.cell? ⟨w1.heap.size, 1, none⟩ = some (.slice (some ⟨rb, 0, none⟩) 4 c) := by rw [hE]; simp [go_sem]
  have hE5 : Blk E w1.heap.size 33 #[.bool true, .slice (some ⟨rb, 0, none⟩) 4 c, .int .i64 lo, .int .i64 hi] := by rw [hE]; exact Blk.new' rfl
  have HE5 := Lib.hid hE5
  obtain ⟨x0', x1'⟩ := (HO1.out.grew GE.out).cell hja HXA.out
  obtain ⟨y0', y1'⟩ := (HO1.out.grew GE.out).cell hjb HXB.out
  simp only at x0' x1' y0' y1'
  have hszE : E.heap.size = w1.heap.size + 1 := by rw [hE]; simp only [World.size_alloc]
  clear hE hE5
  obtain ⟨VV, v0, v1, v2, v3, v4, v5, v6, v7, v8, v9, v10, v11, v12, v13, v14, v15, v16, v17, v18, v19, v20, -⟩ := vl [.pointer (some ⟨w.heap.size + 1, 0, none⟩), .int .i64 ((3 : Int)), .pointer (some ⟨w1.heap.size, 1, none⟩), .slice (some ⟨rb, 0, none⟩) 4 c, .pointer (some ⟨w.heap.size + 1, 2, none⟩), .int .i64 ((aj : Int)), .pointer (some ⟨rb, aj * 2, none⟩), .agg #[.int .i64 al, .int .i64 ah], .pointer (some ⟨w1.heap.size, 1, none⟩), .slice (some ⟨rb, 0, none⟩) 4 c, .pointer (some ⟨w.heap.size + 1, 3, none⟩), .int .i64 ((bj : Int)), .pointer (some ⟨rb, bj * 2, none⟩), .agg #[.int .i64 bl, .int .i64 bh], .tuple #[.agg #[.int .i64 rl, .int .i64 rh], .bool m], .tuple #[.agg #[.int .i64 rl, .int .i64 rh], .bool m], .agg #[.int .i64 rl, .int .i64 rh], .bool m, undef, undef, .bool m]
  have HK := fun W (c : Chg (preB [⟨some 18, 0, 19, 31, #[.int .i64 0, .int .i64 0], #[.int .i64 rl, .int .i64 rh]⟩]) _ W) => And.intro (ck c i0) (And.intro (ck c q1) (And.intro (ck c i2) (And.intro (ck c i3) (And.intro (ck c x0') (And.intro (ck c x1') (And.intro (ck c y0') (ck c y1')))))))
  refine region_box 56 [⟨some 18, 0, 19, 31, #[.int .i64 0, .int .i64 0], #[.int .i64 rl, .int .i64 rh]⟩] VV (by kernel_rfl) rfl (by kernel_rfl) rfl (by intro b hb ha; simp only [List.mem_cons, List.not_mem_nil, or_false] at hb; rcases hb with rfl <;> first | (cases ha; done) | assumption) (by intro j k b c hjk hj hk hb hc; rcases j with _ | _ | j <;> rcases k with _ | _ | k <;> simp at hj hk hjk <;> (try subst hj) <;> (try subst hk) <;> first | (cases hb; done) | (cases hc; done) | (simp only; omega)) ⟨?_, ?_, ?_, ?_, ?_, ?_, ?_, ?_, ?_, ?_, ?_, ?_, ?_, ?_, ?_, ?_, ?_, ?_, ?_, ?_, ?_, trivial⟩ ?_
  · exact b_vx v0 rfl rfl (fun gm a W h => by have e3 : a.eval (.tmp 3) = .pointer (some ⟨w.heap.size + 1, 0, none⟩) := (h.slot 3 (by kernel_rfl)).trans rfl; simp only [execOp, e3]; first | (simp [go_sem, haq, hbq] <;> first | exact wrapIn | rfl) | kernel_rfl)
  · exact b_vx v1 rfl rfl (fun gm a W h => by have e13 := (h.vb 0 13).trans v0; obtain ⟨ki0, kq1, ki2, ki3, kx0', kx1', ky0', ky1'⟩ := HK W h.chg; simp only [execOp, e13]; first | (simp [go_sem, ki0, kq1, ki2, ki3, kx0', kx1', ky0', ky1', haq, hbq] <;> first | exact wrapIn | rfl) | kernel_rfl)
  · exact b_vx v2 rfl rfl (fun gm a W h => by have e5 : a.eval (.tmp 5) = .pointer (some ⟨w1.heap.size, 0, none⟩) := (h.slot 5 (by kernel_rfl)).trans rfl; simp only [execOp, e5]; first | (simp [go_sem, haq, hbq] <;> first | exact wrapIn | rfl) | kernel_rfl)
  · exact b_vx v3 rfl rfl (fun gm a W h => by have e15 := (h.vb 2 15).trans v2; obtain ⟨ki0, kq1, ki2, ki3, kx0', kx1', ky0', ky1'⟩ := HK W h.chg; simp only [execOp, e15]; first | (simp [go_sem, ki0, kq1, ki2, ki3, kx0', kx1', ky0', ky1', haq, hbq] <;> first | exact wrapIn | rfl) | kernel_rfl)
  · exact b_vx v4 rfl rfl (fun gm a W h => by have e3 : a.eval (.tmp 3) = .pointer (some ⟨w.heap.size + 1, 0, none⟩) := (h.slot 3 (by kernel_rfl)).trans rfl; simp only [execOp, e3]; first | (simp [go_sem, haq, hbq] <;> first | exact wrapIn | rfl) | kernel_rfl)
  · exact b_vx v5 rfl rfl (fun gm a W h => by have e17 := (h.vb 4 17).trans v4; obtain ⟨ki0, kq1, ki2, ki3, kx0', kx1', ky0', ky1'⟩ := HK W h.chg; simp only [execOp, e17]; first | (simp [go_sem, ki0, kq1, ki2, ki3, kx0', kx1', ky0', ky1', haq, hbq] <;> first | exact wrapIn | rfl) | kernel_rfl)
  · exact b_vx v6 rfl rfl (fun gm a W h => by have e16 := (h.vb 3 16).trans v3; have e18 := (h.vb 5 18).trans v5; simp only [execOp, e16, e18]; first | (simp [go_sem, haq, hbq] <;> first | exact wrapIn | rfl) | kernel_rfl)
  · exact b_vx v7 rfl rfl (fun gm a W h => by have e19 := (h.vb 6 19).trans v6; obtain ⟨ki0, kq1, ki2, ki3, kx0', kx1', ky0', ky1'⟩ := HK W h.chg; simp only [execOp, e19]; first | (simp [go_sem, ki0, kq1, ki2, ki3, kx0', kx1', ky0', ky1', haq, hbq] <;> first | exact wrapIn | rfl) | kernel_rfl)
  · exact b_vx v8 rfl rfl (fun gm a W h => by have e5 : a.eval (.tmp 5) = .pointer (some ⟨w1.heap.size, 0, none⟩) := (h.slot 5 (by kernel_rfl)).trans rfl; simp only [execOp, e5]; first | (simp [go_sem, haq, hbq] <;> first | exact wrapIn | rfl) | kernel_rfl)
  · exact b_vx v9 rfl rfl (fun gm a W h => by have e21 := (h.vb 8 21).trans v8; obtain ⟨ki0, kq1, ki2, ki3, kx0', kx1', ky0', ky1'⟩ := HK W h.chg; simp only [execOp, e21]; first | (simp [go_sem, ki0, kq1, ki2, ki3, kx0', kx1', ky0', ky1', haq, hbq] <;> first | exact wrapIn | rfl) | kernel_rfl)
  · exact b_vx v10 rfl rfl (fun gm a W h => by have e3 : a.eval (.tmp 3) = .pointer (some ⟨w.heap.size + 1, 0, none⟩) := (h.slot 3 (by kernel_rfl)).trans rfl; simp only [execOp, e3]; first | (simp [go_sem, haq, hbq] <;> first | exact wrapIn | rfl) | kernel_rfl)
  · exact b_vx v11 rfl rfl (fun gm a W h => by have e23 := (h.vb 10 23).trans v10; obtain ⟨ki0, kq1, ki2, ki3, kx0', kx1', ky0', ky1'⟩ := HK W h.chg; simp only [execOp, e23]; first | (simp [go_sem, ki0, kq1, ki2, ki3, kx0', kx1', ky0', ky1', haq, hbq] <;> first | exact wrapIn | rfl) | kernel_rfl)
  · exact b_vx v12 rfl rfl (fun gm a W h => by have e22 := (h.vb 9 22).trans v9; have e24 := (h.vb 11 24).trans v11; simp only [execOp, e22, e24]; first | (simp [go_sem, haq, hbq] <;> first | exact wrapIn | rfl) | kernel_rfl)
  · exact b_vx v13 rfl rfl (fun gm a W h => by have e25 := (h.vb 12 25).trans v12; obtain ⟨ki0, kq1, ki2, ki3, kx0', kx1', ky0', ky1'⟩ := HK W h.chg; simp only [execOp, e25]; first | (simp [go_sem, ki0, kq1, ki2, ki3, kx0', kx1', ky0', ky1', haq, hbq] <;> first | exact wrapIn | rfl) | kernel_rfl)
  · exact b_cx v14 rfl rfl (fun gm a W h => by
      have e14 := (h.vb 1 14).trans v1
      have e20 := (h.vb 7 20).trans v7
      have e26 := (h.vb 13 26).trans v13
      refine Eq.trans (b := .ok (.enter 146 #[a.eval (.tmp 14), a.eval (.tmp 20), a.eval (.tmp 26)]) W) (by kernel_rfl) ?_
      rw [e14, e20, e26]) (fun W => HI.out W)
  · exact b_vx v15 rfl rfl (fun gm a W h => by have e27 := (h.vb 14 27).trans v14; simp only [execOp, e27]; first | (simp [go_sem, haq, hbq] <;> first | exact wrapIn | rfl) | kernel_rfl)
  · exact b_vx v16 rfl rfl (fun gm a W h => by have e12 := (h.vb 15 12).trans v15; simp only [execOp, e12]; first | (simp [go_sem, haq, hbq] <;> first | exact wrapIn | rfl) | kernel_rfl)
  · exact b_vx v17 rfl rfl (fun gm a W h => by have e12 := (h.vb 15 12).trans v15; simp only [execOp, e12]; first | (simp [go_sem, haq, hbq] <;> first | exact wrapIn | rfl) | kernel_rfl)
  · exact b_alloc 0 _ rfl rfl rfl (by kernel_rfl) rfl (fun gm a W h => by kernel_rfl)
  · refine b_store 0 _ rfl rfl rfl v19 (fun j hj => by cases hj; exact ⟨6, ⟨⟨⟨18, .data⟩, by simp, rfl, by kernel_rfl⟩, by kernel_rfl⟩⟩) rfl (fun gm a W h hold hb => ?_)
    have e6 : a.eval (.tmp 6) = .pointer (some ⟨gm 0, 0, none⟩) := (h.vb 18 6).trans rfl
    have e28 := (h.vb 16 28).trans v16
    simp only at hb
    have hf := fun j => hb.frozen j
    have c0 := hb.cell 0
    have c1 := hb.cell 1
    refine ⟨_, by (simp only [execOp, e6, e28]; simp [go_sem, hf, c0, c1, haq, hbq]; try rfl), (hb.set_ 0 _).set_ 1 _, chgs2 _ _ _ _ _ _⟩
  · exact b_vx v20 rfl rfl (fun gm a W h => by have e29 := (h.vb 17 29).trans v17; simp only [execOp, e29]; first | (simp [go_sem, haq, hbq] <;> first | exact wrapIn | rfl) | kernel_rfl)
  intro gm vs w9 hc9 hb9 hold9 hge9 hv9
  have x0 := (hv9 0 13 (by kernel_rfl)).trans v0
  have x1 := (hv9 1 14 (by kernel_rfl)).trans v1
  have x2 := (hv9 2 15 (by kernel_rfl)).trans v2
  have x3 := (hv9 3 16 (by kernel_rfl)).trans v3
  have x4 := (hv9 4 17 (by kernel_rfl)).trans v4
  have x5 := (hv9 5 18 (by kernel_rfl)).trans v5
  have x6 := (hv9 6 19 (by kernel_rfl)).trans v6
  have x7 := (hv9 7 20 (by kernel_rfl)).trans v7
  have x8 := (hv9 8 21 (by kernel_rfl)).trans v8
  have x9 := (hv9 9 22 (by kernel_rfl)).trans v9
  have x10 := (hv9 10 23 (by kernel_rfl)).trans v10
  have x11 := (hv9 11 24 (by kernel_rfl)).trans v11
  have x12 := (hv9 12 25 (by kernel_rfl)).trans v12
  have x13 := (hv9 13 26 (by kernel_rfl)).trans v13
  have x14 := (hv9 14 27 (by kernel_rfl)).trans v14
  have x15 := (hv9 15 12 (by kernel_rfl)).trans v15
  have x16 := (hv9 16 28 (by kernel_rfl)).trans v16
  have x17 := (hv9 17 29 (by kernel_rfl)).trans v17
  have x18 : vs 18 = .pointer (some ⟨gm 0, 0, none⟩) := (hv9 18 6 (by kernel_rfl)).trans rfl
  have x20 := (hv9 20 7 (by kernel_rfl)).trans v20
  have y0 := hb9 0 _ rfl
  have g0 := hge9 0 _ 18 rfl rfl
  simp only at y0
  simp only [putAll, Act.put, List.setIfInBounds_toArray, List.set_cons_zero, List.set_cons_succ, Nat.zero_add, Nat.reduceAdd, x0, x1, x2, x3, x4, x5, x6, x7, x8, x9, x10, x11, x12, x13, x14, x15, x16, x17, x18, x20]
  clear hb9 hold9 hge9 hv9 x0 x1 x2 x3 x4 x5 x6 x7 x8 x9 x10 x11 x12 x13 x14 x15 x16 x17 x18 x20 v0 v1 v2 v3 v4 v5 v6 v7 v8 v9 v10 v11 v12 v13 v14 v15 v16 v17 v18 v19 v20 HK VV
  have G9 := chg_pre hc9 (by intro b hb; simp only [List.mem_cons, List.not_mem_nil, or_false] at hb; subst hb; simp)
  obtain ⟨g6, hg6⟩ : ∃ g, gm 0 = g := ⟨_, rfl⟩
  rw [hg6] at y0 g0 ⊢
  have HY6 := Lib.hid y0
  have HW9 := Lib.hid (grew_tr HG1.out (grew_tr GE.out G9))
  have HO9 := Lib.hid (HO1.out.grew (grew_tr GE.out G9))
  have HE9 := Lib.hid (HE5.out.grew G9)
  have HZ9 := Lib.hid (HZ1.out.grew (grew_tr GE.out G9))
  have i0 := (G9.cell (p := ⟨w.heap.size + 1, 0, none⟩) (World.block_lt_of_cell? _ _ i0)).trans i0
  have i1 := (G9.cell (p := ⟨w.heap.size + 1, 1, none⟩) (World.block_lt_of_cell? _ _ i1)).trans i1
  have i3 := (G9.cell (p := ⟨w.heap.size + 1, 3, none⟩) (World.block_lt_of_cell? _ _ i3)).trans i3
  have il := World.block_lt_of_cell? _ _ i0
  simp only at il
  have hsz9 := G9.size
  have n6 : g6 ≠ rb := by omega
  have n5 : w1.heap.size ≠ rb := by omega
  have n4 : w.heap.size + 1 + 1 ≠ rb := by omega
  have n3 : w.heap.size + 1 ≠ rb := by omega
  clear y0 hg6 hc9 G9 q1 i2 i4 i5 i6 i7 x0' x1' y0' y1' gm vs HO1 HE5 HZ1 HI
  cases m
  · have hon : O = none := by cases hh : O with | none => rfl | some p => have := HMo.out; rw [hh] at this; cases this
    subst hon
    have ZZ := HZ9.out
    have z0 := ZZ.cell 0
    have z1 := ZZ.cell 1
    have z2 := ZZ.cell 2
    have z3 := ZZ.cell 3
    have zl := ZZ.lt
    have zf := fun j => ZZ.frozen j
    simp only [List.getElem?_toArray, List.getElem?_cons_zero, List.getElem?_cons_succ] at z0 z1 z2 z3
    clear ZZ
    go_wp2
    refine bodyPost_ret (by simp [results, Tryz.results121, go_sem, z0, z1, z2, z3, zl]; try rfl) rfl ?_
    refine ⟨?_, 0, 0, rfl, fun z hz => by cases hz⟩
    repeat (first | with_reducible exact HW9.out | with_reducible refine grew_set ?_ (by first | omega | (simp only; omega)) _)
  · obtain ⟨r, hr⟩ : ∃ r, O = some r := by cases hh : O with | none => (have := HMo.out; rw [hh] at this; cases this) | some p => exact ⟨p, rfl⟩
    subst hr
    have er : r = ⟨rl, rh⟩ := HR.out
    subst er
    have E0 := HE9.out.cell 0
    have E1 := HE9.out.cell 1
    have E2 := HE9.out.cell 2
    have E3 := HE9.out.cell 3
    have r0 := HY6.out.cell 0
    have r1 := HY6.out.cell 1
    have El := HE9.out.lt
    have rl6 := HY6.out.lt
    simp only [List.getElem?_toArray, List.getElem?_cons_zero, List.getElem?_cons_succ] at E0 E1 E2 E3 r0 r1
    have HBSET := Lib.hid (fun W (h : OwnR W w.heap.size rb c xs) => specL7Set w.heap.size rb c xs lo hi (dj : Int) ⟨rl, rh⟩ W h HD.out)
    go_wp2_with fail
    refine (HBSET.out _ (HO9.out.mono (by simp only [World.size_alloc]; omega))).mono ?_
    rintro e w2 ⟨rfl, ho2, hc2⟩
    have ZZ := HZ9.out.chg hc2 n4
    have HO2 := Lib.hid ho2
    have HW2 := Lib.hid (Below.trans HW9.out (hc2.belowB HW9.out.size (fun k hk => by subst hk; omega)))
    clear E0 E1 E2 E3 i0 i1 i3
    have z0 := ZZ.cell 0
    have z1 := ZZ.cell 1
    have z2 := ZZ.cell 2
    have z3 := ZZ.cell 3
    have zl := ZZ.lt
    have zf := fun j => ZZ.frozen j
    simp only [List.getElem?_toArray, List.getElem?_cons_zero, List.getElem?_cons_succ] at z0 z1 z2 z3
    clear ZZ ho2 hc2 r0 r1
    go_wp2
    refine bodyPost_ret (by simp [results, Tryz.results121, go_sem, z0, z1, z2, z3, zl]; try rfl) rfl ?_
    refine ⟨?_, rb, c, rfl, fun z hz => ?_⟩
    · repeat (first | with_reducible exact HW2.out | with_reducible refine grew_set ?_ (by first | omega | (simp only; omega)) _)
    · cases hz
      refine OwnR.chg (F := fun b => b = w.heap.size + 1 + 1) HO2.out ?_ (fun e => n4 e.symm)
      repeat (first | with_reducible exact Chg.refl _ _ | with_reducible refine Chg.alw (F := fun b => b = w.heap.size + 1 + 1) ?_ rfl _)
set_option maxRecDepth 100000 in
set_option maxHeartbeats 8000000 in
theorem specL7Do4 (ps : List Prc) (ss : List Sum) (xa : Option Addr) (xc : Nat) (xs : List Itv) (lo hi : Int) (d a b rel ilo ihi to : Int) (w : World) (hx : RdL EItv 2 w xa 4 xs) (hs : stOkB true xs lo hi = true) (hd : varB d = true) (ha : varB a = true) (hb : varB b = true) :
    Calls Tryz.prog 121 #[.agg #[.bool true, .slice xa 4 xc, .int .i64 lo, .int .i64 hi], Ins.v ⟨4, d, a, b, rel, ilo, ihi, to⟩] w (RetO (actI ps ss ⟨4, d, a, b, rel, ilo, ihi, to⟩ xs ⟨lo, hi⟩) w) := by
  have HS := Lib.hid hs
  have HD := Lib.hid hd
  have HB := Lib.hid hb
  obtain ⟨aj, rfl, hja, hxa⟩ := nthI_get hx.len ha
  obtain ⟨bj, rfl, hjb, hxb⟩ := nthI_get hx.len hb
  obtain ⟨dj, rfl, hjd, hxd⟩ := nthI_get hx.len hd
  have hoa := nthI_ok hs ha
  have hob := nthI_ok hs hb
  have HV0 : Hid (actI ps ss ⟨4, (dj : Int), (aj : Int), (bj : Int), rel, ilo, ihi, to⟩ xs ⟨lo, hi⟩ = (doI 4 (nthI xs aj) (nthI xs bj)).map fun r => ((setI (setI xs bj (woI (nthI xs bj) ⟨0, 0⟩)) dj r), (⟨lo, hi⟩ : Itv))) := Lib.hid (by simp [actI])
  rw [HV0.out]
  have HI := Lib.hid (fun W => specItvDo 4 (nthI xs aj) (nthI xs bj) W (by omega) hoa hob)
  rw [optV_eq] at HI
  obtain ⟨⟨al, ah⟩, hXa⟩ : ∃ x, nthI xs aj = x := ⟨_, rfl⟩
  obtain ⟨⟨bl, bh⟩, hXb⟩ : ∃ x, nthI xs bj = x := ⟨_, rfl⟩
  rw [hXa] at HI hxa hoa
  rw [hXb] at HI hxb hob
  rw [hXa, hXb]
  have HXA := Lib.hid hxa
  have HXB := Lib.hid hxb
  have HOB := Lib.hid (itvB_iff.1 hob)
  have HCU := Lib.hid (fun W => specL2Cut ⟨bl, bh⟩ 0 W (by omega) (by omega))
  rw [optV_eq] at HCU
  obtain ⟨⟨cl, ch⟩, hcc⟩ : ∃ m, (endI ⟨bl, bh⟩ 0).getD ⟨0, 0⟩ = m := ⟨_, rfl⟩
  obtain ⟨cb, hcb⟩ : ∃ x, (endI ⟨bl, bh⟩ 0).isSome = x := ⟨_, rfl⟩
  rw [hcc, hcb] at HCU
  have HCC := Lib.hid hcc
  clear hcc hcb
  obtain ⟨O, hO⟩ : ∃ o, doI 4 ⟨al, ah⟩ ⟨bl, bh⟩ = o := ⟨_, rfl⟩
  rw [hO] at HI ⊢
  have HOO := Lib.hid hO
  obtain ⟨⟨rl, rh⟩, hr⟩ : ∃ m, O.getD ⟨0, 0⟩ = m := ⟨_, rfl⟩
  obtain ⟨m, hm⟩ : ∃ x, O.isSome = x := ⟨_, rfl⟩
  rw [hr, hm] at HI
  have HR := Lib.hid hr
  have HMo := Lib.hid hm
  have HX := Lib.hid hx
  clear HV0 hXa hXb hxa hxb hxd hoa hob hx hs hd ha hb hO hr hm
  have haq : ¬ (4 : Int) ≤ (aj : Int) := by omega
  have hbq : ¬ (4 : Int) ≤ (bj : Int) := by omega
  go_enter Tryz.func121, Tryz.ntmps121
  go_wp2_with fail
  refine (specL7Copy xa xc xs lo hi _ (HX.out.grew staysItv (gr))).mono ?_
  rintro e w1 ⟨rb, c, rfl, hor, g1⟩
  have i0 : w1.cell? ⟨w.heap.size + 1, 0, none⟩ = some (.int .i64 (4 : Int)) := (g1.cell (p := ⟨w.heap.size + 1, 0, none⟩) (by simp only [World.size_alloc]; omega)).trans (by simp [go_sem])
  have i1 : w1.cell? ⟨w.heap.size + 1, 1, none⟩ = some (.int .i64 (dj : Int)) := (g1.cell (p := ⟨w.heap.size + 1, 1, none⟩) (by simp only [World.size_alloc]; omega)).trans (by simp [go_sem])
  have i2 : w1.cell? ⟨w.heap.size + 1, 2, none⟩ = some (.int .i64 (aj : Int)) := (g1.cell (p := ⟨w.heap.size + 1, 2, none⟩) (by simp only [World.size_alloc]; omega)).trans (by simp [go_sem])
  have i3 : w1.cell? ⟨w.heap.size + 1, 3, none⟩ = some (.int .i64 (bj : Int)) := (g1.cell (p := ⟨w.heap.size + 1, 3, none⟩) (by simp only [World.size_alloc]; omega)).trans (by simp [go_sem])
  have i4 : w1.cell? ⟨w.heap.size + 1, 4, none⟩ = some (.int .i64 rel) := (g1.cell (p := ⟨w.heap.size + 1, 4, none⟩) (by simp only [World.size_alloc]; omega)).trans (by simp [go_sem])
  have i5 : w1.cell? ⟨w.heap.size + 1, 5, none⟩ = some (.int .i64 ilo) := (g1.cell (p := ⟨w.heap.size + 1, 5, none⟩) (by simp only [World.size_alloc]; omega)).trans (by simp [go_sem])
  have i6 : w1.cell? ⟨w.heap.size + 1, 6, none⟩ = some (.int .i64 ihi) := (g1.cell (p := ⟨w.heap.size + 1, 6, none⟩) (by simp only [World.size_alloc]; omega)).trans (by simp [go_sem])
  have i7 : w1.cell? ⟨w.heap.size + 1, 7, none⟩ = some (.int .i64 to) := (g1.cell (p := ⟨w.heap.size + 1, 7, none⟩) (by simp only [World.size_alloc]; omega)).trans (by simp [go_sem])
  have Z4 : Blk w1 (w.heap.size + 1 + 1) 33 #[.bool false, .slice none 0 0, .int .i64 0, .int .i64 0] := (show Blk (((w.alloc (.cells #[.bool true, .slice xa 4 xc, .int .i64 lo, .int .i64 hi] 33)).alloc (.cells #[.int .i64 (4 : Int), .int .i64 (dj : Int), .int .i64 (aj : Int), .int .i64 (bj : Int), .int .i64 rel, .int .i64 ilo, .int .i64 ihi, .int .i64 to] 28)).alloc (.cells #[.bool false, .slice none 0 0, .int .i64 0, .int .i64 0] 33)) (w.heap.size + 1 + 1) 33 #[.bool false, .slice none 0 0, .int .i64 0, .int .i64 0] from Blk.new' (by simp only [World.size_alloc])).grew g1
  have HG1 := Lib.hid (show Grew w w1 from grew_tr (gr) g1)
  have HO1 := Lib.hid hor
  have HZ1 := Lib.hid Z4
  have hb1 := hor.2.1
  simp only [World.size_alloc] at hb1
  have hb2 := hor.lt
  clear hor g1 Z4 HX
  go_upto_region 2 with fail
  refine wp_letH ?_
  intro E hE
  have GE := Lib.hid (show Grew w1 E from by rw [hE]; exact gr)
  have i0 := (GE.out.cell (p := ⟨w.heap.size + 1, 0, none⟩) (World.block_lt_of_cell? _ _ i0)).trans i0
  have i1 := (GE.out.cell (p := ⟨w.heap.size + 1, 1, none⟩) (World.block_lt_of_cell? _ _ i1)).trans i1
  have i2 := (GE.out.cell (p := ⟨w.heap.size + 1, 2, none⟩) (World.block_lt_of_cell? _ _ i2)).trans i2
  have i3 := (GE.out.cell (p := ⟨w.heap.size + 1, 3, none⟩) (World.block_lt_of_cell? _ _ i3)).trans i3
  have i4 := (GE.out.cell (p := ⟨w.heap.size + 1, 4, none⟩) (World.block_lt_of_cell? _ _ i4)).trans i4
  have i5 := (GE.out.cell (p := ⟨w.heap.size + 1, 5, none⟩) (World.block_lt_of_cell? _ _ i5)).trans i5
  have i6 := (GE.out.cell (p := ⟨w.heap.size + 1, 6, none⟩) (World.block_lt_of_cell? _ _ i6)).trans i6
  have i7 := (GE.out.cell (p := ⟨w.heap.size + 1, 7, none⟩) (World.block_lt_of_cell? _ _ i7)).trans i7
  have q1 : E.cell? ⟨w1.heap.size, 1, none⟩ = some (.slice (some ⟨rb, 0, none⟩) 4 c) := by rw [hE]; simp [go_sem]
  have hE5 : Blk E w1.heap.size 33 #[.bool true, .slice (some ⟨rb, 0, none⟩) 4 c, .int .i64 lo, .int .i64 hi] := by rw [hE]; exact Blk.new' rfl
  have HE5 := Lib.hid hE5
  obtain ⟨x0', x1'⟩ := (HO1.out.grew GE.out).cell hja HXA.out
  obtain ⟨y0', y1'⟩ := (HO1.out.grew GE.out).cell hjb HXB.out
  simp only at x0' x1' y0' y1'
  have hszE : E.heap.size = w1.heap.size + 1 := by rw [hE]; simp only [World.size_alloc]
  clear hE hE5
  obtain ⟨VV, v0, v1, v2, v3, v4, v5, v6, v7, v8, v9, v10, v11, v12, v13, v14, v15, v16, v17, v18, v19, v20, -⟩ := vl [.pointer (some ⟨w.heap.size + 1, 0, none⟩), .int .i64 ((4 : Int)), .pointer (some ⟨w1.heap.size, 1, none⟩), .slice (some ⟨rb, 0, none⟩) 4 c, .pointer (some ⟨w.heap.size + 1, 2, none⟩), .int .i64 ((aj : Int)), .pointer (some ⟨rb, aj * 2, none⟩), .agg #[.int .i64 al, .int .i64 ah], .pointer (some ⟨w1.heap.size, 1, none⟩), .slice (some ⟨rb, 0, none⟩) 4 c, .pointer (some ⟨w.heap.size + 1, 3, none⟩), .int .i64 ((bj : Int)), .pointer (some ⟨rb, bj * 2, none⟩), .agg #[.int .i64 bl, .int .i64 bh], .tuple #[.agg #[.int .i64 rl, .int .i64 rh], .bool m], .tuple #[.agg #[.int .i64 rl, .int .i64 rh], .bool m], .agg #[.int .i64 rl, .int .i64 rh], .bool m, undef, undef, .bool m]
  have HK := fun W (c : Chg (preB [⟨some 18, 0, 19, 31, #[.int .i64 0, .int .i64 0], #[.int .i64 rl, .int .i64 rh]⟩]) _ W) => And.intro (ck c i0) (And.intro (ck c q1) (And.intro (ck c i2) (And.intro (ck c i3) (And.intro (ck c x0') (And.intro (ck c x1') (And.intro (ck c y0') (ck c y1')))))))
  refine region_box 56 [⟨some 18, 0, 19, 31, #[.int .i64 0, .int .i64 0], #[.int .i64 rl, .int .i64 rh]⟩] VV (by kernel_rfl) rfl (by kernel_rfl) rfl (by intro b hb ha; simp only [List.mem_cons, List.not_mem_nil, or_false] at hb; rcases hb with rfl <;> first | (cases ha; done) | assumption) (by intro j k b c hjk hj hk hb hc; rcases j with _ | _ | j <;> rcases k with _ | _ | k <;> simp at hj hk hjk <;> (try subst hj) <;> (try subst hk) <;> first | (cases hb; done) | (cases hc; done) | (simp only; omega)) ⟨?_, ?_, ?_, ?_, ?_, ?_, ?_, ?_, ?_, ?_, ?_, ?_, ?_, ?_, ?_, ?_, ?_, ?_, ?_, ?_, ?_, trivial⟩ ?_
  · exact b_vx v0 rfl rfl (fun gm a W h => by have e3 : a.eval (.tmp 3) = .pointer (some ⟨w.heap.size + 1, 0, none⟩) := (h.slot 3 (by kernel_rfl)).trans rfl; simp only [execOp, e3]; first | (simp [go_sem, haq, hbq] <;> first | exact wrapIn | rfl) | kernel_rfl)
  · exact b_vx v1 rfl rfl (fun gm a W h => by have e13 := (h.vb 0 13).trans v0; obtain ⟨ki0, kq1, ki2, ki3, kx0', kx1', ky0', ky1'⟩ := HK W h.chg; simp only [execOp, e13]; first | (simp [go_sem, ki0, kq1, ki2, ki3, kx0', kx1', ky0', ky1', haq, hbq] <;> first | exact wrapIn | rfl) | kernel_rfl)
  · exact b_vx v2 rfl rfl (fun gm a W h => by have e5 : a.eval (.tmp 5) = .pointer (some ⟨w1.heap.size, 0, none⟩) := (h.slot 5 (by kernel_rfl)).trans rfl; simp only [execOp, e5]; first | (simp [go_sem, haq, hbq] <;> first | exact wrapIn | rfl) | kernel_rfl)
  · exact b_vx v3 rfl rfl (fun gm a W h => by have e15 := (h.vb 2 15).trans v2; obtain ⟨ki0, kq1, ki2, ki3, kx0', kx1', ky0', ky1'⟩ := HK W h.chg; simp only [execOp, e15]; first | (simp [go_sem, ki0, kq1, ki2, ki3, kx0', kx1', ky0', ky1', haq, hbq] <;> first | exact wrapIn | rfl) | kernel_rfl)
  · exact b_vx v4 rfl rfl (fun gm a W h => by have e3 : a.eval (.tmp 3) = .pointer (some ⟨w.heap.size + 1, 0, none⟩) := (h.slot 3 (by kernel_rfl)).trans rfl; simp only [execOp, e3]; first | (simp [go_sem, haq, hbq] <;> first | exact wrapIn | rfl) | kernel_rfl)
  · exact b_vx v5 rfl rfl (fun gm a W h => by have e17 := (h.vb 4 17).trans v4; obtain ⟨ki0, kq1, ki2, ki3, kx0', kx1', ky0', ky1'⟩ := HK W h.chg; simp only [execOp, e17]; first | (simp [go_sem, ki0, kq1, ki2, ki3, kx0', kx1', ky0', ky1', haq, hbq] <;> first | exact wrapIn | rfl) | kernel_rfl)
  · exact b_vx v6 rfl rfl (fun gm a W h => by have e16 := (h.vb 3 16).trans v3; have e18 := (h.vb 5 18).trans v5; simp only [execOp, e16, e18]; first | (simp [go_sem, haq, hbq] <;> first | exact wrapIn | rfl) | kernel_rfl)
  · exact b_vx v7 rfl rfl (fun gm a W h => by have e19 := (h.vb 6 19).trans v6; obtain ⟨ki0, kq1, ki2, ki3, kx0', kx1', ky0', ky1'⟩ := HK W h.chg; simp only [execOp, e19]; first | (simp [go_sem, ki0, kq1, ki2, ki3, kx0', kx1', ky0', ky1', haq, hbq] <;> first | exact wrapIn | rfl) | kernel_rfl)
  · exact b_vx v8 rfl rfl (fun gm a W h => by have e5 : a.eval (.tmp 5) = .pointer (some ⟨w1.heap.size, 0, none⟩) := (h.slot 5 (by kernel_rfl)).trans rfl; simp only [execOp, e5]; first | (simp [go_sem, haq, hbq] <;> first | exact wrapIn | rfl) | kernel_rfl)
  · exact b_vx v9 rfl rfl (fun gm a W h => by have e21 := (h.vb 8 21).trans v8; obtain ⟨ki0, kq1, ki2, ki3, kx0', kx1', ky0', ky1'⟩ := HK W h.chg; simp only [execOp, e21]; first | (simp [go_sem, ki0, kq1, ki2, ki3, kx0', kx1', ky0', ky1', haq, hbq] <;> first | exact wrapIn | rfl) | kernel_rfl)
  · exact b_vx v10 rfl rfl (fun gm a W h => by have e3 : a.eval (.tmp 3) = .pointer (some ⟨w.heap.size + 1, 0, none⟩) := (h.slot 3 (by kernel_rfl)).trans rfl; simp only [execOp, e3]; first | (simp [go_sem, haq, hbq] <;> first | exact wrapIn | rfl) | kernel_rfl)
  · exact b_vx v11 rfl rfl (fun gm a W h => by have e23 := (h.vb 10 23).trans v10; obtain ⟨ki0, kq1, ki2, ki3, kx0', kx1', ky0', ky1'⟩ := HK W h.chg; simp only [execOp, e23]; first | (simp [go_sem, ki0, kq1, ki2, ki3, kx0', kx1', ky0', ky1', haq, hbq] <;> first | exact wrapIn | rfl) | kernel_rfl)
  · exact b_vx v12 rfl rfl (fun gm a W h => by have e22 := (h.vb 9 22).trans v9; have e24 := (h.vb 11 24).trans v11; simp only [execOp, e22, e24]; first | (simp [go_sem, haq, hbq] <;> first | exact wrapIn | rfl) | kernel_rfl)
  · exact b_vx v13 rfl rfl (fun gm a W h => by have e25 := (h.vb 12 25).trans v12; obtain ⟨ki0, kq1, ki2, ki3, kx0', kx1', ky0', ky1'⟩ := HK W h.chg; simp only [execOp, e25]; first | (simp [go_sem, ki0, kq1, ki2, ki3, kx0', kx1', ky0', ky1', haq, hbq] <;> first | exact wrapIn | rfl) | kernel_rfl)
  · exact b_cx v14 rfl rfl (fun gm a W h => by
      have e14 := (h.vb 1 14).trans v1
      have e20 := (h.vb 7 20).trans v7
      have e26 := (h.vb 13 26).trans v13
      refine Eq.trans (b := .ok (.enter 146 #[a.eval (.tmp 14), a.eval (.tmp 20), a.eval (.tmp 26)]) W) (by kernel_rfl) ?_
      rw [e14, e20, e26]) (fun W => HI.out W)
  · exact b_vx v15 rfl rfl (fun gm a W h => by have e27 := (h.vb 14 27).trans v14; simp only [execOp, e27]; first | (simp [go_sem, haq, hbq] <;> first | exact wrapIn | rfl) | kernel_rfl)
  · exact b_vx v16 rfl rfl (fun gm a W h => by have e12 := (h.vb 15 12).trans v15; simp only [execOp, e12]; first | (simp [go_sem, haq, hbq] <;> first | exact wrapIn | rfl) | kernel_rfl)
  · exact b_vx v17 rfl rfl (fun gm a W h => by have e12 := (h.vb 15 12).trans v15; simp only [execOp, e12]; first | (simp [go_sem, haq, hbq] <;> first | exact wrapIn | rfl) | kernel_rfl)
  · exact b_alloc 0 _ rfl rfl rfl (by kernel_rfl) rfl (fun gm a W h => by kernel_rfl)
  · refine b_store 0 _ rfl rfl rfl v19 (fun j hj => by cases hj; exact ⟨6, ⟨⟨⟨18, .data⟩, by simp, rfl, by kernel_rfl⟩, by kernel_rfl⟩⟩) rfl (fun gm a W h hold hb => ?_)
    have e6 : a.eval (.tmp 6) = .pointer (some ⟨gm 0, 0, none⟩) := (h.vb 18 6).trans rfl
    have e28 := (h.vb 16 28).trans v16
    simp only at hb
    have hf := fun j => hb.frozen j
    have c0 := hb.cell 0
    have c1 := hb.cell 1
    refine ⟨_, by (simp only [execOp, e6, e28]; simp [go_sem, hf, c0, c1, haq, hbq]; try rfl), (hb.set_ 0 _).set_ 1 _, chgs2 _ _ _ _ _ _⟩
  · exact b_vx v20 rfl rfl (fun gm a W h => by have e29 := (h.vb 17 29).trans v17; simp only [execOp, e29]; first | (simp [go_sem, haq, hbq] <;> first | exact wrapIn | rfl) | kernel_rfl)
  intro gm vs w9 hc9 hb9 hold9 hge9 hv9
  have x0 := (hv9 0 13 (by kernel_rfl)).trans v0
  have x1 := (hv9 1 14 (by kernel_rfl)).trans v1
  have x2 := (hv9 2 15 (by kernel_rfl)).trans v2
  have x3 := (hv9 3 16 (by kernel_rfl)).trans v3
  have x4 := (hv9 4 17 (by kernel_rfl)).trans v4
  have x5 := (hv9 5 18 (by kernel_rfl)).trans v5
  have x6 := (hv9 6 19 (by kernel_rfl)).trans v6
  have x7 := (hv9 7 20 (by kernel_rfl)).trans v7
  have x8 := (hv9 8 21 (by kernel_rfl)).trans v8
  have x9 := (hv9 9 22 (by kernel_rfl)).trans v9
  have x10 := (hv9 10 23 (by kernel_rfl)).trans v10
  have x11 := (hv9 11 24 (by kernel_rfl)).trans v11
  have x12 := (hv9 12 25 (by kernel_rfl)).trans v12
  have x13 := (hv9 13 26 (by kernel_rfl)).trans v13
  have x14 := (hv9 14 27 (by kernel_rfl)).trans v14
  have x15 := (hv9 15 12 (by kernel_rfl)).trans v15
  have x16 := (hv9 16 28 (by kernel_rfl)).trans v16
  have x17 := (hv9 17 29 (by kernel_rfl)).trans v17
  have x18 : vs 18 = .pointer (some ⟨gm 0, 0, none⟩) := (hv9 18 6 (by kernel_rfl)).trans rfl
  have x20 := (hv9 20 7 (by kernel_rfl)).trans v20
  have y0 := hb9 0 _ rfl
  have g0 := hge9 0 _ 18 rfl rfl
  simp only at y0
  simp only [putAll, Act.put, List.setIfInBounds_toArray, List.set_cons_zero, List.set_cons_succ, Nat.zero_add, Nat.reduceAdd, x0, x1, x2, x3, x4, x5, x6, x7, x8, x9, x10, x11, x12, x13, x14, x15, x16, x17, x18, x20]
  clear hb9 hold9 hge9 hv9 x0 x1 x2 x3 x4 x5 x6 x7 x8 x9 x10 x11 x12 x13 x14 x15 x16 x17 x18 x20 v0 v1 v2 v3 v4 v5 v6 v7 v8 v9 v10 v11 v12 v13 v14 v15 v16 v17 v18 v19 v20 HK VV
  have G9 := chg_pre hc9 (by intro b hb; simp only [List.mem_cons, List.not_mem_nil, or_false] at hb; subst hb; simp)
  obtain ⟨g6, hg6⟩ : ∃ g, gm 0 = g := ⟨_, rfl⟩
  rw [hg6] at y0 g0 ⊢
  have HY6 := Lib.hid y0
  have HW9 := Lib.hid (grew_tr HG1.out (grew_tr GE.out G9))
  have HO9 := Lib.hid (HO1.out.grew (grew_tr GE.out G9))
  have HE9 := Lib.hid (HE5.out.grew G9)
  have HZ9 := Lib.hid (HZ1.out.grew (grew_tr GE.out G9))
  have i0 := (G9.cell (p := ⟨w.heap.size + 1, 0, none⟩) (World.block_lt_of_cell? _ _ i0)).trans i0
  have i1 := (G9.cell (p := ⟨w.heap.size + 1, 1, none⟩) (World.block_lt_of_cell? _ _ i1)).trans i1
  have i3 := (G9.cell (p := ⟨w.heap.size + 1, 3, none⟩) (World.block_lt_of_cell? _ _ i3)).trans i3
  have il := World.block_lt_of_cell? _ _ i0
  simp only at il
  have hsz9 := G9.size
  have n6 : g6 ≠ rb := by omega
  have n5 : w1.heap.size ≠ rb := by omega
  have n4 : w.heap.size + 1 + 1 ≠ rb := by omega
  have n3 : w.heap.size + 1 ≠ rb := by omega
  clear y0 hg6 hc9 G9 q1 i2 i4 i5 i6 i7 x0' x1' y0' y1' gm vs HO1 HE5 HZ1 HI
  cases m
  · have hon : O = none := by cases hh : O with | none => rfl | some p => have := HMo.out; rw [hh] at this; cases this
    subst hon
    have ZZ := HZ9.out
    have z0 := ZZ.cell 0
    have z1 := ZZ.cell 1
    have z2 := ZZ.cell 2
    have z3 := ZZ.cell 3
    have zl := ZZ.lt
    have zf := fun j => ZZ.frozen j
    simp only [List.getElem?_toArray, List.getElem?_cons_zero, List.getElem?_cons_succ] at z0 z1 z2 z3
    clear ZZ
    go_wp2
    refine bodyPost_ret (by simp [results, Tryz.results121, go_sem, z0, z1, z2, z3, zl]; try rfl) rfl ?_
    refine ⟨?_, 0, 0, rfl, fun z hz => by cases hz⟩
    repeat (first | with_reducible exact HW9.out | with_reducible refine grew_set ?_ (by first | omega | (simp only; omega)) _)
  · obtain ⟨r, hr⟩ : ∃ r, O = some r := by cases hh : O with | none => (have := HMo.out; rw [hh] at this; cases this) | some p => exact ⟨p, rfl⟩
    subst hr
    have er : r = ⟨rl, rh⟩ := HR.out
    subst er
    have E0 := HE9.out.cell 0
    have E1 := HE9.out.cell 1
    have E2 := HE9.out.cell 2
    have E3 := HE9.out.cell 3
    have r0 := HY6.out.cell 0
    have r1 := HY6.out.cell 1
    have El := HE9.out.lt
    have rl6 := HY6.out.lt
    simp only [List.getElem?_toArray, List.getElem?_cons_zero, List.getElem?_cons_succ] at E0 E1 E2 E3 r0 r1
    have HCV : Hid ((⟨cl, ch⟩ : Itv) = woI ⟨bl, bh⟩ ⟨0, 0⟩) := Lib.hid (by rw [← HCC.out]; exact endI_wo (do4_ne HOO.out))
    have HBSET1 := Lib.hid (fun W (h : OwnR W w.heap.size rb c xs) => specL7Set w.heap.size rb c xs lo hi (bj : Int) ⟨cl, ch⟩ W h HB.out)
    obtain ⟨xs2, hxs2⟩ : ∃ z, setI xs (bj : Int) ⟨cl, ch⟩ = z := ⟨_, rfl⟩
    rw [hxs2] at HBSET1
    have HXS2 := Lib.hid hxs2
    clear hxs2 HCC HOO
    have HBSET := Lib.hid (fun W (h : OwnR W w.heap.size rb c xs2) => specL7Set w.heap.size rb c xs2 lo hi (dj : Int) ⟨rl, rh⟩ W h HD.out)
    obtain ⟨yb0, yb1⟩ := HO9.out.cell hjb HXB.out
    have rbl := HO9.out.lt
    simp only at yb0 yb1
    go_wp2_with fail
    refine (HCU.out _).mono ?_
    rintro e w3 ⟨rfl, g3⟩
    have HO3 := Lib.hid ((HO9.out.grew g3).mono (show w.heap.size ≤ _ by simp only [World.size_alloc]; omega))
    have HE3 := Lib.hid (HE9.out.grew g3)
    have HY3 := Lib.hid (HY6.out.grew g3)
    have HZ3 := Lib.hid (HZ9.out.grew g3)
    have HW3 := Lib.hid (grew_tr HW9.out g3)
    have i0 := (g3.cell (p := ⟨w.heap.size + 1, 0, none⟩) (World.block_lt_of_cell? _ _ i0)).trans i0
    have i1 := (g3.cell (p := ⟨w.heap.size + 1, 1, none⟩) (World.block_lt_of_cell? _ _ i1)).trans i1
    have i3 := (g3.cell (p := ⟨w.heap.size + 1, 3, none⟩) (World.block_lt_of_cell? _ _ i3)).trans i3
    have il := World.block_lt_of_cell? _ _ i0
    simp only at il
    have E0 := HE3.out.cell 0
    have E1 := HE3.out.cell 1
    have E2 := HE3.out.cell 2
    have E3 := HE3.out.cell 3
    have El := HE3.out.lt
    simp only [List.getElem?_toArray, List.getElem?_cons_zero, List.getElem?_cons_succ] at E0 E1 E2 E3
    have hsz3 := g3.size
    clear g3 yb0 yb1 r0 r1 rl6
    go_wp2_with fail
    refine (HBSET1.out _ (HO3.out.grew (grew_al (Below.refl _ _) _))).mono ?_
    rintro e w4 ⟨rfl, ho4, hc4⟩
    have i1a : (w3.alloc (.cells #[.int .i64 cl, .int .i64 ch] 31)).cell? ⟨w.heap.size + 1, 1, none⟩ = some (.int .i64 (dj : Int)) := ((grew_al (Below.refl _ w3) _).cell (p := ⟨w.heap.size + 1, 1, none⟩) il).trans i1
    have i1 := chg_cell hc4 i1a n3
    clear i1a
    have il := World.block_lt_of_cell? _ _ i1
    simp only at il
    have EE := (HE3.out.alloc (.cells #[.int .i64 cl, .int .i64 ch] 31)).chg hc4 n5
    have YY := (HY3.out.alloc (.cells #[.int .i64 cl, .int .i64 ch] 31)).chg hc4 n6
    have Z44 := (HZ3.out.alloc (.cells #[.int .i64 cl, .int .i64 ch] 31)).chg hc4 n4
    have HW4 := Lib.hid (Below.trans (grew_tr HW3.out (grew_al (Below.refl _ _) (.cells #[.int .i64 cl, .int .i64 ch] 31))) (hc4.belowB (grew_tr HW3.out (grew_al (Below.refl _ _) _)).size (fun k hk => by subst hk; omega)))
    have HO4 := Lib.hid ho4
    have F0 := EE.cell 0
    have F1 := EE.cell 1
    have F2 := EE.cell 2
    have F3 := EE.cell 3
    have Fl := EE.lt
    have Ff := fun j => EE.frozen j
    have r0 := YY.cell 0
    have r1 := YY.cell 1
    have rl6 := YY.lt
    simp only [List.getElem?_toArray, List.getElem?_cons_zero, List.getElem?_cons_succ] at F0 F1 F2 F3 r0 r1
    have HEE := Lib.hid EE
    have HZ4 := Lib.hid Z44
    have n65 : g6 ≠ w1.heap.size := by omega
    have n56 : w1.heap.size ≠ g6 := by omega
    have n35 : w.heap.size + 1 ≠ w1.heap.size := by omega
    have n53 : w1.heap.size ≠ w.heap.size + 1 := by omega
    clear EE YY Z44 ho4 E0 E1 E2 E3 El
    have hcA : Chg (fun b => b = w1.heap.size) w4 ((((w4.setCell ⟨w1.heap.size, 0, none⟩ (.bool true)).setCell ⟨w1.heap.size, 1, none⟩ (.slice (some ⟨rb, 0, none⟩) 4 c)).setCell ⟨w1.heap.size, 2, none⟩ (.int .i64 lo)).setCell ⟨w1.heap.size, 3, none⟩ (.int .i64 hi)) := by repeat (first | with_reducible exact Chg.refl _ _ | with_reducible refine Chg.alw (F := fun b => b = w1.heap.size) ?_ rfl _)
    have hwA : Grew w ((((w4.setCell ⟨w1.heap.size, 0, none⟩ (.bool true)).setCell ⟨w1.heap.size, 1, none⟩ (.slice (some ⟨rb, 0, none⟩) 4 c)).setCell ⟨w1.heap.size, 2, none⟩ (.int .i64 lo)).setCell ⟨w1.heap.size, 3, none⟩ (.int .i64 hi)) := by repeat (first | with_reducible exact HW4.out | with_reducible refine grew_set ?_ (by first | omega | (simp only; omega)) _)
    have HO5 := Lib.hid (HO4.out.chg hcA (fun e => n5 e.symm))
    have HZ5 := Lib.hid (HZ4.out.chg hcA (by omega))
    have HW5 := Lib.hid hwA
    clear hcA hwA
    go_wp2_with fail
    refine (HBSET.out _ HO5.out).mono ?_
    rintro e w2 ⟨rfl, ho2, hc2⟩
    have ZZ := HZ5.out.chg hc2 n4
    have HW2 := Lib.hid (Below.trans HW5.out (hc2.belowB HW5.out.size (fun k hk => by subst hk; omega)))
    clear F0 F1 F2 F3 Fl Ff i0 i1 i3
    have HO2 := Lib.hid ho2
    have z0 := ZZ.cell 0
    have z1 := ZZ.cell 1
    have z2 := ZZ.cell 2
    have z3 := ZZ.cell 3
    have zl := ZZ.lt
    have zf := fun j => ZZ.frozen j
    simp only [List.getElem?_toArray, List.getElem?_cons_zero, List.getElem?_cons_succ] at z0 z1 z2 z3
    clear ZZ ho2 hc2 r0 r1
    go_wp2
    refine bodyPost_ret (by simp [results, Tryz.results121, go_sem, z0, z1, z2, z3, zl]; try rfl) rfl ?_
    refine ⟨?_, rb, c, rfl, fun z hz => ?_⟩
    · repeat (first | with_reducible exact HW2.out | with_reducible refine grew_set ?_ (by first | omega | (simp only; omega)) _)
    · cases hz
      simp only
      rw [← HCV.out, HXS2.out]
      refine OwnR.chg (F := fun b => b = w.heap.size + 1 + 1) HO2.out ?_ (fun e => n4 e.symm)
      repeat (first | with_reducible exact Chg.refl _ _ | with_reducible refine Chg.alw (F := fun b => b = w.heap.size + 1 + 1) ?_ rfl _)
end Go.Proofs.YtpmfpgbpndobpaaGreat
