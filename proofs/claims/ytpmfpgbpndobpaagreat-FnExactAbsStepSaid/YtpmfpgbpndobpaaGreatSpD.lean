/- States by value in memory of their own: the reference's l7Holds, l7Otherwise. No condition. -/
import Derived.Test.YtpmfpgbpndobpaaGreatSpC
namespace Go.Proofs.YtpmfpgbpndobpaaGreat
open Go.RowKit
set_option linter.unusedVariables false
set_option linter.unusedSimpArgs false
attribute [local go_sem] ext_cell ext_frozen ext_lt ext_le ext_le1 lt_s2 lt_s3 lt_s4 lt_s5 lt_s6 ext_lt1 ext_lt2 ext_lt3

/-- A state by value comes back in memory of its own, or none. -/
def RetO (o : Option (List Itv × Itv)) (w : World) (e : Ending) (w' : World) : Prop :=
  Grew w w' ∧ ∃ rb c, e = .returned (stV o rb c) ∧ ∀ z, o = some z → OwnR w' w.heap.size rb c z.1
theorem specItvRelA (rel : Int) (a b : Itv) (w : World) (h : 1 ≤ rel ∧ rel ≤ 4) (ha : itvB a = true) (hb : itvB b = true) :
    Calls Tryz.prog 142 #[.int .i64 rel, a.v, b.v] w fun e w' => e = .returned (relV (relI rel a b)) ∧ Grew w w' := by
  rcases (show rel = 1 ∨ rel = 2 ∨ rel = 3 ∨ rel = 4 from by omega) with rfl | rfl | rfl | rfl
  · exact specItvRel1 a b w ha hb
  · exact specItvRel2 a b w ha hb
  · exact specItvRel3 a b w ha hb
  · exact specItvRel4 a b w ha hb
theorem specItvNotA (rel : Int) (a b : Itv) (w : World) (h : 1 ≤ rel ∧ rel ≤ 4) (ha : itvB a = true) (hb : itvB b = true) :
    Calls Tryz.prog 144 #[.int .i64 rel, a.v, b.v] w fun e w' => e = .returned (relV (notI rel a b)) ∧ Grew w w' := by
  rcases (show rel = 1 ∨ rel = 2 ∨ rel = 3 ∨ rel = 4 from by omega) with rfl | rfl | rfl | rfl
  · exact specItvNot1 a b w ha hb
  · exact specItvNot2 a b w ha hb
  · exact specItvNot3 a b w ha hb
  · exact specItvNot4 a b w ha hb
set_option maxRecDepth 100000 in
set_option maxHeartbeats 8000000 in
theorem specL7Holds (xa : Option Addr) (xc : Nat) (xs : List Itv) (lo hi : Int) (i : Ins) (w : World) (hx : RdL EItv 2 w xa 4 xs) (hs : stOkB true xs lo hi = true) (ha : varB i.a = true) (hb : varB i.b = true) (hrel : 1 ≤ i.rel ∧ i.rel ≤ 4) :
    Calls Tryz.prog 118 #[.agg #[.bool true, .slice xa 4 xc, .int .i64 lo, .int .i64 hi], i.v] w (RetO ((relSt (relI i.rel (nthI xs i.a) (nthI xs i.b)) xs i.a i.b).map fun zs => (zs, (⟨lo, hi⟩ : Itv))) w) := by
  obtain ⟨op, d, a, b, rel, ilo, ihi, to⟩ := i
  simp only at ha hb hrel
  have hTW := fun B rb c W (hW : OwnR W B rb c xs) => specL7Two B rb c xs lo hi ⟨op, d, a, b, rel, ilo, ihi, to⟩ (relI rel (nthI xs a) (nthI xs b)) W hW hs ha hb (fun p hp => relI_ok hp)
  have hRL := fun W => specItvRelA rel (nthI xs a) (nthI xs b) W hrel (nthI_ok hs ha) (nthI_ok hs hb)
  obtain ⟨aj, rfl, hja, hxa⟩ := nthI_get hx.len ha
  obtain ⟨bj, rfl, hjb, hxb⟩ := nthI_get hx.len hb
  simp only at hTW hRL ⊢
  obtain ⟨RR, hRR⟩ : ∃ r, relSt (relI rel (nthI xs aj) (nthI xs bj)) xs aj bj = r := ⟨_, rfl⟩
  rw [hRR] at hTW ⊢
  rw [relV_eq] at hRL
  obtain ⟨O, hO⟩ : ∃ o, relI rel (nthI xs aj) (nthI xs bj) = o := ⟨_, rfl⟩
  rw [hO] at hTW hRL
  obtain ⟨⟨xl, xh⟩, hx5⟩ : ∃ x, rA O = x := ⟨_, rfl⟩
  obtain ⟨⟨yl, yh⟩, hy5⟩ : ∃ x, rB O = x := ⟨_, rfl⟩
  obtain ⟨m, hm5⟩ : ∃ x, O.isSome = x := ⟨_, rfl⟩
  rw [hx5, hy5, hm5] at hTW hRL
  obtain ⟨⟨al, ah⟩, hXa⟩ : ∃ x, nthI xs aj = x := ⟨_, rfl⟩
  obtain ⟨⟨bl, bh⟩, hXb⟩ : ∃ x, nthI xs bj = x := ⟨_, rfl⟩
  rw [hXa, hXb] at hRL
  rw [hXa] at hxa
  rw [hXb] at hxb
  obtain ⟨xb, xoff, al', ah', hxa', hy1, ac0, ac1, alt⟩ := rdItv_at hx hja
  rw [hy1] at hxa
  cases hxa
  obtain ⟨xb', xoff', bl', bh', hxb', hy2, bc0, bc1, blt⟩ := rdItv_at hx hjb
  rw [hy2] at hxb
  cases hxb
  rw [hxa'] at hxb'
  cases hxb'
  subst hxa'
  have HX := Lib.hid hx
  have HTW := Lib.hid hTW
  have HI := Lib.hid hRL
  have HC0 := Lib.hid (⟨ac0, ac1, bc0, bc1⟩ : w.cell? ⟨xb, xoff + aj * 2, none⟩ = some (.int .i64 al) ∧ w.cell? ⟨xb, xoff + aj * 2 + 1, none⟩ = some (.int .i64 ah) ∧ w.cell? ⟨xb, xoff + bj * 2, none⟩ = some (.int .i64 bl) ∧ w.cell? ⟨xb, xoff + bj * 2 + 1, none⟩ = some (.int .i64 bh))
  clear hTW hRL hRR hO hx5 hy5 hm5 hXa hXb hx hs ha hb hrel hy1 hy2 ac0 ac1 bc0 bc1 blt
  have haq : ¬ (4 : Int) ≤ (aj : Int) := by omega
  have hbq : ¬ (4 : Int) ≤ (bj : Int) := by omega
  go_enter Tryz.func118, Tryz.ntmps118
  go_upto_region 1 with fail
  refine wp_letH ?_
  intro E hE
  have GO := Lib.hid (show Grew w E from by rw [hE]; exact gr)
  have q0 : E.cell? ⟨w.heap.size, 0, none⟩ = some (.bool true) := by rw [hE]; simp [go_sem]
  have q1 : E.cell? ⟨w.heap.size, 1, none⟩ = some (.slice (some ⟨xb, xoff, none⟩) 4 xc) := by rw [hE]; simp [go_sem]
  have q2 : E.cell? ⟨w.heap.size, 2, none⟩ = some (.int .i64 lo) := by rw [hE]; simp [go_sem]
  have q3 : E.cell? ⟨w.heap.size, 3, none⟩ = some (.int .i64 hi) := by rw [hE]; simp [go_sem]
  have q4 : E.cell? ⟨w.heap.size + 1, 0, none⟩ = some (.int .i64 op) := by rw [hE]; simp [go_sem]
  have q5 : E.cell? ⟨w.heap.size + 1, 1, none⟩ = some (.int .i64 d) := by rw [hE]; simp [go_sem]
  have q6 : E.cell? ⟨w.heap.size + 1, 2, none⟩ = some (.int .i64 (aj : Int)) := by rw [hE]; simp [go_sem]
  have q7 : E.cell? ⟨w.heap.size + 1, 3, none⟩ = some (.int .i64 (bj : Int)) := by rw [hE]; simp [go_sem]
  have q8 : E.cell? ⟨w.heap.size + 1, 4, none⟩ = some (.int .i64 rel) := by rw [hE]; simp [go_sem]
  have q9 : E.cell? ⟨w.heap.size + 1, 5, none⟩ = some (.int .i64 ilo) := by rw [hE]; simp [go_sem]
  have q10 : E.cell? ⟨w.heap.size + 1, 6, none⟩ = some (.int .i64 ihi) := by rw [hE]; simp [go_sem]
  have q11 : E.cell? ⟨w.heap.size + 1, 7, none⟩ = some (.int .i64 to) := by rw [hE]; simp [go_sem]
  have Z4 : Blk E (w.heap.size + 1 + 1) 33 #[.bool false, .slice none 0 0, .int .i64 0, .int .i64 0] := by rw [hE]; exact Blk.new' (by simp only [World.size_alloc])
  have xx0 := (GO.out.cell (p := ⟨xb, xoff + aj * 2, none⟩) alt).trans HC0.out.1
  have xx1 := (GO.out.cell (p := ⟨xb, xoff + aj * 2 + 1, none⟩) alt).trans HC0.out.2.1
  have xx2 := (GO.out.cell (p := ⟨xb, xoff + bj * 2, none⟩) alt).trans HC0.out.2.2.1
  have xx3 := (GO.out.cell (p := ⟨xb, xoff + bj * 2 + 1, none⟩) alt).trans HC0.out.2.2.2
  clear hE
  obtain ⟨VV, v0, v1, v2, v3, v4, v5, v6, v7, v8, v9, v10, v11, v12, v13, v14, v15, v16, v17, v18, v19, v20, v21, v22, v23, -⟩ := vl [.pointer (some ⟨w.heap.size + 1, 4, none⟩), .int .i64 (rel), .pointer (some ⟨w.heap.size, 1, none⟩), .slice (some ⟨xb, xoff, none⟩) 4 xc, .pointer (some ⟨w.heap.size + 1, 2, none⟩), .int .i64 ((aj : Int)), .pointer (some ⟨xb, xoff + aj * 2, none⟩), .agg #[.int .i64 al, .int .i64 ah], .pointer (some ⟨w.heap.size, 1, none⟩), .slice (some ⟨xb, xoff, none⟩) 4 xc, .pointer (some ⟨w.heap.size + 1, 3, none⟩), .int .i64 ((bj : Int)), .pointer (some ⟨xb, xoff + bj * 2, none⟩), .agg #[.int .i64 bl, .int .i64 bh], .tuple #[.agg #[.int .i64 xl, .int .i64 xh], .agg #[.int .i64 yl, .int .i64 yh], .bool m], .tuple #[.agg #[.int .i64 xl, .int .i64 xh], .agg #[.int .i64 yl, .int .i64 yh], .bool m], .agg #[.int .i64 xl, .int .i64 xh], .agg #[.int .i64 yl, .int .i64 yh], .bool m, undef, undef, undef, undef, .bool m]
  have HK := fun W (c : Chg (preB [⟨some 19, 0, 21, 31, #[.int .i64 0, .int .i64 0], #[.int .i64 xl, .int .i64 xh]⟩, ⟨some 20, 0, 22, 31, #[.int .i64 0, .int .i64 0], #[.int .i64 yl, .int .i64 yh]⟩]) _ W) => And.intro (ck c q1) (And.intro (ck c q8) (And.intro (ck c q6) (And.intro (ck c q7) (And.intro (ck c xx0) (And.intro (ck c xx1) (And.intro (ck c xx2) (ck c xx3)))))))
  refine region_box 34 [⟨some 19, 0, 21, 31, #[.int .i64 0, .int .i64 0], #[.int .i64 xl, .int .i64 xh]⟩, ⟨some 20, 0, 22, 31, #[.int .i64 0, .int .i64 0], #[.int .i64 yl, .int .i64 yh]⟩] VV (by kernel_rfl) rfl (by kernel_rfl) rfl (by intro b hb ha; simp only [List.mem_cons, List.not_mem_nil, or_false] at hb; rcases hb with rfl | rfl <;> first | (cases ha; done) | assumption) (by intro j k b c hjk hj hk hb hc; rcases j with _ | _ | j <;> rcases k with _ | _ | k <;> simp at hj hk hjk <;> (try subst hj) <;> (try subst hk) <;> first | (cases hb; done) | (cases hc; done) | (simp only; omega)) ⟨?_, ?_, ?_, ?_, ?_, ?_, ?_, ?_, ?_, ?_, ?_, ?_, ?_, ?_, ?_, ?_, ?_, ?_, ?_, ?_, ?_, ?_, ?_, ?_, trivial⟩ ?_
  · exact b_vx v0 rfl rfl (fun gm a W h => by have e3 : a.eval (.tmp 3) = .pointer (some ⟨w.heap.size + 1, 0, none⟩) := (h.slot 3 (by kernel_rfl)).trans rfl; simp only [execOp, e3]; first | (simp [go_sem, haq, hbq] <;> first | exact wrapIn | rfl) | kernel_rfl)
  · exact b_vx v1 rfl rfl (fun gm a W h => by have e9 := (h.vb 0 9).trans v0; obtain ⟨kq1, kq8, kq6, kq7, kxx0, kxx1, kxx2, kxx3⟩ := HK W h.chg; simp only [execOp, e9]; first | (simp [go_sem, kq1, kq8, kq6, kq7, kxx0, kxx1, kxx2, kxx3, haq, hbq] <;> first | exact wrapIn | rfl) | kernel_rfl)
  · exact b_vx v2 rfl rfl (fun gm a W h => by have e2 : a.eval (.tmp 2) = .pointer (some ⟨w.heap.size, 0, none⟩) := (h.slot 2 (by kernel_rfl)).trans rfl; simp only [execOp, e2]; first | (simp [go_sem, haq, hbq] <;> first | exact wrapIn | rfl) | kernel_rfl)
  · exact b_vx v3 rfl rfl (fun gm a W h => by have e11 := (h.vb 2 11).trans v2; obtain ⟨kq1, kq8, kq6, kq7, kxx0, kxx1, kxx2, kxx3⟩ := HK W h.chg; simp only [execOp, e11]; first | (simp [go_sem, kq1, kq8, kq6, kq7, kxx0, kxx1, kxx2, kxx3, haq, hbq] <;> first | exact wrapIn | rfl) | kernel_rfl)
  · exact b_vx v4 rfl rfl (fun gm a W h => by have e3 : a.eval (.tmp 3) = .pointer (some ⟨w.heap.size + 1, 0, none⟩) := (h.slot 3 (by kernel_rfl)).trans rfl; simp only [execOp, e3]; first | (simp [go_sem, haq, hbq] <;> first | exact wrapIn | rfl) | kernel_rfl)
  · exact b_vx v5 rfl rfl (fun gm a W h => by have e13 := (h.vb 4 13).trans v4; obtain ⟨kq1, kq8, kq6, kq7, kxx0, kxx1, kxx2, kxx3⟩ := HK W h.chg; simp only [execOp, e13]; first | (simp [go_sem, kq1, kq8, kq6, kq7, kxx0, kxx1, kxx2, kxx3, haq, hbq] <;> first | exact wrapIn | rfl) | kernel_rfl)
  · exact b_vx v6 rfl rfl (fun gm a W h => by have e12 := (h.vb 3 12).trans v3; have e14 := (h.vb 5 14).trans v5; simp only [execOp, e12, e14]; first | (simp [go_sem, haq, hbq] <;> first | exact wrapIn | rfl) | kernel_rfl)
  · exact b_vx v7 rfl rfl (fun gm a W h => by have e15 := (h.vb 6 15).trans v6; obtain ⟨kq1, kq8, kq6, kq7, kxx0, kxx1, kxx2, kxx3⟩ := HK W h.chg; simp only [execOp, e15]; first | (simp [go_sem, kq1, kq8, kq6, kq7, kxx0, kxx1, kxx2, kxx3, haq, hbq] <;> first | exact wrapIn | rfl) | kernel_rfl)
  · exact b_vx v8 rfl rfl (fun gm a W h => by have e2 : a.eval (.tmp 2) = .pointer (some ⟨w.heap.size, 0, none⟩) := (h.slot 2 (by kernel_rfl)).trans rfl; simp only [execOp, e2]; first | (simp [go_sem, haq, hbq] <;> first | exact wrapIn | rfl) | kernel_rfl)
  · exact b_vx v9 rfl rfl (fun gm a W h => by have e17 := (h.vb 8 17).trans v8; obtain ⟨kq1, kq8, kq6, kq7, kxx0, kxx1, kxx2, kxx3⟩ := HK W h.chg; simp only [execOp, e17]; first | (simp [go_sem, kq1, kq8, kq6, kq7, kxx0, kxx1, kxx2, kxx3, haq, hbq] <;> first | exact wrapIn | rfl) | kernel_rfl)
  · exact b_vx v10 rfl rfl (fun gm a W h => by have e3 : a.eval (.tmp 3) = .pointer (some ⟨w.heap.size + 1, 0, none⟩) := (h.slot 3 (by kernel_rfl)).trans rfl; simp only [execOp, e3]; first | (simp [go_sem, haq, hbq] <;> first | exact wrapIn | rfl) | kernel_rfl)
  · exact b_vx v11 rfl rfl (fun gm a W h => by have e19 := (h.vb 10 19).trans v10; obtain ⟨kq1, kq8, kq6, kq7, kxx0, kxx1, kxx2, kxx3⟩ := HK W h.chg; simp only [execOp, e19]; first | (simp [go_sem, kq1, kq8, kq6, kq7, kxx0, kxx1, kxx2, kxx3, haq, hbq] <;> first | exact wrapIn | rfl) | kernel_rfl)
  · exact b_vx v12 rfl rfl (fun gm a W h => by have e18 := (h.vb 9 18).trans v9; have e20 := (h.vb 11 20).trans v11; simp only [execOp, e18, e20]; first | (simp [go_sem, haq, hbq] <;> first | exact wrapIn | rfl) | kernel_rfl)
  · exact b_vx v13 rfl rfl (fun gm a W h => by have e21 := (h.vb 12 21).trans v12; obtain ⟨kq1, kq8, kq6, kq7, kxx0, kxx1, kxx2, kxx3⟩ := HK W h.chg; simp only [execOp, e21]; first | (simp [go_sem, kq1, kq8, kq6, kq7, kxx0, kxx1, kxx2, kxx3, haq, hbq] <;> first | exact wrapIn | rfl) | kernel_rfl)
  · exact b_cx v14 rfl rfl (fun gm a W h => by
      have e10 := (h.vb 1 10).trans v1
      have e16 := (h.vb 7 16).trans v7
      have e22 := (h.vb 13 22).trans v13
      refine Eq.trans (b := .ok (.enter 142 #[a.eval (.tmp 10), a.eval (.tmp 16), a.eval (.tmp 22)]) W) (by kernel_rfl) ?_
      rw [e10, e16, e22]) (fun W => HI.out W)
  · exact b_vx v15 rfl rfl (fun gm a W h => by have e23 := (h.vb 14 23).trans v14; simp only [execOp, e23]; first | (simp [go_sem, haq, hbq] <;> first | exact wrapIn | rfl) | kernel_rfl)
  · exact b_vx v16 rfl rfl (fun gm a W h => by have e8 := (h.vb 15 8).trans v15; simp only [execOp, e8]; first | (simp [go_sem, haq, hbq] <;> first | exact wrapIn | rfl) | kernel_rfl)
  · exact b_vx v17 rfl rfl (fun gm a W h => by have e8 := (h.vb 15 8).trans v15; simp only [execOp, e8]; first | (simp [go_sem, haq, hbq] <;> first | exact wrapIn | rfl) | kernel_rfl)
  · exact b_vx v18 rfl rfl (fun gm a W h => by have e8 := (h.vb 15 8).trans v15; simp only [execOp, e8]; first | (simp [go_sem, haq, hbq] <;> first | exact wrapIn | rfl) | kernel_rfl)
  · exact b_alloc 0 _ rfl rfl rfl (by kernel_rfl) rfl (fun gm a W h => by kernel_rfl)
  · exact b_alloc 1 _ rfl rfl rfl (by kernel_rfl) rfl (fun gm a W h => by kernel_rfl)
  · refine b_store 0 _ rfl rfl rfl v21 (fun j hj => by cases hj; exact ⟨5, ⟨⟨⟨19, .data⟩, by simp, rfl, by kernel_rfl⟩, by kernel_rfl⟩⟩) rfl (fun gm a W h hold hb => ?_)
    have e5 : a.eval (.tmp 5) = .pointer (some ⟨gm 0, 0, none⟩) := (h.vb 19 5).trans rfl
    have e24 := (h.vb 16 24).trans v16
    simp only at hb
    have hf := fun j => hb.frozen j
    have c0 := hb.cell 0
    have c1 := hb.cell 1
    refine ⟨_, by (simp only [execOp, e5, e24]; simp [go_sem, hf, c0, c1, haq, hbq]; try rfl), (hb.set_ 0 _).set_ 1 _, chgs2 _ _ _ _ _ _⟩
  · refine b_store 1 _ rfl rfl rfl v22 (fun j hj => by cases hj; exact ⟨6, ⟨⟨⟨20, .data⟩, by simp, rfl, by kernel_rfl⟩, by kernel_rfl⟩⟩) rfl (fun gm a W h hold hb => ?_)
    have e6 : a.eval (.tmp 6) = .pointer (some ⟨gm 1, 0, none⟩) := (h.vb 20 6).trans rfl
    have e25 := (h.vb 17 25).trans v17
    simp only at hb
    have hf := fun j => hb.frozen j
    have c0 := hb.cell 0
    have c1 := hb.cell 1
    refine ⟨_, by (simp only [execOp, e6, e25]; simp [go_sem, hf, c0, c1, haq, hbq]; try rfl), (hb.set_ 0 _).set_ 1 _, chgs2 _ _ _ _ _ _⟩
  · exact b_vx v23 rfl rfl (fun gm a W h => by have e26 := (h.vb 18 26).trans v18; simp only [execOp, e26]; first | (simp [go_sem, haq, hbq] <;> first | exact wrapIn | rfl) | kernel_rfl)
  intro gm vs w9 hc9 hb9 hold9 hge9 hv9
  have x0 := (hv9 0 9 (by kernel_rfl)).trans v0
  have x1 := (hv9 1 10 (by kernel_rfl)).trans v1
  have x2 := (hv9 2 11 (by kernel_rfl)).trans v2
  have x3 := (hv9 3 12 (by kernel_rfl)).trans v3
  have x4 := (hv9 4 13 (by kernel_rfl)).trans v4
  have x5 := (hv9 5 14 (by kernel_rfl)).trans v5
  have x6 := (hv9 6 15 (by kernel_rfl)).trans v6
  have x7 := (hv9 7 16 (by kernel_rfl)).trans v7
  have x8 := (hv9 8 17 (by kernel_rfl)).trans v8
  have x9 := (hv9 9 18 (by kernel_rfl)).trans v9
  have x10 := (hv9 10 19 (by kernel_rfl)).trans v10
  have x11 := (hv9 11 20 (by kernel_rfl)).trans v11
  have x12 := (hv9 12 21 (by kernel_rfl)).trans v12
  have x13 := (hv9 13 22 (by kernel_rfl)).trans v13
  have x14 := (hv9 14 23 (by kernel_rfl)).trans v14
  have x15 := (hv9 15 8 (by kernel_rfl)).trans v15
  have x16 := (hv9 16 24 (by kernel_rfl)).trans v16
  have x17 := (hv9 17 25 (by kernel_rfl)).trans v17
  have x18 := (hv9 18 26 (by kernel_rfl)).trans v18
  have x19 : vs 19 = .pointer (some ⟨gm 0, 0, none⟩) := (hv9 19 5 (by kernel_rfl)).trans rfl
  have x20 : vs 20 = .pointer (some ⟨gm 1, 0, none⟩) := (hv9 20 6 (by kernel_rfl)).trans rfl
  have x23 := (hv9 23 7 (by kernel_rfl)).trans v23
  have y0 := hb9 0 _ rfl
  have g0 := hge9 0 _ 19 rfl rfl
  simp only at y0
  have y1 := hb9 1 _ rfl
  have g1 := hge9 1 _ 20 rfl rfl
  simp only at y1
  simp only [putAll, Act.put, List.setIfInBounds_toArray, List.set_cons_zero, List.set_cons_succ, Nat.zero_add, Nat.reduceAdd, x0, x1, x2, x3, x4, x5, x6, x7, x8, x9, x10, x11, x12, x13, x14, x15, x16, x17, x18, x19, x20, x23]
  clear hb9 hold9 hge9 hv9 x0 x1 x2 x3 x4 x5 x6 x7 x8 x9 x10 x11 x12 x13 x14 x15 x16 x17 x18 x19 x20 x23 v0 v1 v2 v3 v4 v5 v6 v7 v8 v9 v10 v11 v12 v13 v14 v15 v16 v17 v18 v19 v20 v21 v22 v23 HK VV
  have G9 := chg_pre hc9 (by intro b hb; simp only [List.mem_cons, List.not_mem_nil, or_false] at hb; rcases hb with rfl | rfl <;> simp)
  have HW9 := Lib.hid (grew_tr GO.out G9)
  obtain ⟨g5, hg5⟩ : ∃ g, gm 0 = g := ⟨_, rfl⟩
  obtain ⟨g6, hg6⟩ : ∃ g, gm 1 = g := ⟨_, rfl⟩
  rw [hg5] at y0 g0 ⊢
  rw [hg6] at y1 g1 ⊢
  have r0 := y0.cell 0
  have r1 := y0.cell 1
  have s0 := y1.cell 0
  have s1 := y1.cell 1
  simp only [List.getElem?_toArray, List.getElem?_cons_zero, List.getElem?_cons_succ] at r0 r1 s0 s1
  have r5l := y0.lt
  have r6l := y1.lt
  have hszE := GO.out.size
  have hsz9 := G9.size
  have hszx : w.heap.size + 1 + 1 < E.heap.size := Z4.lt
  have HZ9 := Lib.hid (Z4.grew G9)
  have q0 := (G9.cell (p := ⟨w.heap.size, 0, none⟩) (World.block_lt_of_cell? _ _ q0)).trans q0
  have q1 := (G9.cell (p := ⟨w.heap.size, 1, none⟩) (World.block_lt_of_cell? _ _ q1)).trans q1
  have q2 := (G9.cell (p := ⟨w.heap.size, 2, none⟩) (World.block_lt_of_cell? _ _ q2)).trans q2
  have q3 := (G9.cell (p := ⟨w.heap.size, 3, none⟩) (World.block_lt_of_cell? _ _ q3)).trans q3
  have q4 := (G9.cell (p := ⟨w.heap.size + 1, 0, none⟩) (World.block_lt_of_cell? _ _ q4)).trans q4
  have q5 := (G9.cell (p := ⟨w.heap.size + 1, 1, none⟩) (World.block_lt_of_cell? _ _ q5)).trans q5
  have q6 := (G9.cell (p := ⟨w.heap.size + 1, 2, none⟩) (World.block_lt_of_cell? _ _ q6)).trans q6
  have q7 := (G9.cell (p := ⟨w.heap.size + 1, 3, none⟩) (World.block_lt_of_cell? _ _ q7)).trans q7
  have q8 := (G9.cell (p := ⟨w.heap.size + 1, 4, none⟩) (World.block_lt_of_cell? _ _ q8)).trans q8
  have q9 := (G9.cell (p := ⟨w.heap.size + 1, 5, none⟩) (World.block_lt_of_cell? _ _ q9)).trans q9
  have q10 := (G9.cell (p := ⟨w.heap.size + 1, 6, none⟩) (World.block_lt_of_cell? _ _ q10)).trans q10
  have q11 := (G9.cell (p := ⟨w.heap.size + 1, 7, none⟩) (World.block_lt_of_cell? _ _ q11)).trans q11
  have HSG := Lib.hid (fun W (g : Grew w9 W) => (⟨(g.cell (p := ⟨w.heap.size, 0, none⟩) (World.block_lt_of_cell? _ _ q0)).trans q0, (g.cell (p := ⟨w.heap.size, 1, none⟩) (World.block_lt_of_cell? _ _ q1)).trans q1, (g.cell (p := ⟨w.heap.size, 2, none⟩) (World.block_lt_of_cell? _ _ q2)).trans q2, (g.cell (p := ⟨w.heap.size, 3, none⟩) (World.block_lt_of_cell? _ _ q3)).trans q3, (g.cell (p := ⟨w.heap.size + 1, 0, none⟩) (World.block_lt_of_cell? _ _ q4)).trans q4, (g.cell (p := ⟨w.heap.size + 1, 1, none⟩) (World.block_lt_of_cell? _ _ q5)).trans q5, (g.cell (p := ⟨w.heap.size + 1, 2, none⟩) (World.block_lt_of_cell? _ _ q6)).trans q6, (g.cell (p := ⟨w.heap.size + 1, 3, none⟩) (World.block_lt_of_cell? _ _ q7)).trans q7, (g.cell (p := ⟨w.heap.size + 1, 4, none⟩) (World.block_lt_of_cell? _ _ q8)).trans q8, (g.cell (p := ⟨w.heap.size + 1, 5, none⟩) (World.block_lt_of_cell? _ _ q9)).trans q9, (g.cell (p := ⟨w.heap.size + 1, 6, none⟩) (World.block_lt_of_cell? _ _ q10)).trans q10, (g.cell (p := ⟨w.heap.size + 1, 7, none⟩) (World.block_lt_of_cell? _ _ q11)).trans q11, (g.cell (p := ⟨g5, 0, none⟩) (World.block_lt_of_cell? _ _ r0)).trans r0, (g.cell (p := ⟨g5, 1, none⟩) (World.block_lt_of_cell? _ _ r1)).trans r1, (g.cell (p := ⟨g6, 0, none⟩) (World.block_lt_of_cell? _ _ s0)).trans s0, (g.cell (p := ⟨g6, 1, none⟩) (World.block_lt_of_cell? _ _ s1)).trans s1⟩ : W.cell? ⟨w.heap.size, 0, none⟩ = some (.bool true) ∧ W.cell? ⟨w.heap.size, 1, none⟩ = some (.slice (some ⟨xb, xoff, none⟩) 4 xc) ∧ W.cell? ⟨w.heap.size, 2, none⟩ = some (.int .i64 lo) ∧ W.cell? ⟨w.heap.size, 3, none⟩ = some (.int .i64 hi) ∧ W.cell? ⟨w.heap.size + 1, 0, none⟩ = some (.int .i64 op) ∧ W.cell? ⟨w.heap.size + 1, 1, none⟩ = some (.int .i64 d) ∧ W.cell? ⟨w.heap.size + 1, 2, none⟩ = some (.int .i64 (aj : Int)) ∧ W.cell? ⟨w.heap.size + 1, 3, none⟩ = some (.int .i64 (bj : Int)) ∧ W.cell? ⟨w.heap.size + 1, 4, none⟩ = some (.int .i64 rel) ∧ W.cell? ⟨w.heap.size + 1, 5, none⟩ = some (.int .i64 ilo) ∧ W.cell? ⟨w.heap.size + 1, 6, none⟩ = some (.int .i64 ihi) ∧ W.cell? ⟨w.heap.size + 1, 7, none⟩ = some (.int .i64 to) ∧ W.cell? ⟨g5, 0, none⟩ = some (.int .i64 xl) ∧ W.cell? ⟨g5, 1, none⟩ = some (.int .i64 xh) ∧ W.cell? ⟨g6, 0, none⟩ = some (.int .i64 yl) ∧ W.cell? ⟨g6, 1, none⟩ = some (.int .i64 yh)))
  have n54 : ¬ w.heap.size + 1 + 1 = g5 := by omega
  have n64 : ¬ w.heap.size + 1 + 1 = g6 := by omega
  have n24 : ¬ w.heap.size + 1 + 1 = w.heap.size := by omega
  have n34 : ¬ w.heap.size + 1 + 1 = w.heap.size + 1 := by omega
  clear y0 y1 hg5 hg6 hc9 G9 xx0 xx1 xx2 xx3 gm vs Z4 q0 q1 q2 q3 q4 q5 q6 q7 q8 q9 q10 q11 r0 r1 s0 s1 alt
  cases RR with
  | none =>
    go_upto_region 2 with fail
    refine wp_region_held_drew (S := (fun W => W.cell? ⟨w.heap.size, 0, none⟩ = some (.bool true) ∧ W.cell? ⟨w.heap.size, 1, none⟩ = some (.slice (some ⟨xb, xoff, none⟩) 4 xc) ∧ W.cell? ⟨w.heap.size, 2, none⟩ = some (.int .i64 lo) ∧ W.cell? ⟨w.heap.size, 3, none⟩ = some (.int .i64 hi) ∧ W.cell? ⟨w.heap.size + 1, 0, none⟩ = some (.int .i64 op) ∧ W.cell? ⟨w.heap.size + 1, 1, none⟩ = some (.int .i64 d) ∧ W.cell? ⟨w.heap.size + 1, 2, none⟩ = some (.int .i64 (aj : Int)) ∧ W.cell? ⟨w.heap.size + 1, 3, none⟩ = some (.int .i64 (bj : Int)) ∧ W.cell? ⟨w.heap.size + 1, 4, none⟩ = some (.int .i64 rel) ∧ W.cell? ⟨w.heap.size + 1, 5, none⟩ = some (.int .i64 ilo) ∧ W.cell? ⟨w.heap.size + 1, 6, none⟩ = some (.int .i64 ihi) ∧ W.cell? ⟨w.heap.size + 1, 7, none⟩ = some (.int .i64 to) ∧ W.cell? ⟨g5, 0, none⟩ = some (.int .i64 xl) ∧ W.cell? ⟨g5, 1, none⟩ = some (.int .i64 xh) ∧ W.cell? ⟨g6, 0, none⟩ = some (.int .i64 yl) ∧ W.cell? ⟨g6, 1, none⟩ = some (.int .i64 yh))) (by kernel_rfl) ?_ (fun hHeld => ?_)
    · (try dsimp only); (first | assumption | with_reducible exact hsF _ _ _ _ | with_reducible exact HSG.out _ (grew_d (Below.refl _ _)))
    refine wpAnyH_take (i := 0) (v := ?_) rfl (by kernel_rfl) (by kernel_rfl) (by kernel_rfl) (fun _ _ _ h => h) (Or.inl ⟨by rfl, ?_⟩) (by assumption) ?_
    rotate_left
    · (intro w hSw; (try dsimp only at hSw); go_simp; try with_reducible rfl)
    try simp only [List.getElem_toArray, List.getElem_cons_succ, List.getElem_cons_zero, Act.put, List.setIfInBounds_toArray, List.set_cons_zero, List.set_cons_succ]
    refine wpAnyH_take (i := 2) (v := ?_) rfl (by kernel_rfl) (by kernel_rfl) (by kernel_rfl) (fun _ _ _ h => h) (Or.inl ⟨by rfl, ?_⟩) (by assumption) ?_
    rotate_left
    · (intro w hSw; (try dsimp only at hSw); go_simp; try with_reducible rfl)
    try simp only [List.getElem_toArray, List.getElem_cons_succ, List.getElem_cons_zero, Act.put, List.setIfInBounds_toArray, List.set_cons_zero, List.set_cons_succ]
    refine wpAnyH_take (i := 3) (v := ?_) rfl (by kernel_rfl) (by kernel_rfl) (by kernel_rfl) (fun _ _ _ h => h) (Or.inl ⟨by rfl, ?_⟩) (by assumption) ?_
    rotate_left
    · (intro w hSw; (try dsimp only at hSw); go_simp; try with_reducible rfl)
    try simp only [List.getElem_toArray, List.getElem_cons_succ, List.getElem_cons_zero, Act.put, List.setIfInBounds_toArray, List.set_cons_zero, List.set_cons_succ]
    refine wpAnyH_take (i := 4) (v := ?_) rfl (by kernel_rfl) (by kernel_rfl) (by kernel_rfl) (fun _ _ _ h => h) (Or.inl ⟨by rfl, ?_⟩) (by assumption) ?_
    rotate_left
    · (intro w hSw; (try dsimp only at hSw); go_simp; try with_reducible rfl)
    try simp only [List.getElem_toArray, List.getElem_cons_succ, List.getElem_cons_zero, Act.put, List.setIfInBounds_toArray, List.set_cons_zero, List.set_cons_succ]
    refine wpAnyH_take (i := 5) (v := ?_) rfl (by kernel_rfl) (by kernel_rfl) (by kernel_rfl) (fun _ _ _ h => h) (Or.inl ⟨by rfl, ?_⟩) (by assumption) ?_
    rotate_left
    · (intro w hSw; (try dsimp only at hSw); go_simp; try with_reducible rfl)
    try simp only [List.getElem_toArray, List.getElem_cons_succ, List.getElem_cons_zero, Act.put, List.setIfInBounds_toArray, List.set_cons_zero, List.set_cons_succ]
    refine wpAnyH_ready (rs := [1]) (by kernel_rfl) (by simp) ?_
    refine AllReadyH.cons rfl (fun K hK => ?_) AllReadyH.nil
    try simp only [List.getElem_toArray, List.getElem_cons_succ, List.getElem_cons_zero]
    go_simp
    (refine (specL7Copy _ xc xs lo hi _ (HX.out.grew staysItv (grew_tr HW9.out (grew_d (Below.refl _ _))))).mono ?_; rintro e wh ⟨rb, cc, rfl, hor, ga⟩; have hgh : Grew w9 wh := grew_tr (grew_d (Below.refl _ _)) ga; have hs8 := HSG.out _ hgh; have hrb : w9.heap.size ≤ rb := (by have := hor.2.1; simpa using this); clear ga)
    refine hK.out _ _ ?_ (fun hHeld => ?_)
    · (try dsimp only); (first | assumption | with_reducible exact hsF _ _ _ _ | with_reducible exact HSG.out _ (grew_d (Below.refl _ _)))
    clear hK K
    try simp only [List.getElem_toArray, List.getElem_cons_succ, List.getElem_cons_zero, Act.put, List.setIfInBounds_toArray, List.set_cons_zero, List.set_cons_succ]
    refine wpAnyH_ready (rs := [6]) (by kernel_rfl) (by simp) ?_
    refine AllReadyH.cons rfl (fun K hK => ?_) AllReadyH.nil
    try simp only [List.getElem_toArray, List.getElem_cons_succ, List.getElem_cons_zero]
    go_simp
    (refine (HTW.out _ rb cc _ hor).mono ?_; rintro e w2 ⟨rfl, ⟨ys, hoy, hys⟩, hc2⟩; (try dsimp only [stV, Option.map_none, Option.map_some]); have hs9 : w2.cell? ⟨w.heap.size, 0, none⟩ = some (.bool true) ∧ w2.cell? ⟨w.heap.size, 1, none⟩ = some (.slice (some ⟨xb, xoff, none⟩) 4 xc) ∧ w2.cell? ⟨w.heap.size, 2, none⟩ = some (.int .i64 lo) ∧ w2.cell? ⟨w.heap.size, 3, none⟩ = some (.int .i64 hi) ∧ w2.cell? ⟨w.heap.size + 1, 0, none⟩ = some (.int .i64 op) ∧ w2.cell? ⟨w.heap.size + 1, 1, none⟩ = some (.int .i64 d) ∧ w2.cell? ⟨w.heap.size + 1, 2, none⟩ = some (.int .i64 (aj : Int)) ∧ w2.cell? ⟨w.heap.size + 1, 3, none⟩ = some (.int .i64 (bj : Int)) ∧ w2.cell? ⟨w.heap.size + 1, 4, none⟩ = some (.int .i64 rel) ∧ w2.cell? ⟨w.heap.size + 1, 5, none⟩ = some (.int .i64 ilo) ∧ w2.cell? ⟨w.heap.size + 1, 6, none⟩ = some (.int .i64 ihi) ∧ w2.cell? ⟨w.heap.size + 1, 7, none⟩ = some (.int .i64 to) ∧ w2.cell? ⟨g5, 0, none⟩ = some (.int .i64 xl) ∧ w2.cell? ⟨g5, 1, none⟩ = some (.int .i64 xh) ∧ w2.cell? ⟨g6, 0, none⟩ = some (.int .i64 yl) ∧ w2.cell? ⟨g6, 1, none⟩ = some (.int .i64 yh) := ⟨chg_cell hc2 hs8.1 (by omega), chg_cell hc2 hs8.2.1 (by omega), chg_cell hc2 hs8.2.2.1 (by omega), chg_cell hc2 hs8.2.2.2.1 (by omega), chg_cell hc2 hs8.2.2.2.2.1 (by omega), chg_cell hc2 hs8.2.2.2.2.2.1 (by omega), chg_cell hc2 hs8.2.2.2.2.2.2.1 (by omega), chg_cell hc2 hs8.2.2.2.2.2.2.2.1 (by omega), chg_cell hc2 hs8.2.2.2.2.2.2.2.2.1 (by omega), chg_cell hc2 hs8.2.2.2.2.2.2.2.2.2.1 (by omega), chg_cell hc2 hs8.2.2.2.2.2.2.2.2.2.2.1 (by omega), chg_cell hc2 hs8.2.2.2.2.2.2.2.2.2.2.2.1 (by omega), chg_cell hc2 hs8.2.2.2.2.2.2.2.2.2.2.2.2.1 (by omega), chg_cell hc2 hs8.2.2.2.2.2.2.2.2.2.2.2.2.2.1 (by omega), chg_cell hc2 hs8.2.2.2.2.2.2.2.2.2.2.2.2.2.2.1 (by omega), chg_cell hc2 hs8.2.2.2.2.2.2.2.2.2.2.2.2.2.2.2 (by omega)⟩; have hsF := (fun (u0 u1 u2 u3 : Value) => (⟨(by rw [World.cell?_setCell_far _ _ _ _ (by simp only [ne_eq]; exact n24), World.cell?_setCell_far _ _ _ _ (by simp only [ne_eq]; exact n24), World.cell?_setCell_far _ _ _ _ (by simp only [ne_eq]; exact n24), World.cell?_setCell_far _ _ _ _ (by simp only [ne_eq]; exact n24)]; exact hs9.1), (by rw [World.cell?_setCell_far _ _ _ _ (by simp only [ne_eq]; exact n24), World.cell?_setCell_far _ _ _ _ (by simp only [ne_eq]; exact n24), World.cell?_setCell_far _ _ _ _ (by simp only [ne_eq]; exact n24), World.cell?_setCell_far _ _ _ _ (by simp only [ne_eq]; exact n24)]; exact hs9.2.1), (by rw [World.cell?_setCell_far _ _ _ _ (by simp only [ne_eq]; exact n24), World.cell?_setCell_far _ _ _ _ (by simp only [ne_eq]; exact n24), World.cell?_setCell_far _ _ _ _ (by simp only [ne_eq]; exact n24), World.cell?_setCell_far _ _ _ _ (by simp only [ne_eq]; exact n24)]; exact hs9.2.2.1), (by rw [World.cell?_setCell_far _ _ _ _ (by simp only [ne_eq]; exact n24), World.cell?_setCell_far _ _ _ _ (by simp only [ne_eq]; exact n24), World.cell?_setCell_far _ _ _ _ (by simp only [ne_eq]; exact n24), World.cell?_setCell_far _ _ _ _ (by simp only [ne_eq]; exact n24)]; exact hs9.2.2.2.1), (by rw [World.cell?_setCell_far _ _ _ _ (by simp only [ne_eq]; exact n34), World.cell?_setCell_far _ _ _ _ (by simp only [ne_eq]; exact n34), World.cell?_setCell_far _ _ _ _ (by simp only [ne_eq]; exact n34), World.cell?_setCell_far _ _ _ _ (by simp only [ne_eq]; exact n34)]; exact hs9.2.2.2.2.1), (by rw [World.cell?_setCell_far _ _ _ _ (by simp only [ne_eq]; exact n34), World.cell?_setCell_far _ _ _ _ (by simp only [ne_eq]; exact n34), World.cell?_setCell_far _ _ _ _ (by simp only [ne_eq]; exact n34), World.cell?_setCell_far _ _ _ _ (by simp only [ne_eq]; exact n34)]; exact hs9.2.2.2.2.2.1), (by rw [World.cell?_setCell_far _ _ _ _ (by simp only [ne_eq]; exact n34), World.cell?_setCell_far _ _ _ _ (by simp only [ne_eq]; exact n34), World.cell?_setCell_far _ _ _ _ (by simp only [ne_eq]; exact n34), World.cell?_setCell_far _ _ _ _ (by simp only [ne_eq]; exact n34)]; exact hs9.2.2.2.2.2.2.1), (by rw [World.cell?_setCell_far _ _ _ _ (by simp only [ne_eq]; exact n34), World.cell?_setCell_far _ _ _ _ (by simp only [ne_eq]; exact n34), World.cell?_setCell_far _ _ _ _ (by simp only [ne_eq]; exact n34), World.cell?_setCell_far _ _ _ _ (by simp only [ne_eq]; exact n34)]; exact hs9.2.2.2.2.2.2.2.1), (by rw [World.cell?_setCell_far _ _ _ _ (by simp only [ne_eq]; exact n34), World.cell?_setCell_far _ _ _ _ (by simp only [ne_eq]; exact n34), World.cell?_setCell_far _ _ _ _ (by simp only [ne_eq]; exact n34), World.cell?_setCell_far _ _ _ _ (by simp only [ne_eq]; exact n34)]; exact hs9.2.2.2.2.2.2.2.2.1), (by rw [World.cell?_setCell_far _ _ _ _ (by simp only [ne_eq]; exact n34), World.cell?_setCell_far _ _ _ _ (by simp only [ne_eq]; exact n34), World.cell?_setCell_far _ _ _ _ (by simp only [ne_eq]; exact n34), World.cell?_setCell_far _ _ _ _ (by simp only [ne_eq]; exact n34)]; exact hs9.2.2.2.2.2.2.2.2.2.1), (by rw [World.cell?_setCell_far _ _ _ _ (by simp only [ne_eq]; exact n34), World.cell?_setCell_far _ _ _ _ (by simp only [ne_eq]; exact n34), World.cell?_setCell_far _ _ _ _ (by simp only [ne_eq]; exact n34), World.cell?_setCell_far _ _ _ _ (by simp only [ne_eq]; exact n34)]; exact hs9.2.2.2.2.2.2.2.2.2.2.1), (by rw [World.cell?_setCell_far _ _ _ _ (by simp only [ne_eq]; exact n34), World.cell?_setCell_far _ _ _ _ (by simp only [ne_eq]; exact n34), World.cell?_setCell_far _ _ _ _ (by simp only [ne_eq]; exact n34), World.cell?_setCell_far _ _ _ _ (by simp only [ne_eq]; exact n34)]; exact hs9.2.2.2.2.2.2.2.2.2.2.2.1), (by rw [World.cell?_setCell_far _ _ _ _ (by simp only [ne_eq]; exact n54), World.cell?_setCell_far _ _ _ _ (by simp only [ne_eq]; exact n54), World.cell?_setCell_far _ _ _ _ (by simp only [ne_eq]; exact n54), World.cell?_setCell_far _ _ _ _ (by simp only [ne_eq]; exact n54)]; exact hs9.2.2.2.2.2.2.2.2.2.2.2.2.1), (by rw [World.cell?_setCell_far _ _ _ _ (by simp only [ne_eq]; exact n54), World.cell?_setCell_far _ _ _ _ (by simp only [ne_eq]; exact n54), World.cell?_setCell_far _ _ _ _ (by simp only [ne_eq]; exact n54), World.cell?_setCell_far _ _ _ _ (by simp only [ne_eq]; exact n54)]; exact hs9.2.2.2.2.2.2.2.2.2.2.2.2.2.1), (by rw [World.cell?_setCell_far _ _ _ _ (by simp only [ne_eq]; exact n64), World.cell?_setCell_far _ _ _ _ (by simp only [ne_eq]; exact n64), World.cell?_setCell_far _ _ _ _ (by simp only [ne_eq]; exact n64), World.cell?_setCell_far _ _ _ _ (by simp only [ne_eq]; exact n64)]; exact hs9.2.2.2.2.2.2.2.2.2.2.2.2.2.2.1), (by rw [World.cell?_setCell_far _ _ _ _ (by simp only [ne_eq]; exact n64), World.cell?_setCell_far _ _ _ _ (by simp only [ne_eq]; exact n64), World.cell?_setCell_far _ _ _ _ (by simp only [ne_eq]; exact n64), World.cell?_setCell_far _ _ _ _ (by simp only [ne_eq]; exact n64)]; exact hs9.2.2.2.2.2.2.2.2.2.2.2.2.2.2.2)⟩ : ((((w2.setCell ⟨w.heap.size + 1 + 1, 0, none⟩ u0).setCell ⟨w.heap.size + 1 + 1, 1, none⟩ u1).setCell ⟨w.heap.size + 1 + 1, 2, none⟩ u2).setCell ⟨w.heap.size + 1 + 1, 3, none⟩ u3).cell? ⟨w.heap.size, 0, none⟩ = some (.bool true) ∧ ((((w2.setCell ⟨w.heap.size + 1 + 1, 0, none⟩ u0).setCell ⟨w.heap.size + 1 + 1, 1, none⟩ u1).setCell ⟨w.heap.size + 1 + 1, 2, none⟩ u2).setCell ⟨w.heap.size + 1 + 1, 3, none⟩ u3).cell? ⟨w.heap.size, 1, none⟩ = some (.slice (some ⟨xb, xoff, none⟩) 4 xc) ∧ ((((w2.setCell ⟨w.heap.size + 1 + 1, 0, none⟩ u0).setCell ⟨w.heap.size + 1 + 1, 1, none⟩ u1).setCell ⟨w.heap.size + 1 + 1, 2, none⟩ u2).setCell ⟨w.heap.size + 1 + 1, 3, none⟩ u3).cell? ⟨w.heap.size, 2, none⟩ = some (.int .i64 lo) ∧ ((((w2.setCell ⟨w.heap.size + 1 + 1, 0, none⟩ u0).setCell ⟨w.heap.size + 1 + 1, 1, none⟩ u1).setCell ⟨w.heap.size + 1 + 1, 2, none⟩ u2).setCell ⟨w.heap.size + 1 + 1, 3, none⟩ u3).cell? ⟨w.heap.size, 3, none⟩ = some (.int .i64 hi) ∧ ((((w2.setCell ⟨w.heap.size + 1 + 1, 0, none⟩ u0).setCell ⟨w.heap.size + 1 + 1, 1, none⟩ u1).setCell ⟨w.heap.size + 1 + 1, 2, none⟩ u2).setCell ⟨w.heap.size + 1 + 1, 3, none⟩ u3).cell? ⟨w.heap.size + 1, 0, none⟩ = some (.int .i64 op) ∧ ((((w2.setCell ⟨w.heap.size + 1 + 1, 0, none⟩ u0).setCell ⟨w.heap.size + 1 + 1, 1, none⟩ u1).setCell ⟨w.heap.size + 1 + 1, 2, none⟩ u2).setCell ⟨w.heap.size + 1 + 1, 3, none⟩ u3).cell? ⟨w.heap.size + 1, 1, none⟩ = some (.int .i64 d) ∧ ((((w2.setCell ⟨w.heap.size + 1 + 1, 0, none⟩ u0).setCell ⟨w.heap.size + 1 + 1, 1, none⟩ u1).setCell ⟨w.heap.size + 1 + 1, 2, none⟩ u2).setCell ⟨w.heap.size + 1 + 1, 3, none⟩ u3).cell? ⟨w.heap.size + 1, 2, none⟩ = some (.int .i64 (aj : Int)) ∧ ((((w2.setCell ⟨w.heap.size + 1 + 1, 0, none⟩ u0).setCell ⟨w.heap.size + 1 + 1, 1, none⟩ u1).setCell ⟨w.heap.size + 1 + 1, 2, none⟩ u2).setCell ⟨w.heap.size + 1 + 1, 3, none⟩ u3).cell? ⟨w.heap.size + 1, 3, none⟩ = some (.int .i64 (bj : Int)) ∧ ((((w2.setCell ⟨w.heap.size + 1 + 1, 0, none⟩ u0).setCell ⟨w.heap.size + 1 + 1, 1, none⟩ u1).setCell ⟨w.heap.size + 1 + 1, 2, none⟩ u2).setCell ⟨w.heap.size + 1 + 1, 3, none⟩ u3).cell? ⟨w.heap.size + 1, 4, none⟩ = some (.int .i64 rel) ∧ ((((w2.setCell ⟨w.heap.size + 1 + 1, 0, none⟩ u0).setCell ⟨w.heap.size + 1 + 1, 1, none⟩ u1).setCell ⟨w.heap.size + 1 + 1, 2, none⟩ u2).setCell ⟨w.heap.size + 1 + 1, 3, none⟩ u3).cell? ⟨w.heap.size + 1, 5, none⟩ = some (.int .i64 ilo) ∧ ((((w2.setCell ⟨w.heap.size + 1 + 1, 0, none⟩ u0).setCell ⟨w.heap.size + 1 + 1, 1, none⟩ u1).setCell ⟨w.heap.size + 1 + 1, 2, none⟩ u2).setCell ⟨w.heap.size + 1 + 1, 3, none⟩ u3).cell? ⟨w.heap.size + 1, 6, none⟩ = some (.int .i64 ihi) ∧ ((((w2.setCell ⟨w.heap.size + 1 + 1, 0, none⟩ u0).setCell ⟨w.heap.size + 1 + 1, 1, none⟩ u1).setCell ⟨w.heap.size + 1 + 1, 2, none⟩ u2).setCell ⟨w.heap.size + 1 + 1, 3, none⟩ u3).cell? ⟨w.heap.size + 1, 7, none⟩ = some (.int .i64 to) ∧ ((((w2.setCell ⟨w.heap.size + 1 + 1, 0, none⟩ u0).setCell ⟨w.heap.size + 1 + 1, 1, none⟩ u1).setCell ⟨w.heap.size + 1 + 1, 2, none⟩ u2).setCell ⟨w.heap.size + 1 + 1, 3, none⟩ u3).cell? ⟨g5, 0, none⟩ = some (.int .i64 xl) ∧ ((((w2.setCell ⟨w.heap.size + 1 + 1, 0, none⟩ u0).setCell ⟨w.heap.size + 1 + 1, 1, none⟩ u1).setCell ⟨w.heap.size + 1 + 1, 2, none⟩ u2).setCell ⟨w.heap.size + 1 + 1, 3, none⟩ u3).cell? ⟨g5, 1, none⟩ = some (.int .i64 xh) ∧ ((((w2.setCell ⟨w.heap.size + 1 + 1, 0, none⟩ u0).setCell ⟨w.heap.size + 1 + 1, 1, none⟩ u1).setCell ⟨w.heap.size + 1 + 1, 2, none⟩ u2).setCell ⟨w.heap.size + 1 + 1, 3, none⟩ u3).cell? ⟨g6, 0, none⟩ = some (.int .i64 yl) ∧ ((((w2.setCell ⟨w.heap.size + 1 + 1, 0, none⟩ u0).setCell ⟨w.heap.size + 1 + 1, 1, none⟩ u1).setCell ⟨w.heap.size + 1 + 1, 2, none⟩ u2).setCell ⟨w.heap.size + 1 + 1, 3, none⟩ u3).cell? ⟨g6, 1, none⟩ = some (.int .i64 yh))); have ZZ := (HZ9.out.grew hgh).chg hc2 (by omega); have z0 := ZZ.cell 0; have z1 := ZZ.cell 1; have z2 := ZZ.cell 2; have z3 := ZZ.cell 3; have zl := ZZ.lt; have zf := (fun j => ZZ.frozen j); simp only [List.getElem?_toArray, List.getElem?_cons_zero, List.getElem?_cons_succ] at z0 z1 z2 z3; clear ZZ)
    refine hK.out _ _ ?_ (fun hHeld => ?_)
    · (try dsimp only); (first | assumption | with_reducible exact hsF _ _ _ _ | with_reducible exact HSG.out _ (grew_d (Below.refl _ _)))
    clear hK K
    try simp only [List.getElem_toArray, List.getElem_cons_succ, List.getElem_cons_zero, Act.put, List.setIfInBounds_toArray, List.set_cons_zero, List.set_cons_succ]
    refine wpAnyH_ready (rs := [7]) (by kernel_rfl) (by simp) ?_
    refine AllReadyH.cons rfl (fun K hK => ?_) AllReadyH.nil
    try simp only [List.getElem_toArray, List.getElem_cons_succ, List.getElem_cons_zero]
    go_simp
    refine hK.out _ _ ?_ (fun hHeld => ?_)
    · (try dsimp only); (first | assumption | with_reducible exact hsF _ _ _ _ | with_reducible exact HSG.out _ (grew_d (Below.refl _ _)))
    clear hK K
    try simp only [List.getElem_toArray, List.getElem_cons_succ, List.getElem_cons_zero, Act.put, List.setIfInBounds_toArray, List.set_cons_zero, List.set_cons_succ]
    refine wpAnyH_done (by kernel_rfl) ?_ _
    have HOY := Lib.hid hoy
    have HYS := Lib.hid hys
    have HG2 := Lib.hid (show Grew w w2 from Below.trans (grew_tr HW9.out hgh) (hc2.belowB (grew_tr HW9.out hgh).size (fun k hk => by subst hk; omega)))
    have hrw : w.heap.size ≤ rb := by omega
    have hr4 : w.heap.size + 1 + 1 ≠ rb := by omega
    clear hs8 hs9 hsF hc2 hoy hys hor
    go_wp2
    refine bodyPost_ret (by simp [results, Tryz.results118, go_sem, z0, z1, z2, z3, zl]; try rfl) rfl ?_
    refine ⟨?_, rb, cc, rfl, fun z hz => ?_⟩
    · repeat (first | with_reducible exact HG2.out | with_reducible refine grew_set ?_ (by first | omega | (simp only; omega)) _)
    · cases hz
  | some zs =>
    go_upto_region 2 with fail
    refine wp_region_held_drew (S := (fun W => W.cell? ⟨w.heap.size, 0, none⟩ = some (.bool true) ∧ W.cell? ⟨w.heap.size, 1, none⟩ = some (.slice (some ⟨xb, xoff, none⟩) 4 xc) ∧ W.cell? ⟨w.heap.size, 2, none⟩ = some (.int .i64 lo) ∧ W.cell? ⟨w.heap.size, 3, none⟩ = some (.int .i64 hi) ∧ W.cell? ⟨w.heap.size + 1, 0, none⟩ = some (.int .i64 op) ∧ W.cell? ⟨w.heap.size + 1, 1, none⟩ = some (.int .i64 d) ∧ W.cell? ⟨w.heap.size + 1, 2, none⟩ = some (.int .i64 (aj : Int)) ∧ W.cell? ⟨w.heap.size + 1, 3, none⟩ = some (.int .i64 (bj : Int)) ∧ W.cell? ⟨w.heap.size + 1, 4, none⟩ = some (.int .i64 rel) ∧ W.cell? ⟨w.heap.size + 1, 5, none⟩ = some (.int .i64 ilo) ∧ W.cell? ⟨w.heap.size + 1, 6, none⟩ = some (.int .i64 ihi) ∧ W.cell? ⟨w.heap.size + 1, 7, none⟩ = some (.int .i64 to) ∧ W.cell? ⟨g5, 0, none⟩ = some (.int .i64 xl) ∧ W.cell? ⟨g5, 1, none⟩ = some (.int .i64 xh) ∧ W.cell? ⟨g6, 0, none⟩ = some (.int .i64 yl) ∧ W.cell? ⟨g6, 1, none⟩ = some (.int .i64 yh))) (by kernel_rfl) ?_ (fun hHeld => ?_)
    · (try dsimp only); (first | assumption | with_reducible exact hsF _ _ _ _ | with_reducible exact HSG.out _ (grew_d (Below.refl _ _)))
    refine wpAnyH_take (i := 0) (v := ?_) rfl (by kernel_rfl) (by kernel_rfl) (by kernel_rfl) (fun _ _ _ h => h) (Or.inl ⟨by rfl, ?_⟩) (by assumption) ?_
    rotate_left
    · (intro w hSw; (try dsimp only at hSw); go_simp; try with_reducible rfl)
    try simp only [List.getElem_toArray, List.getElem_cons_succ, List.getElem_cons_zero, Act.put, List.setIfInBounds_toArray, List.set_cons_zero, List.set_cons_succ]
    refine wpAnyH_take (i := 2) (v := ?_) rfl (by kernel_rfl) (by kernel_rfl) (by kernel_rfl) (fun _ _ _ h => h) (Or.inl ⟨by rfl, ?_⟩) (by assumption) ?_
    rotate_left
    · (intro w hSw; (try dsimp only at hSw); go_simp; try with_reducible rfl)
    try simp only [List.getElem_toArray, List.getElem_cons_succ, List.getElem_cons_zero, Act.put, List.setIfInBounds_toArray, List.set_cons_zero, List.set_cons_succ]
    refine wpAnyH_take (i := 3) (v := ?_) rfl (by kernel_rfl) (by kernel_rfl) (by kernel_rfl) (fun _ _ _ h => h) (Or.inl ⟨by rfl, ?_⟩) (by assumption) ?_
    rotate_left
    · (intro w hSw; (try dsimp only at hSw); go_simp; try with_reducible rfl)
    try simp only [List.getElem_toArray, List.getElem_cons_succ, List.getElem_cons_zero, Act.put, List.setIfInBounds_toArray, List.set_cons_zero, List.set_cons_succ]
    refine wpAnyH_take (i := 4) (v := ?_) rfl (by kernel_rfl) (by kernel_rfl) (by kernel_rfl) (fun _ _ _ h => h) (Or.inl ⟨by rfl, ?_⟩) (by assumption) ?_
    rotate_left
    · (intro w hSw; (try dsimp only at hSw); go_simp; try with_reducible rfl)
    try simp only [List.getElem_toArray, List.getElem_cons_succ, List.getElem_cons_zero, Act.put, List.setIfInBounds_toArray, List.set_cons_zero, List.set_cons_succ]
    refine wpAnyH_take (i := 5) (v := ?_) rfl (by kernel_rfl) (by kernel_rfl) (by kernel_rfl) (fun _ _ _ h => h) (Or.inl ⟨by rfl, ?_⟩) (by assumption) ?_
    rotate_left
    · (intro w hSw; (try dsimp only at hSw); go_simp; try with_reducible rfl)
    try simp only [List.getElem_toArray, List.getElem_cons_succ, List.getElem_cons_zero, Act.put, List.setIfInBounds_toArray, List.set_cons_zero, List.set_cons_succ]
    refine wpAnyH_ready (rs := [1]) (by kernel_rfl) (by simp) ?_
    refine AllReadyH.cons rfl (fun K hK => ?_) AllReadyH.nil
    try simp only [List.getElem_toArray, List.getElem_cons_succ, List.getElem_cons_zero]
    go_simp
    (refine (specL7Copy _ xc xs lo hi _ (HX.out.grew staysItv (grew_tr HW9.out (grew_d (Below.refl _ _))))).mono ?_; rintro e wh ⟨rb, cc, rfl, hor, ga⟩; have hgh : Grew w9 wh := grew_tr (grew_d (Below.refl _ _)) ga; have hs8 := HSG.out _ hgh; have hrb : w9.heap.size ≤ rb := (by have := hor.2.1; simpa using this); clear ga)
    refine hK.out _ _ ?_ (fun hHeld => ?_)
    · (try dsimp only); (first | assumption | with_reducible exact hsF _ _ _ _ | with_reducible exact HSG.out _ (grew_d (Below.refl _ _)))
    clear hK K
    try simp only [List.getElem_toArray, List.getElem_cons_succ, List.getElem_cons_zero, Act.put, List.setIfInBounds_toArray, List.set_cons_zero, List.set_cons_succ]
    refine wpAnyH_ready (rs := [6]) (by kernel_rfl) (by simp) ?_
    refine AllReadyH.cons rfl (fun K hK => ?_) AllReadyH.nil
    try simp only [List.getElem_toArray, List.getElem_cons_succ, List.getElem_cons_zero]
    go_simp
    (refine (HTW.out _ rb cc _ hor).mono ?_; rintro e w2 ⟨rfl, ⟨ys, hoy, hys⟩, hc2⟩; (try dsimp only [stV, Option.map_none, Option.map_some]); have hs9 : w2.cell? ⟨w.heap.size, 0, none⟩ = some (.bool true) ∧ w2.cell? ⟨w.heap.size, 1, none⟩ = some (.slice (some ⟨xb, xoff, none⟩) 4 xc) ∧ w2.cell? ⟨w.heap.size, 2, none⟩ = some (.int .i64 lo) ∧ w2.cell? ⟨w.heap.size, 3, none⟩ = some (.int .i64 hi) ∧ w2.cell? ⟨w.heap.size + 1, 0, none⟩ = some (.int .i64 op) ∧ w2.cell? ⟨w.heap.size + 1, 1, none⟩ = some (.int .i64 d) ∧ w2.cell? ⟨w.heap.size + 1, 2, none⟩ = some (.int .i64 (aj : Int)) ∧ w2.cell? ⟨w.heap.size + 1, 3, none⟩ = some (.int .i64 (bj : Int)) ∧ w2.cell? ⟨w.heap.size + 1, 4, none⟩ = some (.int .i64 rel) ∧ w2.cell? ⟨w.heap.size + 1, 5, none⟩ = some (.int .i64 ilo) ∧ w2.cell? ⟨w.heap.size + 1, 6, none⟩ = some (.int .i64 ihi) ∧ w2.cell? ⟨w.heap.size + 1, 7, none⟩ = some (.int .i64 to) ∧ w2.cell? ⟨g5, 0, none⟩ = some (.int .i64 xl) ∧ w2.cell? ⟨g5, 1, none⟩ = some (.int .i64 xh) ∧ w2.cell? ⟨g6, 0, none⟩ = some (.int .i64 yl) ∧ w2.cell? ⟨g6, 1, none⟩ = some (.int .i64 yh) := ⟨chg_cell hc2 hs8.1 (by omega), chg_cell hc2 hs8.2.1 (by omega), chg_cell hc2 hs8.2.2.1 (by omega), chg_cell hc2 hs8.2.2.2.1 (by omega), chg_cell hc2 hs8.2.2.2.2.1 (by omega), chg_cell hc2 hs8.2.2.2.2.2.1 (by omega), chg_cell hc2 hs8.2.2.2.2.2.2.1 (by omega), chg_cell hc2 hs8.2.2.2.2.2.2.2.1 (by omega), chg_cell hc2 hs8.2.2.2.2.2.2.2.2.1 (by omega), chg_cell hc2 hs8.2.2.2.2.2.2.2.2.2.1 (by omega), chg_cell hc2 hs8.2.2.2.2.2.2.2.2.2.2.1 (by omega), chg_cell hc2 hs8.2.2.2.2.2.2.2.2.2.2.2.1 (by omega), chg_cell hc2 hs8.2.2.2.2.2.2.2.2.2.2.2.2.1 (by omega), chg_cell hc2 hs8.2.2.2.2.2.2.2.2.2.2.2.2.2.1 (by omega), chg_cell hc2 hs8.2.2.2.2.2.2.2.2.2.2.2.2.2.2.1 (by omega), chg_cell hc2 hs8.2.2.2.2.2.2.2.2.2.2.2.2.2.2.2 (by omega)⟩; have hsF := (fun (u0 u1 u2 u3 : Value) => (⟨(by rw [World.cell?_setCell_far _ _ _ _ (by simp only [ne_eq]; exact n24), World.cell?_setCell_far _ _ _ _ (by simp only [ne_eq]; exact n24), World.cell?_setCell_far _ _ _ _ (by simp only [ne_eq]; exact n24), World.cell?_setCell_far _ _ _ _ (by simp only [ne_eq]; exact n24)]; exact hs9.1), (by rw [World.cell?_setCell_far _ _ _ _ (by simp only [ne_eq]; exact n24), World.cell?_setCell_far _ _ _ _ (by simp only [ne_eq]; exact n24), World.cell?_setCell_far _ _ _ _ (by simp only [ne_eq]; exact n24), World.cell?_setCell_far _ _ _ _ (by simp only [ne_eq]; exact n24)]; exact hs9.2.1), (by rw [World.cell?_setCell_far _ _ _ _ (by simp only [ne_eq]; exact n24), World.cell?_setCell_far _ _ _ _ (by simp only [ne_eq]; exact n24), World.cell?_setCell_far _ _ _ _ (by simp only [ne_eq]; exact n24), World.cell?_setCell_far _ _ _ _ (by simp only [ne_eq]; exact n24)]; exact hs9.2.2.1), (by rw [World.cell?_setCell_far _ _ _ _ (by simp only [ne_eq]; exact n24), World.cell?_setCell_far _ _ _ _ (by simp only [ne_eq]; exact n24), World.cell?_setCell_far _ _ _ _ (by simp only [ne_eq]; exact n24), World.cell?_setCell_far _ _ _ _ (by simp only [ne_eq]; exact n24)]; exact hs9.2.2.2.1), (by rw [World.cell?_setCell_far _ _ _ _ (by simp only [ne_eq]; exact n34), World.cell?_setCell_far _ _ _ _ (by simp only [ne_eq]; exact n34), World.cell?_setCell_far _ _ _ _ (by simp only [ne_eq]; exact n34), World.cell?_setCell_far _ _ _ _ (by simp only [ne_eq]; exact n34)]; exact hs9.2.2.2.2.1), (by rw [World.cell?_setCell_far _ _ _ _ (by simp only [ne_eq]; exact n34), World.cell?_setCell_far _ _ _ _ (by simp only [ne_eq]; exact n34), World.cell?_setCell_far _ _ _ _ (by simp only [ne_eq]; exact n34), World.cell?_setCell_far _ _ _ _ (by simp only [ne_eq]; exact n34)]; exact hs9.2.2.2.2.2.1), (by rw [World.cell?_setCell_far _ _ _ _ (by simp only [ne_eq]; exact n34), World.cell?_setCell_far _ _ _ _ (by simp only [ne_eq]; exact n34), World.cell?_setCell_far _ _ _ _ (by simp only [ne_eq]; exact n34), World.cell?_setCell_far _ _ _ _ (by simp only [ne_eq]; exact n34)]; exact hs9.2.2.2.2.2.2.1), (by rw [World.cell?_setCell_far _ _ _ _ (by simp only [ne_eq]; exact n34), World.cell?_setCell_far _ _ _ _ (by simp only [ne_eq]; exact n34), World.cell?_setCell_far _ _ _ _ (by simp only [ne_eq]; exact n34), World.cell?_setCell_far _ _ _ _ (by simp only [ne_eq]; exact n34)]; exact hs9.2.2.2.2.2.2.2.1), (by rw [World.cell?_setCell_far _ _ _ _ (by simp only [ne_eq]; exact n34), World.cell?_setCell_far _ _ _ _ (by simp only [ne_eq]; exact n34), World.cell?_setCell_far _ _ _ _ (by simp only [ne_eq]; exact n34), World.cell?_setCell_far _ _ _ _ (by simp only [ne_eq]; exact n34)]; exact hs9.2.2.2.2.2.2.2.2.1), (by rw [World.cell?_setCell_far _ _ _ _ (by simp only [ne_eq]; exact n34), World.cell?_setCell_far _ _ _ _ (by simp only [ne_eq]; exact n34), World.cell?_setCell_far _ _ _ _ (by simp only [ne_eq]; exact n34), World.cell?_setCell_far _ _ _ _ (by simp only [ne_eq]; exact n34)]; exact hs9.2.2.2.2.2.2.2.2.2.1), (by rw [World.cell?_setCell_far _ _ _ _ (by simp only [ne_eq]; exact n34), World.cell?_setCell_far _ _ _ _ (by simp only [ne_eq]; exact n34), World.cell?_setCell_far _ _ _ _ (by simp only [ne_eq]; exact n34), World.cell?_setCell_far _ _ _ _ (by simp only [ne_eq]; exact n34)]; exact hs9.2.2.2.2.2.2.2.2.2.2.1), (by rw [World.cell?_setCell_far _ _ _ _ (by simp only [ne_eq]; exact n34), World.cell?_setCell_far _ _ _ _ (by simp only [ne_eq]; exact n34), World.cell?_setCell_far _ _ _ _ (by simp only [ne_eq]; exact n34), World.cell?_setCell_far _ _ _ _ (by simp only [ne_eq]; exact n34)]; exact hs9.2.2.2.2.2.2.2.2.2.2.2.1), (by rw [World.cell?_setCell_far _ _ _ _ (by simp only [ne_eq]; exact n54), World.cell?_setCell_far _ _ _ _ (by simp only [ne_eq]; exact n54), World.cell?_setCell_far _ _ _ _ (by simp only [ne_eq]; exact n54), World.cell?_setCell_far _ _ _ _ (by simp only [ne_eq]; exact n54)]; exact hs9.2.2.2.2.2.2.2.2.2.2.2.2.1), (by rw [World.cell?_setCell_far _ _ _ _ (by simp only [ne_eq]; exact n54), World.cell?_setCell_far _ _ _ _ (by simp only [ne_eq]; exact n54), World.cell?_setCell_far _ _ _ _ (by simp only [ne_eq]; exact n54), World.cell?_setCell_far _ _ _ _ (by simp only [ne_eq]; exact n54)]; exact hs9.2.2.2.2.2.2.2.2.2.2.2.2.2.1), (by rw [World.cell?_setCell_far _ _ _ _ (by simp only [ne_eq]; exact n64), World.cell?_setCell_far _ _ _ _ (by simp only [ne_eq]; exact n64), World.cell?_setCell_far _ _ _ _ (by simp only [ne_eq]; exact n64), World.cell?_setCell_far _ _ _ _ (by simp only [ne_eq]; exact n64)]; exact hs9.2.2.2.2.2.2.2.2.2.2.2.2.2.2.1), (by rw [World.cell?_setCell_far _ _ _ _ (by simp only [ne_eq]; exact n64), World.cell?_setCell_far _ _ _ _ (by simp only [ne_eq]; exact n64), World.cell?_setCell_far _ _ _ _ (by simp only [ne_eq]; exact n64), World.cell?_setCell_far _ _ _ _ (by simp only [ne_eq]; exact n64)]; exact hs9.2.2.2.2.2.2.2.2.2.2.2.2.2.2.2)⟩ : ((((w2.setCell ⟨w.heap.size + 1 + 1, 0, none⟩ u0).setCell ⟨w.heap.size + 1 + 1, 1, none⟩ u1).setCell ⟨w.heap.size + 1 + 1, 2, none⟩ u2).setCell ⟨w.heap.size + 1 + 1, 3, none⟩ u3).cell? ⟨w.heap.size, 0, none⟩ = some (.bool true) ∧ ((((w2.setCell ⟨w.heap.size + 1 + 1, 0, none⟩ u0).setCell ⟨w.heap.size + 1 + 1, 1, none⟩ u1).setCell ⟨w.heap.size + 1 + 1, 2, none⟩ u2).setCell ⟨w.heap.size + 1 + 1, 3, none⟩ u3).cell? ⟨w.heap.size, 1, none⟩ = some (.slice (some ⟨xb, xoff, none⟩) 4 xc) ∧ ((((w2.setCell ⟨w.heap.size + 1 + 1, 0, none⟩ u0).setCell ⟨w.heap.size + 1 + 1, 1, none⟩ u1).setCell ⟨w.heap.size + 1 + 1, 2, none⟩ u2).setCell ⟨w.heap.size + 1 + 1, 3, none⟩ u3).cell? ⟨w.heap.size, 2, none⟩ = some (.int .i64 lo) ∧ ((((w2.setCell ⟨w.heap.size + 1 + 1, 0, none⟩ u0).setCell ⟨w.heap.size + 1 + 1, 1, none⟩ u1).setCell ⟨w.heap.size + 1 + 1, 2, none⟩ u2).setCell ⟨w.heap.size + 1 + 1, 3, none⟩ u3).cell? ⟨w.heap.size, 3, none⟩ = some (.int .i64 hi) ∧ ((((w2.setCell ⟨w.heap.size + 1 + 1, 0, none⟩ u0).setCell ⟨w.heap.size + 1 + 1, 1, none⟩ u1).setCell ⟨w.heap.size + 1 + 1, 2, none⟩ u2).setCell ⟨w.heap.size + 1 + 1, 3, none⟩ u3).cell? ⟨w.heap.size + 1, 0, none⟩ = some (.int .i64 op) ∧ ((((w2.setCell ⟨w.heap.size + 1 + 1, 0, none⟩ u0).setCell ⟨w.heap.size + 1 + 1, 1, none⟩ u1).setCell ⟨w.heap.size + 1 + 1, 2, none⟩ u2).setCell ⟨w.heap.size + 1 + 1, 3, none⟩ u3).cell? ⟨w.heap.size + 1, 1, none⟩ = some (.int .i64 d) ∧ ((((w2.setCell ⟨w.heap.size + 1 + 1, 0, none⟩ u0).setCell ⟨w.heap.size + 1 + 1, 1, none⟩ u1).setCell ⟨w.heap.size + 1 + 1, 2, none⟩ u2).setCell ⟨w.heap.size + 1 + 1, 3, none⟩ u3).cell? ⟨w.heap.size + 1, 2, none⟩ = some (.int .i64 (aj : Int)) ∧ ((((w2.setCell ⟨w.heap.size + 1 + 1, 0, none⟩ u0).setCell ⟨w.heap.size + 1 + 1, 1, none⟩ u1).setCell ⟨w.heap.size + 1 + 1, 2, none⟩ u2).setCell ⟨w.heap.size + 1 + 1, 3, none⟩ u3).cell? ⟨w.heap.size + 1, 3, none⟩ = some (.int .i64 (bj : Int)) ∧ ((((w2.setCell ⟨w.heap.size + 1 + 1, 0, none⟩ u0).setCell ⟨w.heap.size + 1 + 1, 1, none⟩ u1).setCell ⟨w.heap.size + 1 + 1, 2, none⟩ u2).setCell ⟨w.heap.size + 1 + 1, 3, none⟩ u3).cell? ⟨w.heap.size + 1, 4, none⟩ = some (.int .i64 rel) ∧ ((((w2.setCell ⟨w.heap.size + 1 + 1, 0, none⟩ u0).setCell ⟨w.heap.size + 1 + 1, 1, none⟩ u1).setCell ⟨w.heap.size + 1 + 1, 2, none⟩ u2).setCell ⟨w.heap.size + 1 + 1, 3, none⟩ u3).cell? ⟨w.heap.size + 1, 5, none⟩ = some (.int .i64 ilo) ∧ ((((w2.setCell ⟨w.heap.size + 1 + 1, 0, none⟩ u0).setCell ⟨w.heap.size + 1 + 1, 1, none⟩ u1).setCell ⟨w.heap.size + 1 + 1, 2, none⟩ u2).setCell ⟨w.heap.size + 1 + 1, 3, none⟩ u3).cell? ⟨w.heap.size + 1, 6, none⟩ = some (.int .i64 ihi) ∧ ((((w2.setCell ⟨w.heap.size + 1 + 1, 0, none⟩ u0).setCell ⟨w.heap.size + 1 + 1, 1, none⟩ u1).setCell ⟨w.heap.size + 1 + 1, 2, none⟩ u2).setCell ⟨w.heap.size + 1 + 1, 3, none⟩ u3).cell? ⟨w.heap.size + 1, 7, none⟩ = some (.int .i64 to) ∧ ((((w2.setCell ⟨w.heap.size + 1 + 1, 0, none⟩ u0).setCell ⟨w.heap.size + 1 + 1, 1, none⟩ u1).setCell ⟨w.heap.size + 1 + 1, 2, none⟩ u2).setCell ⟨w.heap.size + 1 + 1, 3, none⟩ u3).cell? ⟨g5, 0, none⟩ = some (.int .i64 xl) ∧ ((((w2.setCell ⟨w.heap.size + 1 + 1, 0, none⟩ u0).setCell ⟨w.heap.size + 1 + 1, 1, none⟩ u1).setCell ⟨w.heap.size + 1 + 1, 2, none⟩ u2).setCell ⟨w.heap.size + 1 + 1, 3, none⟩ u3).cell? ⟨g5, 1, none⟩ = some (.int .i64 xh) ∧ ((((w2.setCell ⟨w.heap.size + 1 + 1, 0, none⟩ u0).setCell ⟨w.heap.size + 1 + 1, 1, none⟩ u1).setCell ⟨w.heap.size + 1 + 1, 2, none⟩ u2).setCell ⟨w.heap.size + 1 + 1, 3, none⟩ u3).cell? ⟨g6, 0, none⟩ = some (.int .i64 yl) ∧ ((((w2.setCell ⟨w.heap.size + 1 + 1, 0, none⟩ u0).setCell ⟨w.heap.size + 1 + 1, 1, none⟩ u1).setCell ⟨w.heap.size + 1 + 1, 2, none⟩ u2).setCell ⟨w.heap.size + 1 + 1, 3, none⟩ u3).cell? ⟨g6, 1, none⟩ = some (.int .i64 yh))); have ZZ := (HZ9.out.grew hgh).chg hc2 (by omega); have z0 := ZZ.cell 0; have z1 := ZZ.cell 1; have z2 := ZZ.cell 2; have z3 := ZZ.cell 3; have zl := ZZ.lt; have zf := (fun j => ZZ.frozen j); simp only [List.getElem?_toArray, List.getElem?_cons_zero, List.getElem?_cons_succ] at z0 z1 z2 z3; clear ZZ)
    refine hK.out _ _ ?_ (fun hHeld => ?_)
    · (try dsimp only); (first | assumption | with_reducible exact hsF _ _ _ _ | with_reducible exact HSG.out _ (grew_d (Below.refl _ _)))
    clear hK K
    try simp only [List.getElem_toArray, List.getElem_cons_succ, List.getElem_cons_zero, Act.put, List.setIfInBounds_toArray, List.set_cons_zero, List.set_cons_succ]
    refine wpAnyH_ready (rs := [7]) (by kernel_rfl) (by simp) ?_
    refine AllReadyH.cons rfl (fun K hK => ?_) AllReadyH.nil
    try simp only [List.getElem_toArray, List.getElem_cons_succ, List.getElem_cons_zero]
    go_simp
    refine hK.out _ _ ?_ (fun hHeld => ?_)
    · (try dsimp only); (first | assumption | with_reducible exact hsF _ _ _ _ | with_reducible exact HSG.out _ (grew_d (Below.refl _ _)))
    clear hK K
    try simp only [List.getElem_toArray, List.getElem_cons_succ, List.getElem_cons_zero, Act.put, List.setIfInBounds_toArray, List.set_cons_zero, List.set_cons_succ]
    refine wpAnyH_done (by kernel_rfl) ?_ _
    have HOY := Lib.hid hoy
    have HYS := Lib.hid hys
    have HG2 := Lib.hid (show Grew w w2 from Below.trans (grew_tr HW9.out hgh) (hc2.belowB (grew_tr HW9.out hgh).size (fun k hk => by subst hk; omega)))
    have hrw : w.heap.size ≤ rb := by omega
    have hr4 : w.heap.size + 1 + 1 ≠ rb := by omega
    clear hs8 hs9 hsF hc2 hoy hys hor
    go_wp2
    refine bodyPost_ret (by simp [results, Tryz.results118, go_sem, z0, z1, z2, z3, zl]; try rfl) rfl ?_
    refine ⟨?_, rb, cc, rfl, fun z hz => ?_⟩
    · repeat (first | with_reducible exact HG2.out | with_reducible refine grew_set ?_ (by first | omega | (simp only; omega)) _)
    · cases hz
      have := HYS.out _ rfl
      subst this
      refine (OwnR.chg (F := fun b => b = w.heap.size + 1 + 1) HOY.out ?_ (fun e => hr4 e.symm)).mono (by simp only [World.size_drew]; omega)
      repeat (first | with_reducible exact Chg.refl _ _ | with_reducible refine Chg.alw (F := fun b => b = w.heap.size + 1 + 1) ?_ rfl _)
end Go.Proofs.YtpmfpgbpndobpaaGreat
