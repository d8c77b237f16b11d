/- What an operation makes of two bounds: the reference's side. No condition. -/
import Derived.Test.YtpmfpgbpndobpaaGreatDoD
import Derived.Test.YtpmfpgbpndobpaaGreatRegG
import Derived.Test.YtpmfpgbpndobpaaGreatRelR
namespace Go.Proofs.YtpmfpgbpndobpaaGreat
open Go.RowKit
set_option linter.unusedVariables false
set_option linter.unusedSimpArgs false
attribute [local go_sem] ext_cell ext_frozen ext_lt ext_le ext_le1 lt_s2 lt_s3 lt_s4 lt_s5 lt_s6 ext_lt1 ext_lt2 ext_lt3

set_option maxRecDepth 100000 in
set_option maxHeartbeats 4000000 in
theorem specL2DivA (al ah bl bh : Int) (w : World) (hA : -32768 ≤ al ∧ ah ≤ 32767 ∧ al ≤ ah) (hB : -32768 ≤ bl ∧ bh ≤ 32767 ∧ bl ≤ bh) (h : 1 ≤ bl) :
    Calls Tryz.prog 161 #[.agg #[.int .i64 al, .int .i64 ah], .agg #[.int .i64 bl, .int .i64 bh]] w fun e w' => e = .returned (divI ⟨al, ah⟩ ⟨bl, bh⟩).v ∧ Grew w w' := by
  rw [show divI ⟨al, ah⟩ ⟨bl, bh⟩ = spanI (al.tdiv (bl)) (al.tdiv bh) (ah.tdiv (bl)) (ah.tdiv bh) from by simp only [divI]; rw [if_pos (by omega), show max bl 1 = bl from by omega]]
  have hb0 : ¬ bh = 0 := by omega
  have hm0 : ¬ (bl : Int) = 0 := by omega
  have hg0 : 0 ≤ bl := by omega
  have hmx : max bl 1 = bl := by omega
  have t0 := tdiv_le (a := al) (b := bl) (by omega) (by omega)
  have d0 : IntKind.i64.wrap (Int.tdiv (al) (bl)) = Int.tdiv (al) (bl) := i64is (by omega) (by omega)
  have t1 := tdiv_le (a := al) (b := bh) (by omega) (by omega)
  have d1 : IntKind.i64.wrap (Int.tdiv (al) (bh)) = Int.tdiv (al) (bh) := i64is (by omega) (by omega)
  have t2 := tdiv_le (a := ah) (b := bl) (by omega) (by omega)
  have d2 : IntKind.i64.wrap (Int.tdiv (ah) (bl)) = Int.tdiv (ah) (bl) := i64is (by omega) (by omega)
  have t3 := tdiv_le (a := ah) (b := bh) (by omega) (by omega)
  have d3 : IntKind.i64.wrap (Int.tdiv (ah) (bh)) = Int.tdiv (ah) (bh) := i64is (by omega) (by omega)
  go_enter Tryz.func161, Tryz.ntmps161
  go_upto_region 3 with fail
  try rw [hmx]
  refine wp_letH ?_
  intro E hE
  have q0 : E.cell? ⟨w.heap.size, 0, none⟩ = some (.int .i64 al) := by rw [hE]; simp [go_sem]
  have q1 : E.cell? ⟨w.heap.size, 1, none⟩ = some (.int .i64 ah) := by rw [hE]; simp [go_sem]
  have q2 : E.cell? ⟨w.heap.size + 1, 0, none⟩ = some (.int .i64 bl) := by rw [hE]; simp [go_sem]
  have q3 : E.cell? ⟨w.heap.size + 1, 1, none⟩ = some (.int .i64 bh) := by rw [hE]; simp [go_sem]
  have Z0 : Blk E (w.heap.size + 1 + 1) 31 #[.int .i64 0, .int .i64 0] := by rw [hE]; exact Blk.new' (by simp only [World.size_alloc])
  have GE : Grew w E := by rw [hE]; exact gr
  clear hE
  clear hmx
  obtain ⟨VV, v0, v1, v2, v3, v4, v5, v6, v7, v8, v9, v10, v11, v12, v13, v14, v15, v16, v17, v18, v19, -⟩ := vl [.pointer (some ⟨w.heap.size, 0, none⟩), .int .i64 (al), .int .i64 (bl), .int .i64 (Int.tdiv al (bl)), .pointer (some ⟨w.heap.size, 0, none⟩), .int .i64 (al), .pointer (some ⟨w.heap.size + 1, 1, none⟩), .int .i64 (bh), .int .i64 (Int.tdiv al bh), .pointer (some ⟨w.heap.size, 1, none⟩), .int .i64 (ah), .int .i64 (bl), .int .i64 (Int.tdiv ah (bl)), .pointer (some ⟨w.heap.size, 1, none⟩), .int .i64 (ah), .pointer (some ⟨w.heap.size + 1, 1, none⟩), .int .i64 (bh), .int .i64 (Int.tdiv ah bh), .agg #[.int .i64 (spanI (Int.tdiv al (bl)) (Int.tdiv al bh) (Int.tdiv ah (bl)) (Int.tdiv ah bh)).lo, .int .i64 (spanI (Int.tdiv al (bl)) (Int.tdiv al bh) (Int.tdiv ah (bl)) (Int.tdiv ah bh)).hi], undef]
  have HK := fun W (c : Chg (preB [⟨none, w.heap.size + 1 + 1, 19, 31, #[.int .i64 0, .int .i64 0], #[.int .i64 (spanI (Int.tdiv al (bl)) (Int.tdiv al bh) (Int.tdiv ah (bl)) (Int.tdiv ah bh)).lo, .int .i64 (spanI (Int.tdiv al (bl)) (Int.tdiv al bh) (Int.tdiv ah (bl)) (Int.tdiv ah bh)).hi]⟩]) _ W) => And.intro (ck c q0) (And.intro (ck c q1) (And.intro (ck c q2) (ck c q3)))
  refine region_box 86 [⟨none, w.heap.size + 1 + 1, 19, 31, #[.int .i64 0, .int .i64 0], #[.int .i64 (spanI (Int.tdiv al (bl)) (Int.tdiv al bh) (Int.tdiv ah (bl)) (Int.tdiv ah bh)).lo, .int .i64 (spanI (Int.tdiv al (bl)) (Int.tdiv al bh) (Int.tdiv ah (bl)) (Int.tdiv ah bh)).hi]⟩] VV (by kernel_rfl) rfl (by kernel_rfl) rfl (by intro b hb ha; simp only [List.mem_cons, List.not_mem_nil, or_false] at hb; rcases hb with rfl <;> first | (cases ha; done) | assumption) (by intro j k b c hjk hj hk hb hc; rcases j with _ | _ | j <;> rcases k with _ | _ | k <;> simp at hj hk hjk <;> (try subst hj) <;> (try subst hk) <;> first | (cases hb; done) | (cases hc; done) | (simp only; omega)) ⟨?_, ?_, ?_, ?_, ?_, ?_, ?_, ?_, ?_, ?_, ?_, ?_, ?_, ?_, ?_, ?_, ?_, ?_, ?_, ?_, trivial⟩ ?_
  · exact b_vx v0 rfl rfl (fun gm a W h => by have e2 : a.eval (.tmp 2) = .pointer (some ⟨w.heap.size, 0, none⟩) := (h.slot 2 (by kernel_rfl)).trans rfl; simp only [execOp, e2]; first | (simp [go_sem, hb0, hm0, d0, d1, d2, d3] <;> first | exact wrapIn | rfl) | kernel_rfl)
  · exact b_vx v1 rfl rfl (fun gm a W h => by have e15 := (h.vb 0 15).trans v0; obtain ⟨kq0, kq1, kq2, kq3⟩ := HK W h.chg; simp only [execOp, e15]; first | (simp [go_sem, kq0, kq1, kq2, kq3, hb0, hm0, d0, d1, d2, d3] <;> first | exact wrapIn | rfl) | kernel_rfl)
  · exact b_vx v2 rfl rfl (fun gm a W h => by have e5 : a.eval (.tmp 5) = .int .i64 (bl) := (h.slot 5 (by kernel_rfl)).trans rfl; simp only [execOp, e5]; first | (simp [go_sem, hb0, hm0, d0, d1, d2, d3] <;> first | exact wrapIn | rfl) | kernel_rfl)
  · exact b_vx v3 rfl rfl (fun gm a W h => by have e16 := (h.vb 1 16).trans v1; have e17 := (h.vb 2 17).trans v2; simp only [execOp, e16, e17]; first | (simp [go_sem, hb0, hm0, d0, d1, d2, d3] <;> first | exact wrapIn | rfl) | kernel_rfl)
  · exact b_vx v4 rfl rfl (fun gm a W h => by have e2 : a.eval (.tmp 2) = .pointer (some ⟨w.heap.size, 0, none⟩) := (h.slot 2 (by kernel_rfl)).trans rfl; simp only [execOp, e2]; first | (simp [go_sem, hb0, hm0, d0, d1, d2, d3] <;> first | exact wrapIn | rfl) | kernel_rfl)
  · exact b_vx v5 rfl rfl (fun gm a W h => by have e19 := (h.vb 4 19).trans v4; obtain ⟨kq0, kq1, kq2, kq3⟩ := HK W h.chg; simp only [execOp, e19]; first | (simp [go_sem, kq0, kq1, kq2, kq3, hb0, hm0, d0, d1, d2, d3] <;> first | exact wrapIn | rfl) | kernel_rfl)
  · exact b_vx v6 rfl rfl (fun gm a W h => by have e3 : a.eval (.tmp 3) = .pointer (some ⟨w.heap.size + 1, 0, none⟩) := (h.slot 3 (by kernel_rfl)).trans rfl; simp only [execOp, e3]; first | (simp [go_sem, hb0, hm0, d0, d1, d2, d3] <;> first | exact wrapIn | rfl) | kernel_rfl)
  · exact b_vx v7 rfl rfl (fun gm a W h => by have e21 := (h.vb 6 21).trans v6; obtain ⟨kq0, kq1, kq2, kq3⟩ := HK W h.chg; simp only [execOp, e21]; first | (simp [go_sem, kq0, kq1, kq2, kq3, hb0, hm0, d0, d1, d2, d3] <;> first | exact wrapIn | rfl) | kernel_rfl)
  · exact b_vx v8 rfl rfl (fun gm a W h => by have e20 := (h.vb 5 20).trans v5; have e22 := (h.vb 7 22).trans v7; simp only [execOp, e20, e22]; first | (simp [go_sem, hb0, hm0, d0, d1, d2, d3] <;> first | exact wrapIn | rfl) | kernel_rfl)
  · exact b_vx v9 rfl rfl (fun gm a W h => by have e2 : a.eval (.tmp 2) = .pointer (some ⟨w.heap.size, 0, none⟩) := (h.slot 2 (by kernel_rfl)).trans rfl; simp only [execOp, e2]; first | (simp [go_sem, hb0, hm0, d0, d1, d2, d3] <;> first | exact wrapIn | rfl) | kernel_rfl)
  · exact b_vx v10 rfl rfl (fun gm a W h => by have e24 := (h.vb 9 24).trans v9; obtain ⟨kq0, kq1, kq2, kq3⟩ := HK W h.chg; simp only [execOp, e24]; first | (simp [go_sem, kq0, kq1, kq2, kq3, hb0, hm0, d0, d1, d2, d3] <;> first | exact wrapIn | rfl) | kernel_rfl)
  · exact b_vx v11 rfl rfl (fun gm a W h => by have e5 : a.eval (.tmp 5) = .int .i64 (bl) := (h.slot 5 (by kernel_rfl)).trans rfl; simp only [execOp, e5]; first | (simp [go_sem, hb0, hm0, d0, d1, d2, d3] <;> first | exact wrapIn | rfl) | kernel_rfl)
  · exact b_vx v12 rfl rfl (fun gm a W h => by have e25 := (h.vb 10 25).trans v10; have e26 := (h.vb 11 26).trans v11; simp only [execOp, e25, e26]; first | (simp [go_sem, hb0, hm0, d0, d1, d2, d3] <;> first | exact wrapIn | rfl) | kernel_rfl)
  · exact b_vx v13 rfl rfl (fun gm a W h => by have e2 : a.eval (.tmp 2) = .pointer (some ⟨w.heap.size, 0, none⟩) := (h.slot 2 (by kernel_rfl)).trans rfl; simp only [execOp, e2]; first | (simp [go_sem, hb0, hm0, d0, d1, d2, d3] <;> first | exact wrapIn | rfl) | kernel_rfl)
  · exact b_vx v14 rfl rfl (fun gm a W h => by have e28 := (h.vb 13 28).trans v13; obtain ⟨kq0, kq1, kq2, kq3⟩ := HK W h.chg; simp only [execOp, e28]; first | (simp [go_sem, kq0, kq1, kq2, kq3, hb0, hm0, d0, d1, d2, d3] <;> first | exact wrapIn | rfl) | kernel_rfl)
  · exact b_vx v15 rfl rfl (fun gm a W h => by have e3 : a.eval (.tmp 3) = .pointer (some ⟨w.heap.size + 1, 0, none⟩) := (h.slot 3 (by kernel_rfl)).trans rfl; simp only [execOp, e3]; first | (simp [go_sem, hb0, hm0, d0, d1, d2, d3] <;> first | exact wrapIn | rfl) | kernel_rfl)
  · exact b_vx v16 rfl rfl (fun gm a W h => by have e30 := (h.vb 15 30).trans v15; obtain ⟨kq0, kq1, kq2, kq3⟩ := HK W h.chg; simp only [execOp, e30]; first | (simp [go_sem, kq0, kq1, kq2, kq3, hb0, hm0, d0, d1, d2, d3] <;> first | exact wrapIn | rfl) | kernel_rfl)
  · exact b_vx v17 rfl rfl (fun gm a W h => by have e29 := (h.vb 14 29).trans v14; have e31 := (h.vb 16 31).trans v16; simp only [execOp, e29, e31]; first | (simp [go_sem, hb0, hm0, d0, d1, d2, d3] <;> first | exact wrapIn | rfl) | kernel_rfl)
  · exact b_cx v18 rfl rfl (fun gm a W h => by
      have e18 := (h.vb 3 18).trans v3
      have e23 := (h.vb 8 23).trans v8
      have e27 := (h.vb 12 27).trans v12
      have e32 := (h.vb 17 32).trans v17
      refine Eq.trans (b := .ok (.enter 160 #[a.eval (.tmp 18), a.eval (.tmp 23), a.eval (.tmp 27), a.eval (.tmp 32)]) W) (by kernel_rfl) ?_
      rw [e18, e23, e27, e32]) (fun W => specL2Span (Int.tdiv al (bl)) (Int.tdiv al bh) (Int.tdiv ah (bl)) (Int.tdiv ah bh) W)
  · refine b_store 0 _ rfl rfl rfl v19 (fun j hj => by cases hj) rfl (fun gm a W h hold hb => ?_)
    have hg : gm 0 = w.heap.size + 1 + 1 := hold rfl
    rw [hg] at hb ⊢
    have e4 : a.eval (.tmp 4) = .pointer (some ⟨w.heap.size + 1 + 1, 0, none⟩) := (h.slot 4 (by kernel_rfl)).trans rfl
    have e33 := (h.vb 18 33).trans v18
    simp only at hb
    have hf := fun j => hb.frozen j
    have c0 := hb.cell 0
    have c1 := hb.cell 1
    refine ⟨_, by (simp only [execOp, e4, e33]; simp [go_sem, hf, c0, c1, hb0, hm0, d0, d1, d2, d3]; try rfl), (hb.set_ 0 _).set_ 1 _, chgs2 _ _ _ _ _ _⟩
  intro gm vs w9 hc9 hb9 hold9 hge9 hv9
  have x0 := (hv9 0 15 (by kernel_rfl)).trans v0
  have x1 := (hv9 1 16 (by kernel_rfl)).trans v1
  have x2 := (hv9 2 17 (by kernel_rfl)).trans v2
  have x3 := (hv9 3 18 (by kernel_rfl)).trans v3
  have x4 := (hv9 4 19 (by kernel_rfl)).trans v4
  have x5 := (hv9 5 20 (by kernel_rfl)).trans v5
  have x6 := (hv9 6 21 (by kernel_rfl)).trans v6
  have x7 := (hv9 7 22 (by kernel_rfl)).trans v7
  have x8 := (hv9 8 23 (by kernel_rfl)).trans v8
  have x9 := (hv9 9 24 (by kernel_rfl)).trans v9
  have x10 := (hv9 10 25 (by kernel_rfl)).trans v10
  have x11 := (hv9 11 26 (by kernel_rfl)).trans v11
  have x12 := (hv9 12 27 (by kernel_rfl)).trans v12
  have x13 := (hv9 13 28 (by kernel_rfl)).trans v13
  have x14 := (hv9 14 29 (by kernel_rfl)).trans v14
  have x15 := (hv9 15 30 (by kernel_rfl)).trans v15
  have x16 := (hv9 16 31 (by kernel_rfl)).trans v16
  have x17 := (hv9 17 32 (by kernel_rfl)).trans v17
  have x18 := (hv9 18 33 (by kernel_rfl)).trans v18
  have y0 := hb9 0 _ rfl
  rw [hold9 0 _ rfl rfl] at y0
  simp only at y0
  simp only [putAll, Act.put, List.setIfInBounds_toArray, List.set_cons_zero, List.set_cons_succ, Nat.zero_add, Nat.reduceAdd, x0, x1, x2, x3, x4, x5, x6, x7, x8, x9, x10, x11, x12, x13, x14, x15, x16, x17, x18]
  clear hb9 hold9 hge9 hv9 x0 x1 x2 x3 x4 x5 x6 x7 x8 x9 x10 x11 x12 x13 x14 x15 x16 x17 x18 v0 v1 v2 v3 v4 v5 v6 v7 v8 v9 v10 v11 v12 v13 v14 v15 v16 v17 v18 v19 HK VV
  have z0 := y0.cell 0
  have z1 := y0.cell 1
  have zl := y0.lt
  have HG := Lib.hid (GE.trans (hc9.belowB GE.size (fun k hk => by obtain ⟨b, hb, _, rfl⟩ := hk; simp only [List.mem_cons, List.not_mem_nil, or_false] at hb; rcases hb with rfl; simp only; omega)))
  simp only [List.getElem?_toArray, List.getElem?_cons_zero, List.getElem?_cons_succ] at z0 z1
  clear y0 hc9 GE q0 q1 q2 q3 Z0
  go_wp2
  refine bodyPost_ret (by simp [results, Tryz.results161, go_sem, z0, z1, zl]; try rfl) rfl ?_
  exact ⟨by first | rfl | simp, HG.out⟩
set_option maxRecDepth 100000 in
set_option maxHeartbeats 4000000 in
theorem specL2DivB (al ah bl bh : Int) (w : World) (hA : -32768 ≤ al ∧ ah ≤ 32767 ∧ al ≤ ah) (hB : -32768 ≤ bl ∧ bh ≤ 32767 ∧ bl ≤ bh) (h : bl = 0) (h2 : 1 ≤ bh) :
    Calls Tryz.prog 161 #[.agg #[.int .i64 al, .int .i64 ah], .agg #[.int .i64 bl, .int .i64 bh]] w fun e w' => e = .returned (divI ⟨al, ah⟩ ⟨bl, bh⟩).v ∧ Grew w w' := by
  rw [show divI ⟨al, ah⟩ ⟨bl, bh⟩ = spanI (al.tdiv (1)) (al.tdiv bh) (ah.tdiv (1)) (ah.tdiv bh) from by simp only [divI]; rw [if_pos (by omega), show max bl 1 = 1 from by omega]]
  have hb0 : ¬ bh = 0 := by omega
  have hm0 : ¬ (1 : Int) = 0 := by omega
  have hg0 : 0 ≤ bl := by omega
  have hmx : max bl 1 = 1 := by omega
  have t0 := tdiv_le (a := al) (b := 1) (by omega) (by omega)
  have d0 : IntKind.i64.wrap (Int.tdiv (al) (1)) = Int.tdiv (al) (1) := i64is (by omega) (by omega)
  have t1 := tdiv_le (a := al) (b := bh) (by omega) (by omega)
  have d1 : IntKind.i64.wrap (Int.tdiv (al) (bh)) = Int.tdiv (al) (bh) := i64is (by omega) (by omega)
  have t2 := tdiv_le (a := ah) (b := 1) (by omega) (by omega)
  have d2 : IntKind.i64.wrap (Int.tdiv (ah) (1)) = Int.tdiv (ah) (1) := i64is (by omega) (by omega)
  have t3 := tdiv_le (a := ah) (b := bh) (by omega) (by omega)
  have d3 : IntKind.i64.wrap (Int.tdiv (ah) (bh)) = Int.tdiv (ah) (bh) := i64is (by omega) (by omega)
  clear h h2
  go_enter Tryz.func161, Tryz.ntmps161
  go_upto_region 3 with fail
  try rw [hmx]
  refine wp_letH ?_
  intro E hE
  have q0 : E.cell? ⟨w.heap.size, 0, none⟩ = some (.int .i64 al) := by rw [hE]; simp [go_sem]
  have q1 : E.cell? ⟨w.heap.size, 1, none⟩ = some (.int .i64 ah) := by rw [hE]; simp [go_sem]
  have q2 : E.cell? ⟨w.heap.size + 1, 0, none⟩ = some (.int .i64 bl) := by rw [hE]; simp [go_sem]
  have q3 : E.cell? ⟨w.heap.size + 1, 1, none⟩ = some (.int .i64 bh) := by rw [hE]; simp [go_sem]
  have Z0 : Blk E (w.heap.size + 1 + 1) 31 #[.int .i64 0, .int .i64 0] := by rw [hE]; exact Blk.new' (by simp only [World.size_alloc])
  have GE : Grew w E := by rw [hE]; exact gr
  clear hE
  clear hmx
  obtain ⟨VV, v0, v1, v2, v3, v4, v5, v6, v7, v8, v9, v10, v11, v12, v13, v14, v15, v16, v17, v18, v19, -⟩ := vl [.pointer (some ⟨w.heap.size, 0, none⟩), .int .i64 (al), .int .i64 (1), .int .i64 (Int.tdiv al (1)), .pointer (some ⟨w.heap.size, 0, none⟩), .int .i64 (al), .pointer (some ⟨w.heap.size + 1, 1, none⟩), .int .i64 (bh), .int .i64 (Int.tdiv al bh), .pointer (some ⟨w.heap.size, 1, none⟩), .int .i64 (ah), .int .i64 (1), .int .i64 (Int.tdiv ah (1)), .pointer (some ⟨w.heap.size, 1, none⟩), .int .i64 (ah), .pointer (some ⟨w.heap.size + 1, 1, none⟩), .int .i64 (bh), .int .i64 (Int.tdiv ah bh), .agg #[.int .i64 (spanI (Int.tdiv al (1)) (Int.tdiv al bh) (Int.tdiv ah (1)) (Int.tdiv ah bh)).lo, .int .i64 (spanI (Int.tdiv al (1)) (Int.tdiv al bh) (Int.tdiv ah (1)) (Int.tdiv ah bh)).hi], undef]
  have HK := fun W (c : Chg (preB [⟨none, w.heap.size + 1 + 1, 19, 31, #[.int .i64 0, .int .i64 0], #[.int .i64 (spanI (Int.tdiv al (1)) (Int.tdiv al bh) (Int.tdiv ah (1)) (Int.tdiv ah bh)).lo, .int .i64 (spanI (Int.tdiv al (1)) (Int.tdiv al bh) (Int.tdiv ah (1)) (Int.tdiv ah bh)).hi]⟩]) _ W) => And.intro (ck c q0) (And.intro (ck c q1) (And.intro (ck c q2) (ck c q3)))
  refine region_box 86 [⟨none, w.heap.size + 1 + 1, 19, 31, #[.int .i64 0, .int .i64 0], #[.int .i64 (spanI (Int.tdiv al (1)) (Int.tdiv al bh) (Int.tdiv ah (1)) (Int.tdiv ah bh)).lo, .int .i64 (spanI (Int.tdiv al (1)) (Int.tdiv al bh) (Int.tdiv ah (1)) (Int.tdiv ah bh)).hi]⟩] VV (by kernel_rfl) rfl (by kernel_rfl) rfl (by intro b hb ha; simp only [List.mem_cons, List.not_mem_nil, or_false] at hb; rcases hb with rfl <;> first | (cases ha; done) | assumption) (by intro j k b c hjk hj hk hb hc; rcases j with _ | _ | j <;> rcases k with _ | _ | k <;> simp at hj hk hjk <;> (try subst hj) <;> (try subst hk) <;> first | (cases hb; done) | (cases hc; done) | (simp only; omega)) ⟨?_, ?_, ?_, ?_, ?_, ?_, ?_, ?_, ?_, ?_, ?_, ?_, ?_, ?_, ?_, ?_, ?_, ?_, ?_, ?_, trivial⟩ ?_
  · exact b_vx v0 rfl rfl (fun gm a W h => by have e2 : a.eval (.tmp 2) = .pointer (some ⟨w.heap.size, 0, none⟩) := (h.slot 2 (by kernel_rfl)).trans rfl; simp only [execOp, e2]; first | (simp [go_sem, hb0, hm0, d0, d1, d2, d3] <;> first | exact wrapIn | rfl) | kernel_rfl)
  · exact b_vx v1 rfl rfl (fun gm a W h => by have e15 := (h.vb 0 15).trans v0; obtain ⟨kq0, kq1, kq2, kq3⟩ := HK W h.chg; simp only [execOp, e15]; first | (simp [go_sem, kq0, kq1, kq2, kq3, hb0, hm0, d0, d1, d2, d3] <;> first | exact wrapIn | rfl) | kernel_rfl)
  · exact b_vx v2 rfl rfl (fun gm a W h => by have e5 : a.eval (.tmp 5) = .int .i64 (1) := (h.slot 5 (by kernel_rfl)).trans rfl; simp only [execOp, e5]; first | (simp [go_sem, hb0, hm0, d0, d1, d2, d3] <;> first | exact wrapIn | rfl) | kernel_rfl)
  · exact b_vx v3 rfl rfl (fun gm a W h => by have e16 := (h.vb 1 16).trans v1; have e17 := (h.vb 2 17).trans v2; simp only [execOp, e16, e17]; first | (simp [go_sem, hb0, hm0, d0, d1, d2, d3] <;> first | exact wrapIn | rfl) | kernel_rfl)
  · exact b_vx v4 rfl rfl (fun gm a W h => by have e2 : a.eval (.tmp 2) = .pointer (some ⟨w.heap.size, 0, none⟩) := (h.slot 2 (by kernel_rfl)).trans rfl; simp only [execOp, e2]; first | (simp [go_sem, hb0, hm0, d0, d1, d2, d3] <;> first | exact wrapIn | rfl) | kernel_rfl)
  · exact b_vx v5 rfl rfl (fun gm a W h => by have e19 := (h.vb 4 19).trans v4; obtain ⟨kq0, kq1, kq2, kq3⟩ := HK W h.chg; simp only [execOp, e19]; first | (simp [go_sem, kq0, kq1, kq2, kq3, hb0, hm0, d0, d1, d2, d3] <;> first | exact wrapIn | rfl) | kernel_rfl)
  · exact b_vx v6 rfl rfl (fun gm a W h => by have e3 : a.eval (.tmp 3) = .pointer (some ⟨w.heap.size + 1, 0, none⟩) := (h.slot 3 (by kernel_rfl)).trans rfl; simp only [execOp, e3]; first | (simp [go_sem, hb0, hm0, d0, d1, d2, d3] <;> first | exact wrapIn | rfl) | kernel_rfl)
  · exact b_vx v7 rfl rfl (fun gm a W h => by have e21 := (h.vb 6 21).trans v6; obtain ⟨kq0, kq1, kq2, kq3⟩ := HK W h.chg; simp only [execOp, e21]; first | (simp [go_sem, kq0, kq1, kq2, kq3, hb0, hm0, d0, d1, d2, d3] <;> first | exact wrapIn | rfl) | kernel_rfl)
  · exact b_vx v8 rfl rfl (fun gm a W h => by have e20 := (h.vb 5 20).trans v5; have e22 := (h.vb 7 22).trans v7; simp only [execOp, e20, e22]; first | (simp [go_sem, hb0, hm0, d0, d1, d2, d3] <;> first | exact wrapIn | rfl) | kernel_rfl)
  · exact b_vx v9 rfl rfl (fun gm a W h => by have e2 : a.eval (.tmp 2) = .pointer (some ⟨w.heap.size, 0, none⟩) := (h.slot 2 (by kernel_rfl)).trans rfl; simp only [execOp, e2]; first | (simp [go_sem, hb0, hm0, d0, d1, d2, d3] <;> first | exact wrapIn | rfl) | kernel_rfl)
  · exact b_vx v10 rfl rfl (fun gm a W h => by have e24 := (h.vb 9 24).trans v9; obtain ⟨kq0, kq1, kq2, kq3⟩ := HK W h.chg; simp only [execOp, e24]; first | (simp [go_sem, kq0, kq1, kq2, kq3, hb0, hm0, d0, d1, d2, d3] <;> first | exact wrapIn | rfl) | kernel_rfl)
  · exact b_vx v11 rfl rfl (fun gm a W h => by have e5 : a.eval (.tmp 5) = .int .i64 (1) := (h.slot 5 (by kernel_rfl)).trans rfl; simp only [execOp, e5]; first | (simp [go_sem, hb0, hm0, d0, d1, d2, d3] <;> first | exact wrapIn | rfl) | kernel_rfl)
  · exact b_vx v12 rfl rfl (fun gm a W h => by have e25 := (h.vb 10 25).trans v10; have e26 := (h.vb 11 26).trans v11; simp only [execOp, e25, e26]; first | (simp [go_sem, hb0, hm0, d0, d1, d2, d3] <;> first | exact wrapIn | rfl) | kernel_rfl)
  · exact b_vx v13 rfl rfl (fun gm a W h => by have e2 : a.eval (.tmp 2) = .pointer (some ⟨w.heap.size, 0, none⟩) := (h.slot 2 (by kernel_rfl)).trans rfl; simp only [execOp, e2]; first | (simp [go_sem, hb0, hm0, d0, d1, d2, d3] <;> first | exact wrapIn | rfl) | kernel_rfl)
  · exact b_vx v14 rfl rfl (fun gm a W h => by have e28 := (h.vb 13 28).trans v13; obtain ⟨kq0, kq1, kq2, kq3⟩ := HK W h.chg; simp only [execOp, e28]; first | (simp [go_sem, kq0, kq1, kq2, kq3, hb0, hm0, d0, d1, d2, d3] <;> first | exact wrapIn | rfl) | kernel_rfl)
  · exact b_vx v15 rfl rfl (fun gm a W h => by have e3 : a.eval (.tmp 3) = .pointer (some ⟨w.heap.size + 1, 0, none⟩) := (h.slot 3 (by kernel_rfl)).trans rfl; simp only [execOp, e3]; first | (simp [go_sem, hb0, hm0, d0, d1, d2, d3] <;> first | exact wrapIn | rfl) | kernel_rfl)
  · exact b_vx v16 rfl rfl (fun gm a W h => by have e30 := (h.vb 15 30).trans v15; obtain ⟨kq0, kq1, kq2, kq3⟩ := HK W h.chg; simp only [execOp, e30]; first | (simp [go_sem, kq0, kq1, kq2, kq3, hb0, hm0, d0, d1, d2, d3] <;> first | exact wrapIn | rfl) | kernel_rfl)
  · exact b_vx v17 rfl rfl (fun gm a W h => by have e29 := (h.vb 14 29).trans v14; have e31 := (h.vb 16 31).trans v16; simp only [execOp, e29, e31]; first | (simp [go_sem, hb0, hm0, d0, d1, d2, d3] <;> first | exact wrapIn | rfl) | kernel_rfl)
  · exact b_cx v18 rfl rfl (fun gm a W h => by
      have e18 := (h.vb 3 18).trans v3
      have e23 := (h.vb 8 23).trans v8
      have e27 := (h.vb 12 27).trans v12
      have e32 := (h.vb 17 32).trans v17
      refine Eq.trans (b := .ok (.enter 160 #[a.eval (.tmp 18), a.eval (.tmp 23), a.eval (.tmp 27), a.eval (.tmp 32)]) W) (by kernel_rfl) ?_
      rw [e18, e23, e27, e32]) (fun W => specL2Span (Int.tdiv al (1)) (Int.tdiv al bh) (Int.tdiv ah (1)) (Int.tdiv ah bh) W)
  · refine b_store 0 _ rfl rfl rfl v19 (fun j hj => by cases hj) rfl (fun gm a W h hold hb => ?_)
    have hg : gm 0 = w.heap.size + 1 + 1 := hold rfl
    rw [hg] at hb ⊢
    have e4 : a.eval (.tmp 4) = .pointer (some ⟨w.heap.size + 1 + 1, 0, none⟩) := (h.slot 4 (by kernel_rfl)).trans rfl
    have e33 := (h.vb 18 33).trans v18
    simp only at hb
    have hf := fun j => hb.frozen j
    have c0 := hb.cell 0
    have c1 := hb.cell 1
    refine ⟨_, by (simp only [execOp, e4, e33]; simp [go_sem, hf, c0, c1, hb0, hm0, d0, d1, d2, d3]; try rfl), (hb.set_ 0 _).set_ 1 _, chgs2 _ _ _ _ _ _⟩
  intro gm vs w9 hc9 hb9 hold9 hge9 hv9
  have x0 := (hv9 0 15 (by kernel_rfl)).trans v0
  have x1 := (hv9 1 16 (by kernel_rfl)).trans v1
  have x2 := (hv9 2 17 (by kernel_rfl)).trans v2
  have x3 := (hv9 3 18 (by kernel_rfl)).trans v3
  have x4 := (hv9 4 19 (by kernel_rfl)).trans v4
  have x5 := (hv9 5 20 (by kernel_rfl)).trans v5
  have x6 := (hv9 6 21 (by kernel_rfl)).trans v6
  have x7 := (hv9 7 22 (by kernel_rfl)).trans v7
  have x8 := (hv9 8 23 (by kernel_rfl)).trans v8
  have x9 := (hv9 9 24 (by kernel_rfl)).trans v9
  have x10 := (hv9 10 25 (by kernel_rfl)).trans v10
  have x11 := (hv9 11 26 (by kernel_rfl)).trans v11
  have x12 := (hv9 12 27 (by kernel_rfl)).trans v12
  have x13 := (hv9 13 28 (by kernel_rfl)).trans v13
  have x14 := (hv9 14 29 (by kernel_rfl)).trans v14
  have x15 := (hv9 15 30 (by kernel_rfl)).trans v15
  have x16 := (hv9 16 31 (by kernel_rfl)).trans v16
  have x17 := (hv9 17 32 (by kernel_rfl)).trans v17
  have x18 := (hv9 18 33 (by kernel_rfl)).trans v18
  have y0 := hb9 0 _ rfl
  rw [hold9 0 _ rfl rfl] at y0
  simp only at y0
  simp only [putAll, Act.put, List.setIfInBounds_toArray, List.set_cons_zero, List.set_cons_succ, Nat.zero_add, Nat.reduceAdd, x0, x1, x2, x3, x4, x5, x6, x7, x8, x9, x10, x11, x12, x13, x14, x15, x16, x17, x18]
  clear hb9 hold9 hge9 hv9 x0 x1 x2 x3 x4 x5 x6 x7 x8 x9 x10 x11 x12 x13 x14 x15 x16 x17 x18 v0 v1 v2 v3 v4 v5 v6 v7 v8 v9 v10 v11 v12 v13 v14 v15 v16 v17 v18 v19 HK VV
  have z0 := y0.cell 0
  have z1 := y0.cell 1
  have zl := y0.lt
  have HG := Lib.hid (GE.trans (hc9.belowB GE.size (fun k hk => by obtain ⟨b, hb, _, rfl⟩ := hk; simp only [List.mem_cons, List.not_mem_nil, or_false] at hb; rcases hb with rfl; simp only; omega)))
  simp only [List.getElem?_toArray, List.getElem?_cons_zero, List.getElem?_cons_succ] at z0 z1
  clear y0 hc9 GE q0 q1 q2 q3 Z0
  go_wp2
  refine bodyPost_ret (by simp [results, Tryz.results161, go_sem, z0, z1, zl]; try rfl) rfl ?_
  exact ⟨by first | rfl | simp, HG.out⟩
set_option maxRecDepth 100000 in
set_option maxHeartbeats 4000000 in
theorem specL2DivC (al ah bl bh : Int) (w : World) (hA : -32768 ≤ al ∧ ah ≤ 32767 ∧ al ≤ ah) (hB : -32768 ≤ bl ∧ bh ≤ 32767 ∧ bl ≤ bh) (h : bh ≤ -1) :
    Calls Tryz.prog 161 #[.agg #[.int .i64 al, .int .i64 ah], .agg #[.int .i64 bl, .int .i64 bh]] w fun e w' => e = .returned (divI ⟨al, ah⟩ ⟨bl, bh⟩).v ∧ Grew w w' := by
  rw [show divI ⟨al, ah⟩ ⟨bl, bh⟩ = spanI (al.tdiv bl) (al.tdiv (bh)) (ah.tdiv bl) (ah.tdiv (bh)) from by simp only [divI]; rw [if_neg (by omega), if_pos (by omega), show min bh (-1) = bh from by omega]]
  have hb0 : ¬ bl = 0 := by omega
  have hm0 : ¬ (bh : Int) = 0 := by omega
  have hg0 : ¬ 0 ≤ bl := by omega
  have hg1 : bl < 0 := by omega
  have hmx : min bh (-1) = bh := by omega
  have t0 := tdiv_le (a := al) (b := bl) (by omega) (by omega)
  have d0 : IntKind.i64.wrap (Int.tdiv (al) (bl)) = Int.tdiv (al) (bl) := i64is (by omega) (by omega)
  have t1 := tdiv_le (a := al) (b := bh) (by omega) (by omega)
  have d1 : IntKind.i64.wrap (Int.tdiv (al) (bh)) = Int.tdiv (al) (bh) := i64is (by omega) (by omega)
  have t2 := tdiv_le (a := ah) (b := bl) (by omega) (by omega)
  have d2 : IntKind.i64.wrap (Int.tdiv (ah) (bl)) = Int.tdiv (ah) (bl) := i64is (by omega) (by omega)
  have t3 := tdiv_le (a := ah) (b := bh) (by omega) (by omega)
  have d3 : IntKind.i64.wrap (Int.tdiv (ah) (bh)) = Int.tdiv (ah) (bh) := i64is (by omega) (by omega)
  have hh1 : bh ≤ 0 := by omega
  go_enter Tryz.func161, Tryz.ntmps161
  go_upto_region 5 with fail
  try rw [hmx]
  refine wp_letH ?_
  intro E hE
  have q0 : E.cell? ⟨w.heap.size, 0, none⟩ = some (.int .i64 al) := by rw [hE]; simp [go_sem]
  have q1 : E.cell? ⟨w.heap.size, 1, none⟩ = some (.int .i64 ah) := by rw [hE]; simp [go_sem]
  have q2 : E.cell? ⟨w.heap.size + 1, 0, none⟩ = some (.int .i64 bl) := by rw [hE]; simp [go_sem]
  have q3 : E.cell? ⟨w.heap.size + 1, 1, none⟩ = some (.int .i64 bh) := by rw [hE]; simp [go_sem]
  have Z0 : Blk E (w.heap.size + 1 + 1) 31 #[.int .i64 0, .int .i64 0] := by rw [hE]; exact Blk.new' (by simp only [World.size_alloc])
  have GE : Grew w E := by rw [hE]; exact gr
  clear hE
  clear hmx
  obtain ⟨VV, v0, v1, v2, v3, v4, v5, v6, v7, v8, v9, v10, v11, v12, v13, v14, v15, v16, v17, v18, v19, v20, -⟩ := vl [.pointer (some ⟨w.heap.size, 0, none⟩), .int .i64 (al), .pointer (some ⟨w.heap.size + 1, 0, none⟩), .int .i64 (bl), .int .i64 (Int.tdiv al bl), .pointer (some ⟨w.heap.size, 0, none⟩), .int .i64 (al), .int .i64 (bh), .int .i64 (Int.tdiv al (bh)), .pointer (some ⟨w.heap.size, 1, none⟩), .int .i64 (ah), .pointer (some ⟨w.heap.size + 1, 0, none⟩), .int .i64 (bl), .int .i64 (Int.tdiv ah bl), .pointer (some ⟨w.heap.size, 1, none⟩), .int .i64 (ah), .int .i64 (bh), .int .i64 (Int.tdiv ah (bh)), .agg #[.int .i64 (spanI (Int.tdiv al bl) (Int.tdiv al (bh)) (Int.tdiv ah bl) (Int.tdiv ah (bh))).lo, .int .i64 (spanI (Int.tdiv al bl) (Int.tdiv al (bh)) (Int.tdiv ah bl) (Int.tdiv ah (bh))).hi], undef, undef]
  have HK := fun W (c : Chg (preB [⟨some 19, 0, 20, 31, #[.int .i64 0, .int .i64 0], #[.int .i64 (spanI (Int.tdiv al bl) (Int.tdiv al (bh)) (Int.tdiv ah bl) (Int.tdiv ah (bh))).lo, .int .i64 (spanI (Int.tdiv al bl) (Int.tdiv al (bh)) (Int.tdiv ah bl) (Int.tdiv ah (bh))).hi]⟩]) _ W) => And.intro (ck c q0) (And.intro (ck c q1) (And.intro (ck c q2) (ck c q3)))
  refine region_box 86 [⟨some 19, 0, 20, 31, #[.int .i64 0, .int .i64 0], #[.int .i64 (spanI (Int.tdiv al bl) (Int.tdiv al (bh)) (Int.tdiv ah bl) (Int.tdiv ah (bh))).lo, .int .i64 (spanI (Int.tdiv al bl) (Int.tdiv al (bh)) (Int.tdiv ah bl) (Int.tdiv ah (bh))).hi]⟩] VV (by kernel_rfl) rfl (by kernel_rfl) rfl (by intro b hb ha; simp only [List.mem_cons, List.not_mem_nil, or_false] at hb; rcases hb with rfl <;> first | (cases ha; done) | assumption) (by intro j k b c hjk hj hk hb hc; rcases j with _ | _ | j <;> rcases k with _ | _ | k <;> simp at hj hk hjk <;> (try subst hj) <;> (try subst hk) <;> first | (cases hb; done) | (cases hc; done) | (simp only; omega)) ⟨?_, ?_, ?_, ?_, ?_, ?_, ?_, ?_, ?_, ?_, ?_, ?_, ?_, ?_, ?_, ?_, ?_, ?_, ?_, ?_, ?_, trivial⟩ ?_
  · exact b_vx v0 rfl rfl (fun gm a W h => by have e2 : a.eval (.tmp 2) = .pointer (some ⟨w.heap.size, 0, none⟩) := (h.slot 2 (by kernel_rfl)).trans rfl; simp only [execOp, e2]; first | (simp [go_sem, hb0, hm0, d0, d1, d2, d3] <;> first | exact wrapIn | rfl) | kernel_rfl)
  · exact b_vx v1 rfl rfl (fun gm a W h => by have e37 := (h.vb 0 37).trans v0; obtain ⟨kq0, kq1, kq2, kq3⟩ := HK W h.chg; simp only [execOp, e37]; first | (simp [go_sem, kq0, kq1, kq2, kq3, hb0, hm0, d0, d1, d2, d3] <;> first | exact wrapIn | rfl) | kernel_rfl)
  · exact b_vx v2 rfl rfl (fun gm a W h => by have e3 : a.eval (.tmp 3) = .pointer (some ⟨w.heap.size + 1, 0, none⟩) := (h.slot 3 (by kernel_rfl)).trans rfl; simp only [execOp, e3]; first | (simp [go_sem, hb0, hm0, d0, d1, d2, d3] <;> first | exact wrapIn | rfl) | kernel_rfl)
  · exact b_vx v3 rfl rfl (fun gm a W h => by have e39 := (h.vb 2 39).trans v2; obtain ⟨kq0, kq1, kq2, kq3⟩ := HK W h.chg; simp only [execOp, e39]; first | (simp [go_sem, kq0, kq1, kq2, kq3, hb0, hm0, d0, d1, d2, d3] <;> first | exact wrapIn | rfl) | kernel_rfl)
  · exact b_vx v4 rfl rfl (fun gm a W h => by have e38 := (h.vb 1 38).trans v1; have e40 := (h.vb 3 40).trans v3; simp only [execOp, e38, e40]; first | (simp [go_sem, hb0, hm0, d0, d1, d2, d3] <;> first | exact wrapIn | rfl) | kernel_rfl)
  · exact b_vx v5 rfl rfl (fun gm a W h => by have e2 : a.eval (.tmp 2) = .pointer (some ⟨w.heap.size, 0, none⟩) := (h.slot 2 (by kernel_rfl)).trans rfl; simp only [execOp, e2]; first | (simp [go_sem, hb0, hm0, d0, d1, d2, d3] <;> first | exact wrapIn | rfl) | kernel_rfl)
  · exact b_vx v6 rfl rfl (fun gm a W h => by have e42 := (h.vb 5 42).trans v5; obtain ⟨kq0, kq1, kq2, kq3⟩ := HK W h.chg; simp only [execOp, e42]; first | (simp [go_sem, kq0, kq1, kq2, kq3, hb0, hm0, d0, d1, d2, d3] <;> first | exact wrapIn | rfl) | kernel_rfl)
  · exact b_vx v7 rfl rfl (fun gm a W h => by have e6 : a.eval (.tmp 6) = .int .i64 (bh) := (h.slot 6 (by kernel_rfl)).trans rfl; simp only [execOp, e6]; first | (simp [go_sem, hb0, hm0, d0, d1, d2, d3] <;> first | exact wrapIn | rfl) | kernel_rfl)
  · exact b_vx v8 rfl rfl (fun gm a W h => by have e43 := (h.vb 6 43).trans v6; have e44 := (h.vb 7 44).trans v7; simp only [execOp, e43, e44]; first | (simp [go_sem, hb0, hm0, d0, d1, d2, d3] <;> first | exact wrapIn | rfl) | kernel_rfl)
  · exact b_vx v9 rfl rfl (fun gm a W h => by have e2 : a.eval (.tmp 2) = .pointer (some ⟨w.heap.size, 0, none⟩) := (h.slot 2 (by kernel_rfl)).trans rfl; simp only [execOp, e2]; first | (simp [go_sem, hb0, hm0, d0, d1, d2, d3] <;> first | exact wrapIn | rfl) | kernel_rfl)
  · exact b_vx v10 rfl rfl (fun gm a W h => by have e46 := (h.vb 9 46).trans v9; obtain ⟨kq0, kq1, kq2, kq3⟩ := HK W h.chg; simp only [execOp, e46]; first | (simp [go_sem, kq0, kq1, kq2, kq3, hb0, hm0, d0, d1, d2, d3] <;> first | exact wrapIn | rfl) | kernel_rfl)
  · exact b_vx v11 rfl rfl (fun gm a W h => by have e3 : a.eval (.tmp 3) = .pointer (some ⟨w.heap.size + 1, 0, none⟩) := (h.slot 3 (by kernel_rfl)).trans rfl; simp only [execOp, e3]; first | (simp [go_sem, hb0, hm0, d0, d1, d2, d3] <;> first | exact wrapIn | rfl) | kernel_rfl)
  · exact b_vx v12 rfl rfl (fun gm a W h => by have e48 := (h.vb 11 48).trans v11; obtain ⟨kq0, kq1, kq2, kq3⟩ := HK W h.chg; simp only [execOp, e48]; first | (simp [go_sem, kq0, kq1, kq2, kq3, hb0, hm0, d0, d1, d2, d3] <;> first | exact wrapIn | rfl) | kernel_rfl)
  · exact b_vx v13 rfl rfl (fun gm a W h => by have e47 := (h.vb 10 47).trans v10; have e49 := (h.vb 12 49).trans v12; simp only [execOp, e47, e49]; first | (simp [go_sem, hb0, hm0, d0, d1, d2, d3] <;> first | exact wrapIn | rfl) | kernel_rfl)
  · exact b_vx v14 rfl rfl (fun gm a W h => by have e2 : a.eval (.tmp 2) = .pointer (some ⟨w.heap.size, 0, none⟩) := (h.slot 2 (by kernel_rfl)).trans rfl; simp only [execOp, e2]; first | (simp [go_sem, hb0, hm0, d0, d1, d2, d3] <;> first | exact wrapIn | rfl) | kernel_rfl)
  · exact b_vx v15 rfl rfl (fun gm a W h => by have e51 := (h.vb 14 51).trans v14; obtain ⟨kq0, kq1, kq2, kq3⟩ := HK W h.chg; simp only [execOp, e51]; first | (simp [go_sem, kq0, kq1, kq2, kq3, hb0, hm0, d0, d1, d2, d3] <;> first | exact wrapIn | rfl) | kernel_rfl)
  · exact b_vx v16 rfl rfl (fun gm a W h => by have e6 : a.eval (.tmp 6) = .int .i64 (bh) := (h.slot 6 (by kernel_rfl)).trans rfl; simp only [execOp, e6]; first | (simp [go_sem, hb0, hm0, d0, d1, d2, d3] <;> first | exact wrapIn | rfl) | kernel_rfl)
  · exact b_vx v17 rfl rfl (fun gm a W h => by have e52 := (h.vb 15 52).trans v15; have e53 := (h.vb 16 53).trans v16; simp only [execOp, e52, e53]; first | (simp [go_sem, hb0, hm0, d0, d1, d2, d3] <;> first | exact wrapIn | rfl) | kernel_rfl)
  · exact b_cx v18 rfl rfl (fun gm a W h => by
      have e41 := (h.vb 4 41).trans v4
      have e45 := (h.vb 8 45).trans v8
      have e50 := (h.vb 13 50).trans v13
      have e54 := (h.vb 17 54).trans v17
      refine Eq.trans (b := .ok (.enter 160 #[a.eval (.tmp 41), a.eval (.tmp 45), a.eval (.tmp 50), a.eval (.tmp 54)]) W) (by kernel_rfl) ?_
      rw [e41, e45, e50, e54]) (fun W => specL2Span (Int.tdiv al bl) (Int.tdiv al (bh)) (Int.tdiv ah bl) (Int.tdiv ah (bh)) W)
  · exact b_alloc 0 _ rfl rfl rfl (by kernel_rfl) rfl (fun gm a W h => by kernel_rfl)
  · refine b_store 0 _ rfl rfl rfl v20 (fun j hj => by cases hj; exact ⟨7, ⟨⟨⟨19, .data⟩, by simp, rfl, by kernel_rfl⟩, by kernel_rfl⟩⟩) rfl (fun gm a W h hold hb => ?_)
    have e7 : a.eval (.tmp 7) = .pointer (some ⟨gm 0, 0, none⟩) := (h.vb 19 7).trans rfl
    have e55 := (h.vb 18 55).trans v18
    simp only at hb
    have hf := fun j => hb.frozen j
    have c0 := hb.cell 0
    have c1 := hb.cell 1
    refine ⟨_, by (simp only [execOp, e7, e55]; simp [go_sem, hf, c0, c1, hb0, hm0, d0, d1, d2, d3]; try rfl), (hb.set_ 0 _).set_ 1 _, chgs2 _ _ _ _ _ _⟩
  intro gm vs w9 hc9 hb9 hold9 hge9 hv9
  have x0 := (hv9 0 37 (by kernel_rfl)).trans v0
  have x1 := (hv9 1 38 (by kernel_rfl)).trans v1
  have x2 := (hv9 2 39 (by kernel_rfl)).trans v2
  have x3 := (hv9 3 40 (by kernel_rfl)).trans v3
  have x4 := (hv9 4 41 (by kernel_rfl)).trans v4
  have x5 := (hv9 5 42 (by kernel_rfl)).trans v5
  have x6 := (hv9 6 43 (by kernel_rfl)).trans v6
  have x7 := (hv9 7 44 (by kernel_rfl)).trans v7
  have x8 := (hv9 8 45 (by kernel_rfl)).trans v8
  have x9 := (hv9 9 46 (by kernel_rfl)).trans v9
  have x10 := (hv9 10 47 (by kernel_rfl)).trans v10
  have x11 := (hv9 11 48 (by kernel_rfl)).trans v11
  have x12 := (hv9 12 49 (by kernel_rfl)).trans v12
  have x13 := (hv9 13 50 (by kernel_rfl)).trans v13
  have x14 := (hv9 14 51 (by kernel_rfl)).trans v14
  have x15 := (hv9 15 52 (by kernel_rfl)).trans v15
  have x16 := (hv9 16 53 (by kernel_rfl)).trans v16
  have x17 := (hv9 17 54 (by kernel_rfl)).trans v17
  have x18 := (hv9 18 55 (by kernel_rfl)).trans v18
  have x19 : vs 19 = .pointer (some ⟨gm 0, 0, none⟩) := (hv9 19 7 (by kernel_rfl)).trans rfl
  have y0 := hb9 0 _ rfl
  have g0 := hge9 0 _ 19 rfl rfl
  simp only at y0
  simp only [putAll, Act.put, List.setIfInBounds_toArray, List.set_cons_zero, List.set_cons_succ, Nat.zero_add, Nat.reduceAdd, x0, x1, x2, x3, x4, x5, x6, x7, x8, x9, x10, x11, x12, x13, x14, x15, x16, x17, x18, x19]
  clear hb9 hold9 hge9 hv9 x0 x1 x2 x3 x4 x5 x6 x7 x8 x9 x10 x11 x12 x13 x14 x15 x16 x17 x18 x19 v0 v1 v2 v3 v4 v5 v6 v7 v8 v9 v10 v11 v12 v13 v14 v15 v16 v17 v18 v19 v20 HK VV
  have zl0 := Z0.lt
  have ch := hc9
  have GEw : Grew E w9 := ch.belowB (Nat.le_refl _) (fun k hk => by obtain ⟨b, hb, ha, rfl⟩ := hk; simp only [List.mem_cons, List.not_mem_nil, or_false] at hb; rcases hb with rfl; cases ha)
  have Z9 := Z0.grew GEw
  have HG := Lib.hid (grew_tr GE GEw)
  have u0 := (GEw.cell (p := ⟨w.heap.size, 0, none⟩) (World.block_lt_of_cell? _ _ q0)).trans q0
  have u1 := (GEw.cell (p := ⟨w.heap.size, 1, none⟩) (World.block_lt_of_cell? _ _ q1)).trans q1
  have u2 := (GEw.cell (p := ⟨w.heap.size + 1, 0, none⟩) (World.block_lt_of_cell? _ _ q2)).trans q2
  have u3 := (GEw.cell (p := ⟨w.heap.size + 1, 1, none⟩) (World.block_lt_of_cell? _ _ q3)).trans q3
  have zn : ¬ gm 0 = w.heap.size + 1 + 1 := by omega
  have zn2 : ¬ w.heap.size + 1 + 1 = gm 0 := by omega
  have r0 := y0.cell 0
  have r1 := y0.cell 1
  have rl := y0.lt
  have z0 := Z9.cell 0
  have z1 := Z9.cell 1
  have zl := Z9.lt
  have zf := fun j => Z9.frozen j
  simp only [List.getElem?_toArray, List.getElem?_cons_zero, List.getElem?_cons_succ] at r0 r1 z0 z1
  clear y0 hc9 ch GE GEw q0 q1 q2 q3 Z0 Z9 zl0
  go_wp2
  refine bodyPost_ret (by simp [results, Tryz.results161, go_sem, z0, z1, zl]; try rfl) rfl ?_
  refine ⟨rfl, ?_⟩
  repeat (first | with_reducible exact HG.out | with_reducible refine grew_set ?_ (by first | omega | (simp only; omega)) _)
set_option maxRecDepth 100000 in
set_option maxHeartbeats 4000000 in
theorem specL2DivD (al ah bl bh : Int) (w : World) (hA : -32768 ≤ al ∧ ah ≤ 32767 ∧ al ≤ ah) (hB : -32768 ≤ bl ∧ bh ≤ 32767 ∧ bl ≤ bh) (h : bl ≤ -1) (h2 : bh = 0) :
    Calls Tryz.prog 161 #[.agg #[.int .i64 al, .int .i64 ah], .agg #[.int .i64 bl, .int .i64 bh]] w fun e w' => e = .returned (divI ⟨al, ah⟩ ⟨bl, bh⟩).v ∧ Grew w w' := by
  rw [show divI ⟨al, ah⟩ ⟨bl, bh⟩ = spanI (al.tdiv bl) (al.tdiv (-1)) (ah.tdiv bl) (ah.tdiv (-1)) from by simp only [divI]; rw [if_neg (by omega), if_pos (by omega), show min bh (-1) = -1 from by omega]]
  have hb0 : ¬ bl = 0 := by omega
  have hm0 : ¬ (-1 : Int) = 0 := by omega
  have hg0 : ¬ 0 ≤ bl := by omega
  have hg1 : bl < 0 := by omega
  have hmx : min bh (-1) = -1 := by omega
  have t0 := tdiv_le (a := al) (b := bl) (by omega) (by omega)
  have d0 : IntKind.i64.wrap (Int.tdiv (al) (bl)) = Int.tdiv (al) (bl) := i64is (by omega) (by omega)
  have t1 := tdiv_le (a := al) (b := -1) (by omega) (by omega)
  have d1 : IntKind.i64.wrap (Int.tdiv (al) (-1)) = Int.tdiv (al) (-1) := i64is (by omega) (by omega)
  have t2 := tdiv_le (a := ah) (b := bl) (by omega) (by omega)
  have d2 : IntKind.i64.wrap (Int.tdiv (ah) (bl)) = Int.tdiv (ah) (bl) := i64is (by omega) (by omega)
  have t3 := tdiv_le (a := ah) (b := -1) (by omega) (by omega)
  have d3 : IntKind.i64.wrap (Int.tdiv (ah) (-1)) = Int.tdiv (ah) (-1) := i64is (by omega) (by omega)
  have hh1 : bh ≤ 0 := by omega
  clear h h2
  go_enter Tryz.func161, Tryz.ntmps161
  go_upto_region 5 with fail
  try rw [hmx]
  refine wp_letH ?_
  intro E hE
  have q0 : E.cell? ⟨w.heap.size, 0, none⟩ = some (.int .i64 al) := by rw [hE]; simp [go_sem]
  have q1 : E.cell? ⟨w.heap.size, 1, none⟩ = some (.int .i64 ah) := by rw [hE]; simp [go_sem]
  have q2 : E.cell? ⟨w.heap.size + 1, 0, none⟩ = some (.int .i64 bl) := by rw [hE]; simp [go_sem]
  have q3 : E.cell? ⟨w.heap.size + 1, 1, none⟩ = some (.int .i64 bh) := by rw [hE]; simp [go_sem]
  have Z0 : Blk E (w.heap.size + 1 + 1) 31 #[.int .i64 0, .int .i64 0] := by rw [hE]; exact Blk.new' (by simp only [World.size_alloc])
  have GE : Grew w E := by rw [hE]; exact gr
  clear hE
  clear hmx
  obtain ⟨VV, v0, v1, v2, v3, v4, v5, v6, v7, v8, v9, v10, v11, v12, v13, v14, v15, v16, v17, v18, v19, v20, -⟩ := vl [.pointer (some ⟨w.heap.size, 0, none⟩), .int .i64 (al), .pointer (some ⟨w.heap.size + 1, 0, none⟩), .int .i64 (bl), .int .i64 (Int.tdiv al bl), .pointer (some ⟨w.heap.size, 0, none⟩), .int .i64 (al), .int .i64 (-1), .int .i64 (Int.tdiv al (-1)), .pointer (some ⟨w.heap.size, 1, none⟩), .int .i64 (ah), .pointer (some ⟨w.heap.size + 1, 0, none⟩), .int .i64 (bl), .int .i64 (Int.tdiv ah bl), .pointer (some ⟨w.heap.size, 1, none⟩), .int .i64 (ah), .int .i64 (-1), .int .i64 (Int.tdiv ah (-1)), .agg #[.int .i64 (spanI (Int.tdiv al bl) (Int.tdiv al (-1)) (Int.tdiv ah bl) (Int.tdiv ah (-1))).lo, .int .i64 (spanI (Int.tdiv al bl) (Int.tdiv al (-1)) (Int.tdiv ah bl) (Int.tdiv ah (-1))).hi], undef, undef]
  have HK := fun W (c : Chg (preB [⟨some 19, 0, 20, 31, #[.int .i64 0, .int .i64 0], #[.int .i64 (spanI (Int.tdiv al bl) (Int.tdiv al (-1)) (Int.tdiv ah bl) (Int.tdiv ah (-1))).lo, .int .i64 (spanI (Int.tdiv al bl) (Int.tdiv al (-1)) (Int.tdiv ah bl) (Int.tdiv ah (-1))).hi]⟩]) _ W) => And.intro (ck c q0) (And.intro (ck c q1) (And.intro (ck c q2) (ck c q3)))
  refine region_box 86 [⟨some 19, 0, 20, 31, #[.int .i64 0, .int .i64 0], #[.int .i64 (spanI (Int.tdiv al bl) (Int.tdiv al (-1)) (Int.tdiv ah bl) (Int.tdiv ah (-1))).lo, .int .i64 (spanI (Int.tdiv al bl) (Int.tdiv al (-1)) (Int.tdiv ah bl) (Int.tdiv ah (-1))).hi]⟩] VV (by kernel_rfl) rfl (by kernel_rfl) rfl (by intro b hb ha; simp only [List.mem_cons, List.not_mem_nil, or_false] at hb; rcases hb with rfl <;> first | (cases ha; done) | assumption) (by intro j k b c hjk hj hk hb hc; rcases j with _ | _ | j <;> rcases k with _ | _ | k <;> simp at hj hk hjk <;> (try subst hj) <;> (try subst hk) <;> first | (cases hb; done) | (cases hc; done) | (simp only; omega)) ⟨?_, ?_, ?_, ?_, ?_, ?_, ?_, ?_, ?_, ?_, ?_, ?_, ?_, ?_, ?_, ?_, ?_, ?_, ?_, ?_, ?_, trivial⟩ ?_
  · exact b_vx v0 rfl rfl (fun gm a W h => by have e2 : a.eval (.tmp 2) = .pointer (some ⟨w.heap.size, 0, none⟩) := (h.slot 2 (by kernel_rfl)).trans rfl; simp only [execOp, e2]; first | (simp [go_sem, hb0, hm0, d0, d1, d2, d3] <;> first | exact wrapIn | rfl) | kernel_rfl)
  · exact b_vx v1 rfl rfl (fun gm a W h => by have e37 := (h.vb 0 37).trans v0; obtain ⟨kq0, kq1, kq2, kq3⟩ := HK W h.chg; simp only [execOp, e37]; first | (simp [go_sem, kq0, kq1, kq2, kq3, hb0, hm0, d0, d1, d2, d3] <;> first | exact wrapIn | rfl) | kernel_rfl)
  · exact b_vx v2 rfl rfl (fun gm a W h => by have e3 : a.eval (.tmp 3) = .pointer (some ⟨w.heap.size + 1, 0, none⟩) := (h.slot 3 (by kernel_rfl)).trans rfl; simp only [execOp, e3]; first | (simp [go_sem, hb0, hm0, d0, d1, d2, d3] <;> first | exact wrapIn | rfl) | kernel_rfl)
  · exact b_vx v3 rfl rfl (fun gm a W h => by have e39 := (h.vb 2 39).trans v2; obtain ⟨kq0, kq1, kq2, kq3⟩ := HK W h.chg; simp only [execOp, e39]; first | (simp [go_sem, kq0, kq1, kq2, kq3, hb0, hm0, d0, d1, d2, d3] <;> first | exact wrapIn | rfl) | kernel_rfl)
  · exact b_vx v4 rfl rfl (fun gm a W h => by have e38 := (h.vb 1 38).trans v1; have e40 := (h.vb 3 40).trans v3; simp only [execOp, e38, e40]; first | (simp [go_sem, hb0, hm0, d0, d1, d2, d3] <;> first | exact wrapIn | rfl) | kernel_rfl)
  · exact b_vx v5 rfl rfl (fun gm a W h => by have e2 : a.eval (.tmp 2) = .pointer (some ⟨w.heap.size, 0, none⟩) := (h.slot 2 (by kernel_rfl)).trans rfl; simp only [execOp, e2]; first | (simp [go_sem, hb0, hm0, d0, d1, d2, d3] <;> first | exact wrapIn | rfl) | kernel_rfl)
  · exact b_vx v6 rfl rfl (fun gm a W h => by have e42 := (h.vb 5 42).trans v5; obtain ⟨kq0, kq1, kq2, kq3⟩ := HK W h.chg; simp only [execOp, e42]; first | (simp [go_sem, kq0, kq1, kq2, kq3, hb0, hm0, d0, d1, d2, d3] <;> first | exact wrapIn | rfl) | kernel_rfl)
  · exact b_vx v7 rfl rfl (fun gm a W h => by have e6 : a.eval (.tmp 6) = .int .i64 (-1) := (h.slot 6 (by kernel_rfl)).trans rfl; simp only [execOp, e6]; first | (simp [go_sem, hb0, hm0, d0, d1, d2, d3] <;> first | exact wrapIn | rfl) | kernel_rfl)
  · exact b_vx v8 rfl rfl (fun gm a W h => by have e43 := (h.vb 6 43).trans v6; have e44 := (h.vb 7 44).trans v7; simp only [execOp, e43, e44]; first | (simp [go_sem, hb0, hm0, d0, d1, d2, d3] <;> first | exact wrapIn | rfl) | kernel_rfl)
  · exact b_vx v9 rfl rfl (fun gm a W h => by have e2 : a.eval (.tmp 2) = .pointer (some ⟨w.heap.size, 0, none⟩) := (h.slot 2 (by kernel_rfl)).trans rfl; simp only [execOp, e2]; first | (simp [go_sem, hb0, hm0, d0, d1, d2, d3] <;> first | exact wrapIn | rfl) | kernel_rfl)
  · exact b_vx v10 rfl rfl (fun gm a W h => by have e46 := (h.vb 9 46).trans v9; obtain ⟨kq0, kq1, kq2, kq3⟩ := HK W h.chg; simp only [execOp, e46]; first | (simp [go_sem, kq0, kq1, kq2, kq3, hb0, hm0, d0, d1, d2, d3] <;> first | exact wrapIn | rfl) | kernel_rfl)
  · exact b_vx v11 rfl rfl (fun gm a W h => by have e3 : a.eval (.tmp 3) = .pointer (some ⟨w.heap.size + 1, 0, none⟩) := (h.slot 3 (by kernel_rfl)).trans rfl; simp only [execOp, e3]; first | (simp [go_sem, hb0, hm0, d0, d1, d2, d3] <;> first | exact wrapIn | rfl) | kernel_rfl)
  · exact b_vx v12 rfl rfl (fun gm a W h => by have e48 := (h.vb 11 48).trans v11; obtain ⟨kq0, kq1, kq2, kq3⟩ := HK W h.chg; simp only [execOp, e48]; first | (simp [go_sem, kq0, kq1, kq2, kq3, hb0, hm0, d0, d1, d2, d3] <;> first | exact wrapIn | rfl) | kernel_rfl)
  · exact b_vx v13 rfl rfl (fun gm a W h => by have e47 := (h.vb 10 47).trans v10; have e49 := (h.vb 12 49).trans v12; simp only [execOp, e47, e49]; first | (simp [go_sem, hb0, hm0, d0, d1, d2, d3] <;> first | exact wrapIn | rfl) | kernel_rfl)
  · exact b_vx v14 rfl rfl (fun gm a W h => by have e2 : a.eval (.tmp 2) = .pointer (some ⟨w.heap.size, 0, none⟩) := (h.slot 2 (by kernel_rfl)).trans rfl; simp only [execOp, e2]; first | (simp [go_sem, hb0, hm0, d0, d1, d2, d3] <;> first | exact wrapIn | rfl) | kernel_rfl)
  · exact b_vx v15 rfl rfl (fun gm a W h => by have e51 := (h.vb 14 51).trans v14; obtain ⟨kq0, kq1, kq2, kq3⟩ := HK W h.chg; simp only [execOp, e51]; first | (simp [go_sem, kq0, kq1, kq2, kq3, hb0, hm0, d0, d1, d2, d3] <;> first | exact wrapIn | rfl) | kernel_rfl)
  · exact b_vx v16 rfl rfl (fun gm a W h => by have e6 : a.eval (.tmp 6) = .int .i64 (-1) := (h.slot 6 (by kernel_rfl)).trans rfl; simp only [execOp, e6]; first | (simp [go_sem, hb0, hm0, d0, d1, d2, d3] <;> first | exact wrapIn | rfl) | kernel_rfl)
  · exact b_vx v17 rfl rfl (fun gm a W h => by have e52 := (h.vb 15 52).trans v15; have e53 := (h.vb 16 53).trans v16; simp only [execOp, e52, e53]; first | (simp [go_sem, hb0, hm0, d0, d1, d2, d3] <;> first | exact wrapIn | rfl) | kernel_rfl)
  · exact b_cx v18 rfl rfl (fun gm a W h => by
      have e41 := (h.vb 4 41).trans v4
      have e45 := (h.vb 8 45).trans v8
      have e50 := (h.vb 13 50).trans v13
      have e54 := (h.vb 17 54).trans v17
      refine Eq.trans (b := .ok (.enter 160 #[a.eval (.tmp 41), a.eval (.tmp 45), a.eval (.tmp 50), a.eval (.tmp 54)]) W) (by kernel_rfl) ?_
      rw [e41, e45, e50, e54]) (fun W => specL2Span (Int.tdiv al bl) (Int.tdiv al (-1)) (Int.tdiv ah bl) (Int.tdiv ah (-1)) W)
  · exact b_alloc 0 _ rfl rfl rfl (by kernel_rfl) rfl (fun gm a W h => by kernel_rfl)
  · refine b_store 0 _ rfl rfl rfl v20 (fun j hj => by cases hj; exact ⟨7, ⟨⟨⟨19, .data⟩, by simp, rfl, by kernel_rfl⟩, by kernel_rfl⟩⟩) rfl (fun gm a W h hold hb => ?_)
    have e7 : a.eval (.tmp 7) = .pointer (some ⟨gm 0, 0, none⟩) := (h.vb 19 7).trans rfl
    have e55 := (h.vb 18 55).trans v18
    simp only at hb
    have hf := fun j => hb.frozen j
    have c0 := hb.cell 0
    have c1 := hb.cell 1
    refine ⟨_, by (simp only [execOp, e7, e55]; simp [go_sem, hf, c0, c1, hb0, hm0, d0, d1, d2, d3]; try rfl), (hb.set_ 0 _).set_ 1 _, chgs2 _ _ _ _ _ _⟩
  intro gm vs w9 hc9 hb9 hold9 hge9 hv9
  have x0 := (hv9 0 37 (by kernel_rfl)).trans v0
  have x1 := (hv9 1 38 (by kernel_rfl)).trans v1
  have x2 := (hv9 2 39 (by kernel_rfl)).trans v2
  have x3 := (hv9 3 40 (by kernel_rfl)).trans v3
  have x4 := (hv9 4 41 (by kernel_rfl)).trans v4
  have x5 := (hv9 5 42 (by kernel_rfl)).trans v5
  have x6 := (hv9 6 43 (by kernel_rfl)).trans v6
  have x7 := (hv9 7 44 (by kernel_rfl)).trans v7
  have x8 := (hv9 8 45 (by kernel_rfl)).trans v8
  have x9 := (hv9 9 46 (by kernel_rfl)).trans v9
  have x10 := (hv9 10 47 (by kernel_rfl)).trans v10
  have x11 := (hv9 11 48 (by kernel_rfl)).trans v11
  have x12 := (hv9 12 49 (by kernel_rfl)).trans v12
  have x13 := (hv9 13 50 (by kernel_rfl)).trans v13
  have x14 := (hv9 14 51 (by kernel_rfl)).trans v14
  have x15 := (hv9 15 52 (by kernel_rfl)).trans v15
  have x16 := (hv9 16 53 (by kernel_rfl)).trans v16
  have x17 := (hv9 17 54 (by kernel_rfl)).trans v17
  have x18 := (hv9 18 55 (by kernel_rfl)).trans v18
  have x19 : vs 19 = .pointer (some ⟨gm 0, 0, none⟩) := (hv9 19 7 (by kernel_rfl)).trans rfl
  have y0 := hb9 0 _ rfl
  have g0 := hge9 0 _ 19 rfl rfl
  simp only at y0
  simp only [putAll, Act.put, List.setIfInBounds_toArray, List.set_cons_zero, List.set_cons_succ, Nat.zero_add, Nat.reduceAdd, x0, x1, x2, x3, x4, x5, x6, x7, x8, x9, x10, x11, x12, x13, x14, x15, x16, x17, x18, x19]
  clear hb9 hold9 hge9 hv9 x0 x1 x2 x3 x4 x5 x6 x7 x8 x9 x10 x11 x12 x13 x14 x15 x16 x17 x18 x19 v0 v1 v2 v3 v4 v5 v6 v7 v8 v9 v10 v11 v12 v13 v14 v15 v16 v17 v18 v19 v20 HK VV
  have zl0 := Z0.lt
  have ch := hc9
  have GEw : Grew E w9 := ch.belowB (Nat.le_refl _) (fun k hk => by obtain ⟨b, hb, ha, rfl⟩ := hk; simp only [List.mem_cons, List.not_mem_nil, or_false] at hb; rcases hb with rfl; cases ha)
  have Z9 := Z0.grew GEw
  have HG := Lib.hid (grew_tr GE GEw)
  have u0 := (GEw.cell (p := ⟨w.heap.size, 0, none⟩) (World.block_lt_of_cell? _ _ q0)).trans q0
  have u1 := (GEw.cell (p := ⟨w.heap.size, 1, none⟩) (World.block_lt_of_cell? _ _ q1)).trans q1
  have u2 := (GEw.cell (p := ⟨w.heap.size + 1, 0, none⟩) (World.block_lt_of_cell? _ _ q2)).trans q2
  have u3 := (GEw.cell (p := ⟨w.heap.size + 1, 1, none⟩) (World.block_lt_of_cell? _ _ q3)).trans q3
  have zn : ¬ gm 0 = w.heap.size + 1 + 1 := by omega
  have zn2 : ¬ w.heap.size + 1 + 1 = gm 0 := by omega
  have r0 := y0.cell 0
  have r1 := y0.cell 1
  have rl := y0.lt
  have z0 := Z9.cell 0
  have z1 := Z9.cell 1
  have zl := Z9.lt
  have zf := fun j => Z9.frozen j
  simp only [List.getElem?_toArray, List.getElem?_cons_zero, List.getElem?_cons_succ] at r0 r1 z0 z1
  clear y0 hc9 ch GE GEw q0 q1 q2 q3 Z0 Z9 zl0
  go_wp2
  refine bodyPost_ret (by simp [results, Tryz.results161, go_sem, z0, z1, zl]; try rfl) rfl ?_
  refine ⟨rfl, ?_⟩
  repeat (first | with_reducible exact HG.out | with_reducible refine grew_set ?_ (by first | omega | (simp only; omega)) _)
set_option maxRecDepth 100000 in
set_option maxHeartbeats 4000000 in
theorem specL2DivE (al ah bl bh : Int) (w : World) (hA : -32768 ≤ al ∧ ah ≤ 32767 ∧ al ≤ ah) (hB : -32768 ≤ bl ∧ bh ≤ 32767 ∧ bl ≤ bh) (h : bl ≤ -1) (h2 : 1 ≤ bh) :
    Calls Tryz.prog 161 #[.agg #[.int .i64 al, .int .i64 ah], .agg #[.int .i64 bl, .int .i64 bh]] w fun e w' => e = .returned (divI ⟨al, ah⟩ ⟨bl, bh⟩).v ∧ Grew w w' := by
  rw [show divI ⟨al, ah⟩ ⟨bl, bh⟩ = ⟨min (spanI (Int.tdiv al bl) (Int.tdiv al (-1)) (Int.tdiv ah bl) (Int.tdiv ah (-1))).lo (spanI (al) (Int.tdiv al bh) (ah) (Int.tdiv ah bh)).lo, max (spanI (Int.tdiv al bl) (Int.tdiv al (-1)) (Int.tdiv ah bl) (Int.tdiv ah (-1))).hi (spanI (al) (Int.tdiv al bh) (ah) (Int.tdiv ah bh)).hi⟩ from by simp only [divI]; rw [if_neg (by omega), if_neg (by omega), show min bh (-1) = -1 from by omega]]
  have hb0 : ¬ bl = 0 := by omega
  have hm0 : ¬ (-1 : Int) = 0 := by omega
  have hg0 : ¬ 0 ≤ bl := by omega
  have hg1 : bl < 0 := by omega
  have hmx : min bh (-1) = -1 := by omega
  have t0 := tdiv_le (a := al) (b := bl) (by omega) (by omega)
  have d0 : IntKind.i64.wrap (Int.tdiv (al) (bl)) = Int.tdiv (al) (bl) := i64is (by omega) (by omega)
  have t1 := tdiv_le (a := al) (b := -1) (by omega) (by omega)
  have d1 : IntKind.i64.wrap (Int.tdiv (al) (-1)) = Int.tdiv (al) (-1) := i64is (by omega) (by omega)
  have t2 := tdiv_le (a := ah) (b := bl) (by omega) (by omega)
  have d2 : IntKind.i64.wrap (Int.tdiv (ah) (bl)) = Int.tdiv (ah) (bl) := i64is (by omega) (by omega)
  have t3 := tdiv_le (a := ah) (b := -1) (by omega) (by omega)
  have d3 : IntKind.i64.wrap (Int.tdiv (ah) (-1)) = Int.tdiv (ah) (-1) := i64is (by omega) (by omega)
  have t4 := tdiv_le (a := al) (b := bh) (by omega) (by omega)
  have d4 : IntKind.i64.wrap (Int.tdiv (al) (bh)) = Int.tdiv (al) (bh) := i64is (by omega) (by omega)
  have t5 := tdiv_le (a := ah) (b := bh) (by omega) (by omega)
  have d5 : IntKind.i64.wrap (Int.tdiv (ah) (bh)) = Int.tdiv (ah) (bh) := i64is (by omega) (by omega)
  have hh0 : ¬ bh = 0 := by omega
  have hh1 : ¬ bh ≤ 0 := by omega
  clear h h2
  go_enter Tryz.func161, Tryz.ntmps161
  go_upto_region 5 with fail
  try rw [hmx]
  refine wp_letH ?_
  intro E hE
  have q0 : E.cell? ⟨w.heap.size, 0, none⟩ = some (.int .i64 al) := by rw [hE]; simp [go_sem]
  have q1 : E.cell? ⟨w.heap.size, 1, none⟩ = some (.int .i64 ah) := by rw [hE]; simp [go_sem]
  have q2 : E.cell? ⟨w.heap.size + 1, 0, none⟩ = some (.int .i64 bl) := by rw [hE]; simp [go_sem]
  have q3 : E.cell? ⟨w.heap.size + 1, 1, none⟩ = some (.int .i64 bh) := by rw [hE]; simp [go_sem]
  have Z0 : Blk E (w.heap.size + 1 + 1) 31 #[.int .i64 0, .int .i64 0] := by rw [hE]; exact Blk.new' (by simp only [World.size_alloc])
  have GE : Grew w E := by rw [hE]; exact gr
  clear hE
  clear hmx
  obtain ⟨VV, v0, v1, v2, v3, v4, v5, v6, v7, v8, v9, v10, v11, v12, v13, v14, v15, v16, v17, v18, v19, v20, -⟩ := vl [.pointer (some ⟨w.heap.size, 0, none⟩), .int .i64 (al), .pointer (some ⟨w.heap.size + 1, 0, none⟩), .int .i64 (bl), .int .i64 (Int.tdiv al bl), .pointer (some ⟨w.heap.size, 0, none⟩), .int .i64 (al), .int .i64 (-1), .int .i64 (Int.tdiv al (-1)), .pointer (some ⟨w.heap.size, 1, none⟩), .int .i64 (ah), .pointer (some ⟨w.heap.size + 1, 0, none⟩), .int .i64 (bl), .int .i64 (Int.tdiv ah bl), .pointer (some ⟨w.heap.size, 1, none⟩), .int .i64 (ah), .int .i64 (-1), .int .i64 (Int.tdiv ah (-1)), .agg #[.int .i64 (spanI (Int.tdiv al bl) (Int.tdiv al (-1)) (Int.tdiv ah bl) (Int.tdiv ah (-1))).lo, .int .i64 (spanI (Int.tdiv al bl) (Int.tdiv al (-1)) (Int.tdiv ah bl) (Int.tdiv ah (-1))).hi], undef, undef]
  have HK := fun W (c : Chg (preB [⟨some 19, 0, 20, 31, #[.int .i64 0, .int .i64 0], #[.int .i64 (spanI (Int.tdiv al bl) (Int.tdiv al (-1)) (Int.tdiv ah bl) (Int.tdiv ah (-1))).lo, .int .i64 (spanI (Int.tdiv al bl) (Int.tdiv al (-1)) (Int.tdiv ah bl) (Int.tdiv ah (-1))).hi]⟩]) _ W) => And.intro (ck c q0) (And.intro (ck c q1) (And.intro (ck c q2) (ck c q3)))
  refine region_box 86 [⟨some 19, 0, 20, 31, #[.int .i64 0, .int .i64 0], #[.int .i64 (spanI (Int.tdiv al bl) (Int.tdiv al (-1)) (Int.tdiv ah bl) (Int.tdiv ah (-1))).lo, .int .i64 (spanI (Int.tdiv al bl) (Int.tdiv al (-1)) (Int.tdiv ah bl) (Int.tdiv ah (-1))).hi]⟩] VV (by kernel_rfl) rfl (by kernel_rfl) rfl (by intro b hb ha; simp only [List.mem_cons, List.not_mem_nil, or_false] at hb; rcases hb with rfl <;> first | (cases ha; done) | assumption) (by intro j k b c hjk hj hk hb hc; rcases j with _ | _ | j <;> rcases k with _ | _ | k <;> simp at hj hk hjk <;> (try subst hj) <;> (try subst hk) <;> first | (cases hb; done) | (cases hc; done) | (simp only; omega)) ⟨?_, ?_, ?_, ?_, ?_, ?_, ?_, ?_, ?_, ?_, ?_, ?_, ?_, ?_, ?_, ?_, ?_, ?_, ?_, ?_, ?_, trivial⟩ ?_
  · exact b_vx v0 rfl rfl (fun gm a W h => by have e2 : a.eval (.tmp 2) = .pointer (some ⟨w.heap.size, 0, none⟩) := (h.slot 2 (by kernel_rfl)).trans rfl; simp only [execOp, e2]; first | (simp [go_sem, hb0, hm0, d0, d1, d2, d3] <;> first | exact wrapIn | rfl) | kernel_rfl)
  · exact b_vx v1 rfl rfl (fun gm a W h => by have e37 := (h.vb 0 37).trans v0; obtain ⟨kq0, kq1, kq2, kq3⟩ := HK W h.chg; simp only [execOp, e37]; first | (simp [go_sem, kq0, kq1, kq2, kq3, hb0, hm0, d0, d1, d2, d3] <;> first | exact wrapIn | rfl) | kernel_rfl)
  · exact b_vx v2 rfl rfl (fun gm a W h => by have e3 : a.eval (.tmp 3) = .pointer (some ⟨w.heap.size + 1, 0, none⟩) := (h.slot 3 (by kernel_rfl)).trans rfl; simp only [execOp, e3]; first | (simp [go_sem, hb0, hm0, d0, d1, d2, d3] <;> first | exact wrapIn | rfl) | kernel_rfl)
  · exact b_vx v3 rfl rfl (fun gm a W h => by have e39 := (h.vb 2 39).trans v2; obtain ⟨kq0, kq1, kq2, kq3⟩ := HK W h.chg; simp only [execOp, e39]; first | (simp [go_sem, kq0, kq1, kq2, kq3, hb0, hm0, d0, d1, d2, d3] <;> first | exact wrapIn | rfl) | kernel_rfl)
  · exact b_vx v4 rfl rfl (fun gm a W h => by have e38 := (h.vb 1 38).trans v1; have e40 := (h.vb 3 40).trans v3; simp only [execOp, e38, e40]; first | (simp [go_sem, hb0, hm0, d0, d1, d2, d3] <;> first | exact wrapIn | rfl) | kernel_rfl)
  · exact b_vx v5 rfl rfl (fun gm a W h => by have e2 : a.eval (.tmp 2) = .pointer (some ⟨w.heap.size, 0, none⟩) := (h.slot 2 (by kernel_rfl)).trans rfl; simp only [execOp, e2]; first | (simp [go_sem, hb0, hm0, d0, d1, d2, d3] <;> first | exact wrapIn | rfl) | kernel_rfl)
  · exact b_vx v6 rfl rfl (fun gm a W h => by have e42 := (h.vb 5 42).trans v5; obtain ⟨kq0, kq1, kq2, kq3⟩ := HK W h.chg; simp only [execOp, e42]; first | (simp [go_sem, kq0, kq1, kq2, kq3, hb0, hm0, d0, d1, d2, d3] <;> first | exact wrapIn | rfl) | kernel_rfl)
  · exact b_vx v7 rfl rfl (fun gm a W h => by have e6 : a.eval (.tmp 6) = .int .i64 (-1) := (h.slot 6 (by kernel_rfl)).trans rfl; simp only [execOp, e6]; first | (simp [go_sem, hb0, hm0, d0, d1, d2, d3] <;> first | exact wrapIn | rfl) | kernel_rfl)
  · exact b_vx v8 rfl rfl (fun gm a W h => by have e43 := (h.vb 6 43).trans v6; have e44 := (h.vb 7 44).trans v7; simp only [execOp, e43, e44]; first | (simp [go_sem, hb0, hm0, d0, d1, d2, d3] <;> first | exact wrapIn | rfl) | kernel_rfl)
  · exact b_vx v9 rfl rfl (fun gm a W h => by have e2 : a.eval (.tmp 2) = .pointer (some ⟨w.heap.size, 0, none⟩) := (h.slot 2 (by kernel_rfl)).trans rfl; simp only [execOp, e2]; first | (simp [go_sem, hb0, hm0, d0, d1, d2, d3] <;> first | exact wrapIn | rfl) | kernel_rfl)
  · exact b_vx v10 rfl rfl (fun gm a W h => by have e46 := (h.vb 9 46).trans v9; obtain ⟨kq0, kq1, kq2, kq3⟩ := HK W h.chg; simp only [execOp, e46]; first | (simp [go_sem, kq0, kq1, kq2, kq3, hb0, hm0, d0, d1, d2, d3] <;> first | exact wrapIn | rfl) | kernel_rfl)
  · exact b_vx v11 rfl rfl (fun gm a W h => by have e3 : a.eval (.tmp 3) = .pointer (some ⟨w.heap.size + 1, 0, none⟩) := (h.slot 3 (by kernel_rfl)).trans rfl; simp only [execOp, e3]; first | (simp [go_sem, hb0, hm0, d0, d1, d2, d3] <;> first | exact wrapIn | rfl) | kernel_rfl)
  · exact b_vx v12 rfl rfl (fun gm a W h => by have e48 := (h.vb 11 48).trans v11; obtain ⟨kq0, kq1, kq2, kq3⟩ := HK W h.chg; simp only [execOp, e48]; first | (simp [go_sem, kq0, kq1, kq2, kq3, hb0, hm0, d0, d1, d2, d3] <;> first | exact wrapIn | rfl) | kernel_rfl)
  · exact b_vx v13 rfl rfl (fun gm a W h => by have e47 := (h.vb 10 47).trans v10; have e49 := (h.vb 12 49).trans v12; simp only [execOp, e47, e49]; first | (simp [go_sem, hb0, hm0, d0, d1, d2, d3] <;> first | exact wrapIn | rfl) | kernel_rfl)
  · exact b_vx v14 rfl rfl (fun gm a W h => by have e2 : a.eval (.tmp 2) = .pointer (some ⟨w.heap.size, 0, none⟩) := (h.slot 2 (by kernel_rfl)).trans rfl; simp only [execOp, e2]; first | (simp [go_sem, hb0, hm0, d0, d1, d2, d3] <;> first | exact wrapIn | rfl) | kernel_rfl)
  · exact b_vx v15 rfl rfl (fun gm a W h => by have e51 := (h.vb 14 51).trans v14; obtain ⟨kq0, kq1, kq2, kq3⟩ := HK W h.chg; simp only [execOp, e51]; first | (simp [go_sem, kq0, kq1, kq2, kq3, hb0, hm0, d0, d1, d2, d3] <;> first | exact wrapIn | rfl) | kernel_rfl)
  · exact b_vx v16 rfl rfl (fun gm a W h => by have e6 : a.eval (.tmp 6) = .int .i64 (-1) := (h.slot 6 (by kernel_rfl)).trans rfl; simp only [execOp, e6]; first | (simp [go_sem, hb0, hm0, d0, d1, d2, d3] <;> first | exact wrapIn | rfl) | kernel_rfl)
  · exact b_vx v17 rfl rfl (fun gm a W h => by have e52 := (h.vb 15 52).trans v15; have e53 := (h.vb 16 53).trans v16; simp only [execOp, e52, e53]; first | (simp [go_sem, hb0, hm0, d0, d1, d2, d3] <;> first | exact wrapIn | rfl) | kernel_rfl)
  · exact b_cx v18 rfl rfl (fun gm a W h => by
      have e41 := (h.vb 4 41).trans v4
      have e45 := (h.vb 8 45).trans v8
      have e50 := (h.vb 13 50).trans v13
      have e54 := (h.vb 17 54).trans v17
      refine Eq.trans (b := .ok (.enter 160 #[a.eval (.tmp 41), a.eval (.tmp 45), a.eval (.tmp 50), a.eval (.tmp 54)]) W) (by kernel_rfl) ?_
      rw [e41, e45, e50, e54]) (fun W => specL2Span (Int.tdiv al bl) (Int.tdiv al (-1)) (Int.tdiv ah bl) (Int.tdiv ah (-1)) W)
  · exact b_alloc 0 _ rfl rfl rfl (by kernel_rfl) rfl (fun gm a W h => by kernel_rfl)
  · refine b_store 0 _ rfl rfl rfl v20 (fun j hj => by cases hj; exact ⟨7, ⟨⟨⟨19, .data⟩, by simp, rfl, by kernel_rfl⟩, by kernel_rfl⟩⟩) rfl (fun gm a W h hold hb => ?_)
    have e7 : a.eval (.tmp 7) = .pointer (some ⟨gm 0, 0, none⟩) := (h.vb 19 7).trans rfl
    have e55 := (h.vb 18 55).trans v18
    simp only at hb
    have hf := fun j => hb.frozen j
    have c0 := hb.cell 0
    have c1 := hb.cell 1
    refine ⟨_, by (simp only [execOp, e7, e55]; simp [go_sem, hf, c0, c1, hb0, hm0, d0, d1, d2, d3]; try rfl), (hb.set_ 0 _).set_ 1 _, chgs2 _ _ _ _ _ _⟩
  intro gm vs w9 hc9 hb9 hold9 hge9 hv9
  have x0 := (hv9 0 37 (by kernel_rfl)).trans v0
  have x1 := (hv9 1 38 (by kernel_rfl)).trans v1
  have x2 := (hv9 2 39 (by kernel_rfl)).trans v2
  have x3 := (hv9 3 40 (by kernel_rfl)).trans v3
  have x4 := (hv9 4 41 (by kernel_rfl)).trans v4
  have x5 := (hv9 5 42 (by kernel_rfl)).trans v5
  have x6 := (hv9 6 43 (by kernel_rfl)).trans v6
  have x7 := (hv9 7 44 (by kernel_rfl)).trans v7
  have x8 := (hv9 8 45 (by kernel_rfl)).trans v8
  have x9 := (hv9 9 46 (by kernel_rfl)).trans v9
  have x10 := (hv9 10 47 (by kernel_rfl)).trans v10
  have x11 := (hv9 11 48 (by kernel_rfl)).trans v11
  have x12 := (hv9 12 49 (by kernel_rfl)).trans v12
  have x13 := (hv9 13 50 (by kernel_rfl)).trans v13
  have x14 := (hv9 14 51 (by kernel_rfl)).trans v14
  have x15 := (hv9 15 52 (by kernel_rfl)).trans v15
  have x16 := (hv9 16 53 (by kernel_rfl)).trans v16
  have x17 := (hv9 17 54 (by kernel_rfl)).trans v17
  have x18 := (hv9 18 55 (by kernel_rfl)).trans v18
  have x19 : vs 19 = .pointer (some ⟨gm 0, 0, none⟩) := (hv9 19 7 (by kernel_rfl)).trans rfl
  have y0 := hb9 0 _ rfl
  have g0 := hge9 0 _ 19 rfl rfl
  simp only at y0
  simp only [putAll, Act.put, List.setIfInBounds_toArray, List.set_cons_zero, List.set_cons_succ, Nat.zero_add, Nat.reduceAdd, x0, x1, x2, x3, x4, x5, x6, x7, x8, x9, x10, x11, x12, x13, x14, x15, x16, x17, x18, x19]
  clear hb9 hold9 hge9 hv9 x0 x1 x2 x3 x4 x5 x6 x7 x8 x9 x10 x11 x12 x13 x14 x15 x16 x17 x18 x19 v0 v1 v2 v3 v4 v5 v6 v7 v8 v9 v10 v11 v12 v13 v14 v15 v16 v17 v18 v19 v20 HK VV
  have zl0 := Z0.lt
  have ch := hc9
  have GEw : Grew E w9 := ch.belowB (Nat.le_refl _) (fun k hk => by obtain ⟨b, hb, ha, rfl⟩ := hk; simp only [List.mem_cons, List.not_mem_nil, or_false] at hb; rcases hb with rfl; cases ha)
  have Z9 := Z0.grew GEw
  have HG := Lib.hid (grew_tr GE GEw)
  have u0 := (GEw.cell (p := ⟨w.heap.size, 0, none⟩) (World.block_lt_of_cell? _ _ q0)).trans q0
  have u1 := (GEw.cell (p := ⟨w.heap.size, 1, none⟩) (World.block_lt_of_cell? _ _ q1)).trans q1
  have u2 := (GEw.cell (p := ⟨w.heap.size + 1, 0, none⟩) (World.block_lt_of_cell? _ _ q2)).trans q2
  have u3 := (GEw.cell (p := ⟨w.heap.size + 1, 1, none⟩) (World.block_lt_of_cell? _ _ q3)).trans q3
  have zn : ¬ gm 0 = w.heap.size + 1 + 1 := by omega
  have zn2 : ¬ w.heap.size + 1 + 1 = gm 0 := by omega
  have r0 := y0.cell 0
  have r1 := y0.cell 1
  have rl := y0.lt
  have z0 := Z9.cell 0
  have z1 := Z9.cell 1
  have zl := Z9.lt
  have zf := fun j => Z9.frozen j
  simp only [List.getElem?_toArray, List.getElem?_cons_zero, List.getElem?_cons_succ] at r0 r1 z0 z1
  obtain ⟨g7, hg7⟩ : ∃ g, gm 0 = g := ⟨_, rfl⟩
  rw [hg7] at r0 r1 rl zn zn2 y0 ⊢
  have Y7 := y0
  clear hg7 y0 hc9 ch GE GEw q0 q1 q2 q3 Z0 zl0 r0 r1 rl z0 z1 zl zf g0 gm vs
  go_upto_region 8 with fail
  obtain ⟨VV, v0, v1, v2, v3, v4, v5, v6, v7, v8, v9, v10, v11, v12, v13, v14, v15, v16, -⟩ := vl [.pointer (some ⟨w.heap.size, 0, none⟩), .int .i64 (al), .pointer (some ⟨w.heap.size, 0, none⟩), .int .i64 (al), .pointer (some ⟨w.heap.size + 1, 1, none⟩), .int .i64 (bh), .int .i64 (Int.tdiv al bh), .pointer (some ⟨w.heap.size, 1, none⟩), .int .i64 (ah), .pointer (some ⟨w.heap.size, 1, none⟩), .int .i64 (ah), .pointer (some ⟨w.heap.size + 1, 1, none⟩), .int .i64 (bh), .int .i64 (Int.tdiv ah bh), .agg #[.int .i64 (spanI (al) (Int.tdiv al bh) (ah) (Int.tdiv ah bh)).lo, .int .i64 (spanI (al) (Int.tdiv al bh) (ah) (Int.tdiv ah bh)).hi], undef, undef]
  have HK := fun W (c : Chg (preB [⟨some 15, 0, 16, 31, #[.int .i64 0, .int .i64 0], #[.int .i64 (spanI (al) (Int.tdiv al bh) (ah) (Int.tdiv ah bh)).lo, .int .i64 (spanI (al) (Int.tdiv al bh) (ah) (Int.tdiv ah bh)).hi]⟩]) _ W) => And.intro (ck c u0) (And.intro (ck c u1) (And.intro (ck c u2) (ck c u3)))
  refine region_box 86 [⟨some 15, 0, 16, 31, #[.int .i64 0, .int .i64 0], #[.int .i64 (spanI (al) (Int.tdiv al bh) (ah) (Int.tdiv ah bh)).lo, .int .i64 (spanI (al) (Int.tdiv al bh) (ah) (Int.tdiv ah bh)).hi]⟩] VV (by kernel_rfl) rfl (by kernel_rfl) rfl (by intro b hb ha; simp only [List.mem_cons, List.not_mem_nil, or_false] at hb; rcases hb with rfl <;> first | (cases ha; done) | assumption) (by intro j k b c hjk hj hk hb hc; rcases j with _ | _ | j <;> rcases k with _ | _ | k <;> simp at hj hk hjk <;> (try subst hj) <;> (try subst hk) <;> first | (cases hb; done) | (cases hc; done) | (simp only; omega)) ⟨?_, ?_, ?_, ?_, ?_, ?_, ?_, ?_, ?_, ?_, ?_, ?_, ?_, ?_, ?_, ?_, ?_, trivial⟩ ?_
  · exact b_vx v0 rfl rfl (fun gm a W h => by have e2 : a.eval (.tmp 2) = .pointer (some ⟨w.heap.size, 0, none⟩) := (h.slot 2 (by kernel_rfl)).trans rfl; simp only [execOp, e2]; first | (simp [go_sem, hb0, hm0, hh0, d4, d5] <;> first | exact wrapIn | rfl) | kernel_rfl)
  · exact b_vx v1 rfl rfl (fun gm a W h => by have e60 := (h.vb 0 60).trans v0; obtain ⟨ku0, ku1, ku2, ku3⟩ := HK W h.chg; simp only [execOp, e60]; first | (simp [go_sem, ku0, ku1, ku2, ku3, hb0, hm0, hh0, d4, d5] <;> first | exact wrapIn | rfl) | kernel_rfl)
  · exact b_vx v2 rfl rfl (fun gm a W h => by have e2 : a.eval (.tmp 2) = .pointer (some ⟨w.heap.size, 0, none⟩) := (h.slot 2 (by kernel_rfl)).trans rfl; simp only [execOp, e2]; first | (simp [go_sem, hb0, hm0, hh0, d4, d5] <;> first | exact wrapIn | rfl) | kernel_rfl)
  · exact b_vx v3 rfl rfl (fun gm a W h => by have e62 := (h.vb 2 62).trans v2; obtain ⟨ku0, ku1, ku2, ku3⟩ := HK W h.chg; simp only [execOp, e62]; first | (simp [go_sem, ku0, ku1, ku2, ku3, hb0, hm0, hh0, d4, d5] <;> first | exact wrapIn | rfl) | kernel_rfl)
  · exact b_vx v4 rfl rfl (fun gm a W h => by have e3 : a.eval (.tmp 3) = .pointer (some ⟨w.heap.size + 1, 0, none⟩) := (h.slot 3 (by kernel_rfl)).trans rfl; simp only [execOp, e3]; first | (simp [go_sem, hb0, hm0, hh0, d4, d5] <;> first | exact wrapIn | rfl) | kernel_rfl)
  · exact b_vx v5 rfl rfl (fun gm a W h => by have e64 := (h.vb 4 64).trans v4; obtain ⟨ku0, ku1, ku2, ku3⟩ := HK W h.chg; simp only [execOp, e64]; first | (simp [go_sem, ku0, ku1, ku2, ku3, hb0, hm0, hh0, d4, d5] <;> first | exact wrapIn | rfl) | kernel_rfl)
  · exact b_vx v6 rfl rfl (fun gm a W h => by have e63 := (h.vb 3 63).trans v3; have e65 := (h.vb 5 65).trans v5; simp only [execOp, e63, e65]; first | (simp [go_sem, hb0, hm0, hh0, d4, d5] <;> first | exact wrapIn | rfl) | kernel_rfl)
  · exact b_vx v7 rfl rfl (fun gm a W h => by have e2 : a.eval (.tmp 2) = .pointer (some ⟨w.heap.size, 0, none⟩) := (h.slot 2 (by kernel_rfl)).trans rfl; simp only [execOp, e2]; first | (simp [go_sem, hb0, hm0, hh0, d4, d5] <;> first | exact wrapIn | rfl) | kernel_rfl)
  · exact b_vx v8 rfl rfl (fun gm a W h => by have e67 := (h.vb 7 67).trans v7; obtain ⟨ku0, ku1, ku2, ku3⟩ := HK W h.chg; simp only [execOp, e67]; first | (simp [go_sem, ku0, ku1, ku2, ku3, hb0, hm0, hh0, d4, d5] <;> first | exact wrapIn | rfl) | kernel_rfl)
  · exact b_vx v9 rfl rfl (fun gm a W h => by have e2 : a.eval (.tmp 2) = .pointer (some ⟨w.heap.size, 0, none⟩) := (h.slot 2 (by kernel_rfl)).trans rfl; simp only [execOp, e2]; first | (simp [go_sem, hb0, hm0, hh0, d4, d5] <;> first | exact wrapIn | rfl) | kernel_rfl)
  · exact b_vx v10 rfl rfl (fun gm a W h => by have e69 := (h.vb 9 69).trans v9; obtain ⟨ku0, ku1, ku2, ku3⟩ := HK W h.chg; simp only [execOp, e69]; first | (simp [go_sem, ku0, ku1, ku2, ku3, hb0, hm0, hh0, d4, d5] <;> first | exact wrapIn | rfl) | kernel_rfl)
  · exact b_vx v11 rfl rfl (fun gm a W h => by have e3 : a.eval (.tmp 3) = .pointer (some ⟨w.heap.size + 1, 0, none⟩) := (h.slot 3 (by kernel_rfl)).trans rfl; simp only [execOp, e3]; first | (simp [go_sem, hb0, hm0, hh0, d4, d5] <;> first | exact wrapIn | rfl) | kernel_rfl)
  · exact b_vx v12 rfl rfl (fun gm a W h => by have e71 := (h.vb 11 71).trans v11; obtain ⟨ku0, ku1, ku2, ku3⟩ := HK W h.chg; simp only [execOp, e71]; first | (simp [go_sem, ku0, ku1, ku2, ku3, hb0, hm0, hh0, d4, d5] <;> first | exact wrapIn | rfl) | kernel_rfl)
  · exact b_vx v13 rfl rfl (fun gm a W h => by have e70 := (h.vb 10 70).trans v10; have e72 := (h.vb 12 72).trans v12; simp only [execOp, e70, e72]; first | (simp [go_sem, hb0, hm0, hh0, d4, d5] <;> first | exact wrapIn | rfl) | kernel_rfl)
  · exact b_cx v14 rfl rfl (fun gm a W h => by
      have e61 := (h.vb 1 61).trans v1
      have e66 := (h.vb 6 66).trans v6
      have e68 := (h.vb 8 68).trans v8
      have e73 := (h.vb 13 73).trans v13
      refine Eq.trans (b := .ok (.enter 160 #[a.eval (.tmp 61), a.eval (.tmp 66), a.eval (.tmp 68), a.eval (.tmp 73)]) W) (by kernel_rfl) ?_
      rw [e61, e66, e68, e73]) (fun W => specL2Span (al) (Int.tdiv al bh) (ah) (Int.tdiv ah bh) W)
  · exact b_alloc 0 _ rfl rfl rfl (by kernel_rfl) rfl (fun gm a W h => by kernel_rfl)
  · refine b_store 0 _ rfl rfl rfl v16 (fun j hj => by cases hj; exact ⟨8, ⟨⟨⟨15, .data⟩, by simp, rfl, by kernel_rfl⟩, by kernel_rfl⟩⟩) rfl (fun gm a W h hold hb => ?_)
    have e8 : a.eval (.tmp 8) = .pointer (some ⟨gm 0, 0, none⟩) := (h.vb 15 8).trans rfl
    have e74 := (h.vb 14 74).trans v14
    simp only at hb
    have hf := fun j => hb.frozen j
    have c0 := hb.cell 0
    have c1 := hb.cell 1
    refine ⟨_, by (simp only [execOp, e8, e74]; simp [go_sem, hf, c0, c1, hb0, hm0, hh0, d4, d5]; try rfl), (hb.set_ 0 _).set_ 1 _, chgs2 _ _ _ _ _ _⟩
  intro gm vs w8 hc8 hb9 hold9 hge9 hv9
  have x0 := (hv9 0 60 (by kernel_rfl)).trans v0
  have x1 := (hv9 1 61 (by kernel_rfl)).trans v1
  have x2 := (hv9 2 62 (by kernel_rfl)).trans v2
  have x3 := (hv9 3 63 (by kernel_rfl)).trans v3
  have x4 := (hv9 4 64 (by kernel_rfl)).trans v4
  have x5 := (hv9 5 65 (by kernel_rfl)).trans v5
  have x6 := (hv9 6 66 (by kernel_rfl)).trans v6
  have x7 := (hv9 7 67 (by kernel_rfl)).trans v7
  have x8 := (hv9 8 68 (by kernel_rfl)).trans v8
  have x9 := (hv9 9 69 (by kernel_rfl)).trans v9
  have x10 := (hv9 10 70 (by kernel_rfl)).trans v10
  have x11 := (hv9 11 71 (by kernel_rfl)).trans v11
  have x12 := (hv9 12 72 (by kernel_rfl)).trans v12
  have x13 := (hv9 13 73 (by kernel_rfl)).trans v13
  have x14 := (hv9 14 74 (by kernel_rfl)).trans v14
  have x15 : vs 15 = .pointer (some ⟨gm 0, 0, none⟩) := (hv9 15 8 (by kernel_rfl)).trans rfl
  have y0 := hb9 0 _ rfl
  have g0 := hge9 0 _ 15 rfl rfl
  simp only at y0
  simp only [putAll, Act.put, List.setIfInBounds_toArray, List.set_cons_zero, List.set_cons_succ, Nat.zero_add, Nat.reduceAdd, x0, x1, x2, x3, x4, x5, x6, x7, x8, x9, x10, x11, x12, x13, x14, x15]
  clear hb9 hold9 hge9 hv9 x0 x1 x2 x3 x4 x5 x6 x7 x8 x9 x10 x11 x12 x13 x14 x15 v0 v1 v2 v3 v4 v5 v6 v7 v8 v9 v10 v11 v12 v13 v14 v15 v16 HK VV
  have GEw : Grew w9 w8 := hc8.belowB (Nat.le_refl _) (fun k hk => by obtain ⟨b, hb, ha, rfl⟩ := hk; simp only [List.mem_cons, List.not_mem_nil, or_false] at hb; rcases hb with rfl; cases ha)
  have l7 := Y7.lt
  have lz := Z9.lt
  have ZZ := Z9.grew GEw
  have YY := Y7.grew GEw
  have HG := Lib.hid (grew_tr HG.out GEw)
  have r0 := YY.cell 0
  have r1 := YY.cell 1
  have rl := YY.lt
  have s0 := y0.cell 0
  have s1 := y0.cell 1
  have sl := y0.lt
  have z0 := ZZ.cell 0
  have z1 := ZZ.cell 1
  have zl := ZZ.lt
  have zf := fun j => ZZ.frozen j
  simp only [List.getElem?_toArray, List.getElem?_cons_zero, List.getElem?_cons_succ] at r0 r1 s0 s1 z0 z1
  clear y0 hc8 GEw u0 u1 u2 u3 Z9 Y7 YY ZZ
  go_wp2
  refine bodyPost_ret (by simp [results, Tryz.results161, go_sem, z0, z1, zl]; try rfl) rfl ?_
  refine ⟨rfl, ?_⟩
  repeat (first | with_reducible exact HG.out | with_reducible refine grew_set ?_ (by first | omega | (simp only; omega)) _)
theorem specL2Div (a b : Itv) (w : World) (ha : itvB a = true) (hb : itvB b = true) (h : b.lo ≠ 0 ∨ b.hi ≠ 0) :
    Calls Tryz.prog 161 #[a.v, b.v] w fun e w' => e = .returned (divI a b).v ∧ Grew w w' := by
  rw [itvB_iff] at ha hb
  obtain ⟨al, ah⟩ := a
  obtain ⟨bl, bh⟩ := b
  simp only at ha hb h
  by_cases h1 : 1 ≤ bl
  · exact specL2DivA al ah bl bh w ha hb h1
  by_cases h2 : bl = 0
  · exact specL2DivB al ah bl bh w ha hb h2 (by omega)
  by_cases h3 : bh ≤ -1
  · exact specL2DivC al ah bl bh w ha hb h3
  by_cases h4 : bh = 0
  · exact specL2DivD al ah bl bh w ha hb (by omega) h4
  exact specL2DivE al ah bl bh w ha hb (by omega) (by omega)
theorem spanI_le (a b c d : Int) : (spanI a b c d).lo ≤ (spanI a b c d).hi := (span_min a b c d).2 _ (span_max a b c d).1
theorem div_bd {a b : Itv} (ha : itvB a = true) (hb : itvB b = true) (hz : b.lo ≠ 0 ∨ b.hi ≠ 0) : (divI a b).lo ≤ (divI a b).hi ∧ -2147483648 ≤ (divI a b).lo ∧ (divI a b).hi ≤ 2147483648 := by
  obtain ⟨al, ah⟩ := a
  obtain ⟨bl, bh⟩ := b
  rw [itvB_iff] at ha hb
  simp only at ha hb hz
  have t := fun x (h : -32768 ≤ x ∧ x ≤ 32767) y => tdiv_le (a := x) (b := y) h.1 h.2
  have t1 := t al (by omega)
  have t2 := t ah (by omega)
  have s1 := fun p q r s => spanI_le p q r s
  simp only [divI]
  split
  · have a1 := t1 (max bl 1); have a2 := t1 bh; have a3 := t2 (max bl 1); have a4 := t2 bh
    refine ⟨s1 _ _ _ _, ?_, ?_⟩ <;> simp only [spanI] <;> omega
  · split
    · have a1 := t1 bl; have a2 := t1 (min bh (-1)); have a3 := t2 bl; have a4 := t2 (min bh (-1))
      refine ⟨s1 _ _ _ _, ?_, ?_⟩ <;> simp only [spanI] <;> omega
    · have a1 := t1 bl; have a2 := t1 (min bh (-1)); have a3 := t2 bl; have a4 := t2 (min bh (-1)); have a5 := t1 bh; have a6 := t2 bh
      refine ⟨?_, ?_, ?_⟩ <;> simp only [spanI] <;> omega
set_option maxHeartbeats 4000000 in
theorem specItvDo1 (a b : Itv) (w : World) (ha : itvB a = true) (hb : itvB b = true) :
    Calls Tryz.prog 146 #[.int .i64 1, a.v, b.v] w fun e w' => e = .returned (optV (doS 1 a b)) ∧ Grew w w' := by
  have hA := fun W => specItvOk a W
  have hB := fun W => specItvOk b W
  rw [show itvOkB a.lo a.hi = true from ha] at hA
  rw [show itvOkB b.lo b.hi = true from hb] at hB
  have HA := Lib.hid hA
  have HB := Lib.hid hB
  rw [itvB_iff] at ha hb
  clear hA hB
  obtain ⟨al, ah⟩ := a
  obtain ⟨bl, bh⟩ := b
  dsimp only [Itv.v] at HA HB ⊢
  simp only at ha hb
  have hV : doS 1 ⟨al, ah⟩ ⟨bl, bh⟩ = some (foldI (al + bl) (ah + bh)) := by simp [doS]
  rw [hV]
  have HF := Lib.hid (fun W => specItvFold (al + bl) (ah + bh) W (by omega) (by omega) (by omega))
  obtain ⟨⟨fl, fh⟩, hf⟩ : ∃ f, foldI (al + bl) (ah + bh) = f := ⟨_, rfl⟩
  rw [hf] at HF ⊢
  have e1 : IntKind.i64.wrap (al + bl) = al + bl := i64is (by omega) (by omega)
  have e2 : IntKind.i64.wrap (ah + bh) = ah + bh := i64is (by omega) (by omega)
  clear hV hf
  go_enter Tryz.func146, Tryz.ntmps146
  go_wp2_with (first | ((with_reducible refine (HA.out _).mono ?_); rintro e w' ⟨rfl, g'⟩; (first | obtain ⟨y, rfl⟩ := ext_cold g' | obtain ⟨y, rfl⟩ := ext_col g' | obtain ⟨y, rfl⟩ := ext_of g'); clear g') | ((with_reducible refine (HB.out _).mono ?_); rintro e w' ⟨rfl, g'⟩; (first | obtain ⟨z, rfl⟩ := ext_cold g' | obtain ⟨z, rfl⟩ := ext_col g' | obtain ⟨z, rfl⟩ := ext_of g'); clear g') | ((with_reducible refine (HF.out _).mono ?_); rintro e w' ⟨rfl, g'⟩; (first | obtain ⟨u, rfl⟩ := ext_cold g' | obtain ⟨u, rfl⟩ := ext_col g' | obtain ⟨u, rfl⟩ := ext_of g'); clear g'))
  refine bodyPost_ret (by simp [results, Tryz.results146, go_sem]; try rfl) rfl ?_
  exact ⟨rfl, gr⟩
set_option maxHeartbeats 4000000 in
theorem specItvDo2 (a b : Itv) (w : World) (ha : itvB a = true) (hb : itvB b = true) :
    Calls Tryz.prog 146 #[.int .i64 2, a.v, b.v] w fun e w' => e = .returned (optV (doS 2 a b)) ∧ Grew w w' := by
  have hA := fun W => specItvOk a W
  have hB := fun W => specItvOk b W
  rw [show itvOkB a.lo a.hi = true from ha] at hA
  rw [show itvOkB b.lo b.hi = true from hb] at hB
  have HA := Lib.hid hA
  have HB := Lib.hid hB
  rw [itvB_iff] at ha hb
  clear hA hB
  obtain ⟨al, ah⟩ := a
  obtain ⟨bl, bh⟩ := b
  dsimp only [Itv.v] at HA HB ⊢
  simp only at ha hb
  have hV : doS 2 ⟨al, ah⟩ ⟨bl, bh⟩ = some (foldI (al - bh) (ah - bl)) := by simp [doS]
  rw [hV]
  have HF := Lib.hid (fun W => specItvFold (al - bh) (ah - bl) W (by omega) (by omega) (by omega))
  obtain ⟨⟨fl, fh⟩, hf⟩ : ∃ f, foldI (al - bh) (ah - bl) = f := ⟨_, rfl⟩
  rw [hf] at HF ⊢
  have e1 : IntKind.i64.wrap (al - bh) = al - bh := i64is (by omega) (by omega)
  have e2 : IntKind.i64.wrap (ah - bl) = ah - bl := i64is (by omega) (by omega)
  clear hV hf
  go_enter Tryz.func146, Tryz.ntmps146
  go_wp2_with (first | ((with_reducible refine (HA.out _).mono ?_); rintro e w' ⟨rfl, g'⟩; (first | obtain ⟨y, rfl⟩ := ext_cold g' | obtain ⟨y, rfl⟩ := ext_col g' | obtain ⟨y, rfl⟩ := ext_of g'); clear g') | ((with_reducible refine (HB.out _).mono ?_); rintro e w' ⟨rfl, g'⟩; (first | obtain ⟨z, rfl⟩ := ext_cold g' | obtain ⟨z, rfl⟩ := ext_col g' | obtain ⟨z, rfl⟩ := ext_of g'); clear g') | ((with_reducible refine (HF.out _).mono ?_); rintro e w' ⟨rfl, g'⟩; (first | obtain ⟨u, rfl⟩ := ext_cold g' | obtain ⟨u, rfl⟩ := ext_col g' | obtain ⟨u, rfl⟩ := ext_of g'); clear g'))
  refine bodyPost_ret (by simp [results, Tryz.results146, go_sem]; try rfl) rfl ?_
  exact ⟨rfl, gr⟩
set_option maxHeartbeats 4000000 in
theorem specItvDo3 (a b : Itv) (w : World) (ha : itvB a = true) (hb : itvB b = true) :
    Calls Tryz.prog 146 #[.int .i64 3, a.v, b.v] w fun e w' => e = .returned (optV (doS 3 a b)) ∧ Grew w w' := by
  have hA := fun W => specItvOk a W
  have hB := fun W => specItvOk b W
  rw [show itvOkB a.lo a.hi = true from ha] at hA
  rw [show itvOkB b.lo b.hi = true from hb] at hB
  have HA := Lib.hid hA
  have HB := Lib.hid hB
  rw [itvB_iff] at ha hb
  clear hA hB
  obtain ⟨al, ah⟩ := a
  obtain ⟨bl, bh⟩ := b
  dsimp only [Itv.v] at HA HB ⊢
  simp only at ha hb
  have hV : doS 3 ⟨al, ah⟩ ⟨bl, bh⟩ = some (foldI (spanI (al * bl) (al * bh) (ah * bl) (ah * bh)).lo (spanI (al * bl) (al * bh) (ah * bl) (ah * bh)).hi) := by simp [doS]
  rw [hV]
  have b0 := mul_le (a := al) (b := bl) (by omega) (by omega) (by omega) (by omega)
  have b1 := mul_le (a := al) (b := bh) (by omega) (by omega) (by omega) (by omega)
  have b2 := mul_le (a := ah) (b := bl) (by omega) (by omega) (by omega) (by omega)
  have b3 := mul_le (a := ah) (b := bh) (by omega) (by omega) (by omega) (by omega)
  have HS := Lib.hid (fun W => specL2Span (al * bl) (al * bh) (ah * bl) (ah * bh) W)
  have hsl := spanI_le (al * bl) (al * bh) (ah * bl) (ah * bh)
  have hs1 : -2147483648 ≤ (spanI (al * bl) (al * bh) (ah * bl) (ah * bh)).lo := by simp only [spanI]; omega
  have hs2 : (spanI (al * bl) (al * bh) (ah * bl) (ah * bh)).hi ≤ 2147483648 := by simp only [spanI]; omega
  obtain ⟨⟨sl, sh⟩, hs⟩ : ∃ s, spanI (al * bl) (al * bh) (ah * bl) (ah * bh) = s := ⟨_, rfl⟩
  rw [hs] at HS hsl hs1 hs2 ⊢
  simp only at hsl hs1 hs2 HS ⊢
  have HF := Lib.hid (fun W => specItvFold sl sh W hsl hs1 hs2)
  obtain ⟨⟨fl, fh⟩, hf⟩ : ∃ f, foldI sl sh = f := ⟨_, rfl⟩
  rw [hf] at HF ⊢
  have e0 : IntKind.i64.wrap (al * bl) = al * bl := i64is (by omega) (by omega)
  have e1 : IntKind.i64.wrap (al * bh) = al * bh := i64is (by omega) (by omega)
  have e2 : IntKind.i64.wrap (ah * bl) = ah * bl := i64is (by omega) (by omega)
  have e3 : IntKind.i64.wrap (ah * bh) = ah * bh := i64is (by omega) (by omega)
  clear hV hf hs
  go_enter Tryz.func146, Tryz.ntmps146
  go_wp2_with (first | ((with_reducible refine (HA.out _).mono ?_); rintro e w' ⟨rfl, g'⟩; (first | obtain ⟨y, rfl⟩ := ext_cold g' | obtain ⟨y, rfl⟩ := ext_col g' | obtain ⟨y, rfl⟩ := ext_of g'); clear g') | ((with_reducible refine (HB.out _).mono ?_); rintro e w' ⟨rfl, g'⟩; (first | obtain ⟨z, rfl⟩ := ext_cold g' | obtain ⟨z, rfl⟩ := ext_col g' | obtain ⟨z, rfl⟩ := ext_of g'); clear g') | ((with_reducible refine (HS.out _).mono ?_); rintro e w' ⟨rfl, g'⟩; (first | obtain ⟨v, rfl⟩ := ext_cold g' | obtain ⟨v, rfl⟩ := ext_col g' | obtain ⟨v, rfl⟩ := ext_of g'); clear g') | ((with_reducible refine (HF.out _).mono ?_); rintro e w' ⟨rfl, g'⟩; (first | obtain ⟨u, rfl⟩ := ext_cold g' | obtain ⟨u, rfl⟩ := ext_col g' | obtain ⟨u, rfl⟩ := ext_of g'); clear g'))
  have hl1 : w.heap.size + 1 + 1 < (ext (((w.alloc (.cells #[.int .i64 al, .int .i64 ah] 31)).alloc (.cells #[.int .i64 bl, .int .i64 bh] 31)).alloc (.cells #[.int .i64 0, .int .i64 0] 31)) v).heap.size := by have := ext_size (((w.alloc (.cells #[.int .i64 al, .int .i64 ah] 31)).alloc (.cells #[.int .i64 bl, .int .i64 bh] 31)).alloc (.cells #[.int .i64 0, .int .i64 0] 31)) v; simp only [World.size_alloc] at this; omega
  have hl2 : w.heap.size + 1 + 1 < (ext (((w.alloc (.cells #[.int .i64 al, .int .i64 ah] 31)).alloc (.cells #[.int .i64 bl, .int .i64 bh] 31)).alloc (.cells #[.int .i64 0, .int .i64 0] 31)) v).heap.size + 1 := by omega
  refine bodyPost_ret (by simp [results, Tryz.results146, go_sem, hl1, hl2]; try rfl) rfl ?_
  exact ⟨rfl, gr⟩
set_option maxHeartbeats 4000000 in
theorem specItvDo4 (a b : Itv) (w : World) (ha : itvB a = true) (hb : itvB b = true) (hz : b.lo ≠ 0 ∨ b.hi ≠ 0) :
    Calls Tryz.prog 146 #[.int .i64 4, a.v, b.v] w fun e w' => e = .returned (optV (doS 4 a b)) ∧ Grew w w' := by
  have hA := fun W => specItvOk a W
  have hB := fun W => specItvOk b W
  rw [show itvOkB a.lo a.hi = true from ha] at hA
  rw [show itvOkB b.lo b.hi = true from hb] at hB
  have HA := Lib.hid hA
  have HB := Lib.hid hB
  have HD := Lib.hid (fun W => specL2Div a b W ha hb hz)
  have hdl := div_bd ha hb hz
  rw [itvB_iff] at ha hb
  clear hA hB
  obtain ⟨al, ah⟩ := a
  obtain ⟨bl, bh⟩ := b
  dsimp only [Itv.v] at HA HB ⊢
  simp only at ha hb hz
  have hV : doS 4 ⟨al, ah⟩ ⟨bl, bh⟩ = some (foldI (divI ⟨al, ah⟩ ⟨bl, bh⟩).lo (divI ⟨al, ah⟩ ⟨bl, bh⟩).hi) := by simp only [doS]; rw [if_neg (by omega), if_neg (by omega), if_neg (by omega), if_pos hz]
  rw [hV]
  obtain ⟨⟨sl, sh⟩, hs⟩ : ∃ s, divI ⟨al, ah⟩ ⟨bl, bh⟩ = s := ⟨_, rfl⟩
  rw [hs] at HD hdl ⊢
  simp only at HD hdl ⊢
  have HF := Lib.hid (fun W => specItvFold sl sh W hdl.1 hdl.2.1 hdl.2.2)
  obtain ⟨⟨fl, fh⟩, hf⟩ : ∃ f, foldI sl sh = f := ⟨_, rfl⟩
  rw [hf] at HF ⊢
  clear hV hf hs hdl
  by_cases h1 : bl = 0
  · have h2 : ¬ bh = 0 := by omega
    have h1b : (bl != 0) = false := by simp [h1]
    have h2b : (bh != 0) = true := by simp [h2]
    clear h1 hz ha hb
    go_enter Tryz.func146, Tryz.ntmps146
    go_wp2_with (first | ((with_reducible refine (HA.out _).mono ?_); rintro e w' ⟨rfl, g'⟩; (first | obtain ⟨y, rfl⟩ := ext_cold g' | obtain ⟨y, rfl⟩ := ext_col g' | obtain ⟨y, rfl⟩ := ext_of g'); clear g') | ((with_reducible refine (HB.out _).mono ?_); rintro e w' ⟨rfl, g'⟩; (first | obtain ⟨z, rfl⟩ := ext_cold g' | obtain ⟨z, rfl⟩ := ext_col g' | obtain ⟨z, rfl⟩ := ext_of g'); clear g') | ((with_reducible refine (HD.out _).mono ?_); rintro e w' ⟨rfl, g'⟩; (first | obtain ⟨v, rfl⟩ := ext_cold g' | obtain ⟨v, rfl⟩ := ext_col g' | obtain ⟨v, rfl⟩ := ext_of g'); clear g') | ((with_reducible refine (HF.out _).mono ?_); rintro e w' ⟨rfl, g'⟩; (first | obtain ⟨u, rfl⟩ := ext_cold g' | obtain ⟨u, rfl⟩ := ext_col g' | obtain ⟨u, rfl⟩ := ext_of g'); clear g'))
    have hl1 : w.heap.size + 1 + 1 < (ext (((w.alloc (.cells #[.int .i64 al, .int .i64 ah] 31)).alloc (.cells #[.int .i64 bl, .int .i64 bh] 31)).alloc (.cells #[.int .i64 0, .int .i64 0] 31)) v).heap.size := by have := ext_size (((w.alloc (.cells #[.int .i64 al, .int .i64 ah] 31)).alloc (.cells #[.int .i64 bl, .int .i64 bh] 31)).alloc (.cells #[.int .i64 0, .int .i64 0] 31)) v; simp only [World.size_alloc] at this; omega
    have hl2 : w.heap.size + 1 + 1 < (ext (((w.alloc (.cells #[.int .i64 al, .int .i64 ah] 31)).alloc (.cells #[.int .i64 bl, .int .i64 bh] 31)).alloc (.cells #[.int .i64 0, .int .i64 0] 31)) v).heap.size + 1 := by omega
    refine bodyPost_ret (by simp [results, Tryz.results146, go_sem, hl1, hl2]; try rfl) rfl ?_
    exact ⟨rfl, gr⟩
  have h1b : (bl != 0) = true := by simp [h1]
  clear hz ha hb
  go_enter Tryz.func146, Tryz.ntmps146
  go_wp2_with (first | ((with_reducible refine (HA.out _).mono ?_); rintro e w' ⟨rfl, g'⟩; (first | obtain ⟨y, rfl⟩ := ext_cold g' | obtain ⟨y, rfl⟩ := ext_col g' | obtain ⟨y, rfl⟩ := ext_of g'); clear g') | ((with_reducible refine (HB.out _).mono ?_); rintro e w' ⟨rfl, g'⟩; (first | obtain ⟨z, rfl⟩ := ext_cold g' | obtain ⟨z, rfl⟩ := ext_col g' | obtain ⟨z, rfl⟩ := ext_of g'); clear g') | ((with_reducible refine (HD.out _).mono ?_); rintro e w' ⟨rfl, g'⟩; (first | obtain ⟨v, rfl⟩ := ext_cold g' | obtain ⟨v, rfl⟩ := ext_col g' | obtain ⟨v, rfl⟩ := ext_of g'); clear g') | ((with_reducible refine (HF.out _).mono ?_); rintro e w' ⟨rfl, g'⟩; (first | obtain ⟨u, rfl⟩ := ext_cold g' | obtain ⟨u, rfl⟩ := ext_col g' | obtain ⟨u, rfl⟩ := ext_of g'); clear g'))
  have hl1 : w.heap.size + 1 + 1 < (ext (((w.alloc (.cells #[.int .i64 al, .int .i64 ah] 31)).alloc (.cells #[.int .i64 bl, .int .i64 bh] 31)).alloc (.cells #[.int .i64 0, .int .i64 0] 31)) v).heap.size := by have := ext_size (((w.alloc (.cells #[.int .i64 al, .int .i64 ah] 31)).alloc (.cells #[.int .i64 bl, .int .i64 bh] 31)).alloc (.cells #[.int .i64 0, .int .i64 0] 31)) v; simp only [World.size_alloc] at this; omega
  have hl2 : w.heap.size + 1 + 1 < (ext (((w.alloc (.cells #[.int .i64 al, .int .i64 ah] 31)).alloc (.cells #[.int .i64 bl, .int .i64 bh] 31)).alloc (.cells #[.int .i64 0, .int .i64 0] 31)) v).heap.size + 1 := by omega
  refine bodyPost_ret (by simp [results, Tryz.results146, go_sem, hl1, hl2]; try rfl) rfl ?_
  exact ⟨rfl, gr⟩
set_option maxHeartbeats 4000000 in
theorem specItvDo0 (a b : Itv) (w : World) (ha : itvB a = true) (hb : itvB b = true) (hz : b.lo = 0 ∧ b.hi = 0) :
    Calls Tryz.prog 146 #[.int .i64 4, a.v, b.v] w fun e w' => e = .returned (optV (doS 4 a b)) ∧ Grew w w' := by
  have hA := fun W => specItvOk a W
  have hB := fun W => specItvOk b W
  rw [show itvOkB a.lo a.hi = true from ha] at hA
  rw [show itvOkB b.lo b.hi = true from hb] at hB
  have HA := Lib.hid hA
  have HB := Lib.hid hB
  rw [itvB_iff] at ha hb
  clear hA hB
  obtain ⟨al, ah⟩ := a
  obtain ⟨bl, bh⟩ := b
  dsimp only [Itv.v] at HA HB ⊢
  simp only at ha hb hz
  obtain ⟨rfl, rfl⟩ := hz
  have hV : doS 4 ⟨al, ah⟩ ⟨0, 0⟩ = none := by simp [doS]
  rw [hV]
  clear hV ha hb
  go_enter Tryz.func146, Tryz.ntmps146
  go_wp2_with (first | ((with_reducible refine (HA.out _).mono ?_); rintro e w' ⟨rfl, g'⟩; (first | obtain ⟨y, rfl⟩ := ext_cold g' | obtain ⟨y, rfl⟩ := ext_col g' | obtain ⟨y, rfl⟩ := ext_of g'); clear g') | ((with_reducible refine (HB.out _).mono ?_); rintro e w' ⟨rfl, g'⟩; (first | obtain ⟨z, rfl⟩ := ext_cold g' | obtain ⟨z, rfl⟩ := ext_col g' | obtain ⟨z, rfl⟩ := ext_of g'); clear g'))
  refine bodyPost_ret (by simp [results, Tryz.results146, go_sem]; try rfl) rfl ?_
  exact ⟨rfl, gr⟩
theorem specItvDo (op : Int) (a b : Itv) (w : World) (ho : 1 ≤ op ∧ op ≤ 4) (ha : itvB a = true) (hb : itvB b = true) :
    Calls Tryz.prog 146 #[.int .i64 op, a.v, b.v] w fun e w' => e = .returned (optV (doI op a b)) ∧ Grew w w' := by
  rw [← doS_eq ha hb ho.1 ho.2]
  rcases (show op = 1 ∨ op = 2 ∨ op = 3 ∨ op = 4 from by omega) with rfl | rfl | rfl | rfl
  · exact specItvDo1 a b w ha hb
  · exact specItvDo2 a b w ha hb
  · exact specItvDo3 a b w ha hb
  · by_cases h1 : b.lo = 0
    · by_cases h2 : b.hi = 0
      · exact specItvDo0 a b w ha hb ⟨h1, h2⟩
      · exact specItvDo4 a b w ha hb (.inr h2)
    · exact specItvDo4 a b w ha hb (.inl h1)
theorem specItvJoin (a b : Itv) (w : World) (ha : itvB a = true) (hb : itvB b = true) : Calls Tryz.prog 141 #[a.v, b.v] w fun e w' => e = .returned (.agg #[.int .i64 (min a.lo b.lo), .int .i64 (max a.hi b.hi)]) ∧ Grew w w' := by
  have hA := fun W => specItvOk a W
  have hB := fun W => specItvOk b W
  rw [show itvOkB a.lo a.hi = true from ha] at hA
  rw [show itvOkB b.lo b.hi = true from hb] at hB
  have HA := Lib.hid hA
  have HB := Lib.hid hB
  clear hA hB ha hb
  obtain ⟨al, ah⟩ := a
  obtain ⟨bl, bh⟩ := b
  dsimp only [Itv.v] at HA HB ⊢
  go_enter Tryz.func141, Tryz.ntmps141
  go_wp2_with (first | ((with_reducible refine (HA.out _).mono ?_); rintro e w' ⟨rfl, g'⟩; (first | obtain ⟨y, rfl⟩ := ext_cold g' | obtain ⟨y, rfl⟩ := ext_col g' | obtain ⟨y, rfl⟩ := ext_of g'); clear g') | ((with_reducible refine (HB.out _).mono ?_); rintro e w' ⟨rfl, g'⟩; (first | obtain ⟨z, rfl⟩ := ext_cold g' | obtain ⟨z, rfl⟩ := ext_col g' | obtain ⟨z, rfl⟩ := ext_of g'); clear g'))
  refine bodyPost_ret (by simp [results, Tryz.results141, go_sem]; try rfl) rfl ?_
  exact ⟨rfl, gr⟩
theorem implItvMeet (a b : Itv) (w : World) (ha : itvB a = true) (hb : itvB b = true) : Calls Tryz.prog 151 #[a.v, b.v] w fun e w' => e = .returned (optV (meetI a b)) ∧ Grew w w' := by
  have HC := Lib.hid (fun W => implCutItv a b.lo b.hi W)
  have HBO := Lib.hid (fun W => implBothOk a b W ha hb)
  have HO := Lib.hid (fun W => itvOk (cutI a b.lo b.hi).lo (cutI a b.lo b.hi).hi W)
  rw [meetI]
  have hq : itvOkB (cutI a b.lo b.hi).lo (cutI a b.lo b.hi).hi = itvB (cutI a b.lo b.hi) := rfl
  rw [hq] at HO
  clear hq ha hb
  obtain ⟨⟨cl, ch⟩, hc⟩ : ∃ c, cutI a b.lo b.hi = c := ⟨_, rfl⟩
  rw [hc] at HC HO ⊢
  clear hc
  obtain ⟨v, hv⟩ : ∃ v, itvB ⟨cl, ch⟩ = v := ⟨_, rfl⟩
  rw [hv] at HO ⊢
  clear hv
  obtain ⟨al, ah⟩ := a
  obtain ⟨bl, bh⟩ := b
  dsimp only [Itv.v] at HC HBO HO ⊢
  cases v
  all_goals
    simp only [if_true, if_false, Bool.false_eq_true]
    go_enter Tryz.func151, Tryz.ntmps151
    go_wp2_with (first | ((with_reducible refine (HC.out _).mono ?_); rintro e w' ⟨rfl, g'⟩; (first | obtain ⟨y, rfl⟩ := ext_cold g' | obtain ⟨y, rfl⟩ := ext_col g' | obtain ⟨y, rfl⟩ := ext_of g'); clear g') | ((with_reducible refine (HBO.out _).mono ?_); rintro e w' ⟨rfl, g'⟩; (first | obtain ⟨z, rfl⟩ := ext_cold g' | obtain ⟨z, rfl⟩ := ext_col g' | obtain ⟨z, rfl⟩ := ext_of g'); clear g') | ((with_reducible refine (HO.out _).mono ?_); rintro e w' ⟨rfl, g'⟩; (first | obtain ⟨u, rfl⟩ := ext_cold g' | obtain ⟨u, rfl⟩ := ext_col g' | obtain ⟨u, rfl⟩ := ext_of g'); clear g'))
    have hl1 : w.heap.size + 1 + 1 < (ext (((w.alloc (.cells #[.int .i64 al, .int .i64 ah] 31)).alloc (.cells #[.int .i64 bl, .int .i64 bh] 31)).alloc (.cells #[.int .i64 0, .int .i64 0] 31)) y).heap.size := by have := ext_size (((w.alloc (.cells #[.int .i64 al, .int .i64 ah] 31)).alloc (.cells #[.int .i64 bl, .int .i64 bh] 31)).alloc (.cells #[.int .i64 0, .int .i64 0] 31)) y; simp only [World.size_alloc] at this; omega
    have hl2 : w.heap.size + 1 + 1 < (ext (((w.alloc (.cells #[.int .i64 al, .int .i64 ah] 31)).alloc (.cells #[.int .i64 bl, .int .i64 bh] 31)).alloc (.cells #[.int .i64 0, .int .i64 0] 31)) y).heap.size + 1 := by omega
    refine bodyPost_ret (by simp [results, Tryz.results151, go_sem, hl1, hl2]; try rfl) rfl ?_
    exact ⟨rfl, gr⟩
end Go.Proofs.YtpmfpgbpndobpaaGreat
