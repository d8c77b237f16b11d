/- What each relation leaves of two bounds: the program's restrict. No condition. -/
import Derived.Test.YtdddhnepanjmfaaGreatVm
import Derived.Test.YtdddhnepanjmfaaGreatStN
namespace Go.Proofs.YtdddhnepanjmfaaGreat
open Go.RowKit
set_option linter.unusedVariables false
set_option linter.unusedSimpArgs false
attribute [local go_sem] ext_cell ext_frozen ext_lt ext_le ext_le1 lt_s2 lt_s3 lt_s4 lt_s5 lt_s6 ext_lt1 ext_lt2 ext_lt3

theorem wrapIn {n : Int} (h1 : -9223372036854775808 ≤ n := by omega) (h2 : n ≤ 9223372036854775807 := by omega) : IntKind.i64.wrap n = n := by
  simp [IntKind.wrap, IntKind.bits, IntKind.signed]
  split <;> omega
theorem chgs2 (W : World) (z i j : Nat) (u v : Value) : Chg (fun t => t = z) W ((W.setCell ⟨z, i, none⟩ u).setCell ⟨z, j, none⟩ v) := Chg.alw (F := fun t => t = z) (p := ⟨z, j, none⟩) (Chg.alw (F := fun t => t = z) (p := ⟨z, i, none⟩) (Chg.refl _ W) rfl u) rfl v

set_option maxRecDepth 100000 in
set_option maxHeartbeats 1000000 in
theorem lessRestrict (a b : Itv) (w : World) (ha : itvB a = true) (hb : itvB b = true) :
    Calls Tryz.prog 205 #[.agg #[], a.v, b.v] w fun e w' => e = .returned (.tuple #[(resI 1 a b).1.v, (resI 1 a b).2.v]) ∧ Grew w w' := by
  obtain ⟨al, ah⟩ := a
  obtain ⟨bl, bh⟩ := b
  have hA := itvB_iff.1 ha
  have hB := itvB_iff.1 hb
  simp only at hA hB
  go_enter Tryz.func205, Tryz.ntmps205
  go_upto_region 1 with fail
  refine wp_letH ?_
  intro E hE
  have q0 : E.cell? ⟨w.heap.size + 1, 0, none⟩ = some (.int .i64 al) := by rw [hE]; simp [go_sem]
  have q1 : E.cell? ⟨w.heap.size + 1, 1, none⟩ = some (.int .i64 ah) := by rw [hE]; simp [go_sem]
  have r0 : E.cell? ⟨w.heap.size + 1 + 1, 0, none⟩ = some (.int .i64 bl) := by rw [hE]; simp [go_sem]
  have r1 : E.cell? ⟨w.heap.size + 1 + 1, 1, none⟩ = some (.int .i64 bh) := by rw [hE]; simp [go_sem]
  have Z1 : Blk E (w.heap.size + 1 + 1 + 1) 98 #[.int .i64 0, .int .i64 0] := by rw [hE]; exact Blk.alloc (Blk.new' (by simp only [World.size_alloc])) _
  have Z2 : Blk E (w.heap.size + 1 + 1 + 1 + 1) 98 #[.int .i64 0, .int .i64 0] := by rw [hE]; (repeat (first | with_reducible assumption | with_reducible exact Blk.new' (by simp only [World.size_alloc, World.size_drew, World.size_setCell]) | with_reducible refine Blk.alloc ?_ _ | with_reducible refine Blk.grew ?_ (grew_d (Below.refl _ _)) | with_reducible refine Blk.far ?_ (by first | assumption | (simp only; omega)) _))
  have GE : Grew w E := by rw [hE]; exact gr
  clear hE
  obtain ⟨VV, v0, v1, v2, v3, v4, v5, v6, v7, v8, v9, v10, v11, -⟩ := vl [.agg #[.int .i64 al, .int .i64 ah], .pointer (some ⟨w.heap.size + 1 + 1, 1, none⟩), .int .i64 (bh), .int .i64 (bh - 1), (cutI (⟨al, ah⟩ : Itv) (-32768) (bh - 1)).v, .agg #[.int .i64 bl, .int .i64 bh], .pointer (some ⟨w.heap.size + 1, 0, none⟩), .int .i64 (al), .int .i64 (al + 1), (cutI (⟨bl, bh⟩ : Itv) (al + 1) 32767).v, undef, undef]
  have HK := fun W (c : Chg (preB [⟨none, w.heap.size + 1 + 1 + 1, 10, 98, #[.int .i64 0, .int .i64 0], #[.int .i64 (cutI (⟨al, ah⟩ : Itv) (-32768) (bh - 1)).lo, .int .i64 (cutI (⟨al, ah⟩ : Itv) (-32768) (bh - 1)).hi]⟩, ⟨none, w.heap.size + 1 + 1 + 1 + 1, 11, 98, #[.int .i64 0, .int .i64 0], #[.int .i64 (cutI (⟨bl, bh⟩ : Itv) (al + 1) 32767).lo, .int .i64 (cutI (⟨bl, bh⟩ : Itv) (al + 1) 32767).hi]⟩]) _ W) => And.intro (ck c q0) (And.intro (ck c q1) (And.intro (ck c r0) (ck c r1)))
  refine region_box 18 [⟨none, w.heap.size + 1 + 1 + 1, 10, 98, #[.int .i64 0, .int .i64 0], #[.int .i64 (cutI (⟨al, ah⟩ : Itv) (-32768) (bh - 1)).lo, .int .i64 (cutI (⟨al, ah⟩ : Itv) (-32768) (bh - 1)).hi]⟩, ⟨none, w.heap.size + 1 + 1 + 1 + 1, 11, 98, #[.int .i64 0, .int .i64 0], #[.int .i64 (cutI (⟨bl, bh⟩ : Itv) (al + 1) 32767).lo, .int .i64 (cutI (⟨bl, bh⟩ : Itv) (al + 1) 32767).hi]⟩] VV (by kernel_rfl) rfl (by kernel_rfl) rfl (by intro b hb ha; simp only [List.mem_cons, List.not_mem_nil, or_false] at hb; rcases hb with rfl | rfl <;> first | (cases ha; done) | assumption) (by intro j k b c hjk hj hk hb hc; rcases j with _ | _ | j <;> rcases k with _ | _ | k <;> simp at hj hk hjk <;> (try subst hj) <;> (try subst hk) <;> first | (cases hb; done) | (cases hc; done) | (simp only; omega)) ⟨?_, ?_, ?_, ?_, ?_, ?_, ?_, ?_, ?_, ?_, ?_, ?_, trivial⟩ ?_
  · exact b_vx v0 rfl rfl (fun gm a W h => by have e4 : a.eval (.tmp 4) = .pointer (some ⟨w.heap.size + 1, 0, none⟩) := (h.slot 4 (by kernel_rfl)).trans rfl; obtain ⟨kq0, kq1, kr0, kr1⟩ := HK W h.chg; simp only [execOp, e4]; first | (simp [go_sem, kq0, kq1, kr0, kr1] <;> first | exact wrapIn | rfl) | kernel_rfl)
  · exact b_vx v1 rfl rfl (fun gm a W h => by have e5 : a.eval (.tmp 5) = .pointer (some ⟨w.heap.size + 1 + 1, 0, none⟩) := (h.slot 5 (by kernel_rfl)).trans rfl; simp only [execOp, e5]; first | (simp [go_sem] <;> first | exact wrapIn | rfl) | kernel_rfl)
  · exact b_vx v2 rfl rfl (fun gm a W h => by have e9 := (h.vb 1 9).trans v1; obtain ⟨kq0, kq1, kr0, kr1⟩ := HK W h.chg; simp only [execOp, e9]; first | (simp [go_sem, kq0, kq1, kr0, kr1] <;> first | exact wrapIn | rfl) | kernel_rfl)
  · exact b_vx v3 rfl rfl (fun gm a W h => by have e10 := (h.vb 2 10).trans v2; simp only [execOp, e10]; first | (simp [go_sem] <;> first | exact wrapIn | rfl) | kernel_rfl)
  · exact b_cx v4 rfl rfl (fun gm a W h => by
      have e8 := (h.vb 0 8).trans v0
      have e11 := (h.vb 3 11).trans v3
      refine Eq.trans (b := .ok (.enter 174 #[a.eval (.tmp 8), .int .i64 (-32768), a.eval (.tmp 11)]) W) (by kernel_rfl) ?_
      rw [e8, e11]) (fun W => implCutItv (⟨al, ah⟩ : Itv) (-32768) (bh - 1) W)
  · exact b_vx v5 rfl rfl (fun gm a W h => by have e5 : a.eval (.tmp 5) = .pointer (some ⟨w.heap.size + 1 + 1, 0, none⟩) := (h.slot 5 (by kernel_rfl)).trans rfl; obtain ⟨kq0, kq1, kr0, kr1⟩ := HK W h.chg; simp only [execOp, e5]; first | (simp [go_sem, kq0, kq1, kr0, kr1] <;> first | exact wrapIn | rfl) | kernel_rfl)
  · exact b_vx v6 rfl rfl (fun gm a W h => by have e4 : a.eval (.tmp 4) = .pointer (some ⟨w.heap.size + 1, 0, none⟩) := (h.slot 4 (by kernel_rfl)).trans rfl; simp only [execOp, e4]; first | (simp [go_sem] <;> first | exact wrapIn | rfl) | kernel_rfl)
  · exact b_vx v7 rfl rfl (fun gm a W h => by have e14 := (h.vb 6 14).trans v6; obtain ⟨kq0, kq1, kr0, kr1⟩ := HK W h.chg; simp only [execOp, e14]; first | (simp [go_sem, kq0, kq1, kr0, kr1] <;> first | exact wrapIn | rfl) | kernel_rfl)
  · exact b_vx v8 rfl rfl (fun gm a W h => by have e15 := (h.vb 7 15).trans v7; simp only [execOp, e15]; first | (simp [go_sem] <;> first | exact wrapIn | rfl) | kernel_rfl)
  · exact b_cx v9 rfl rfl (fun gm a W h => by
      have e13 := (h.vb 5 13).trans v5
      have e16 := (h.vb 8 16).trans v8
      refine Eq.trans (b := .ok (.enter 174 #[a.eval (.tmp 13), a.eval (.tmp 16), .int .i64 (32767)]) W) (by kernel_rfl) ?_
      rw [e13, e16]) (fun W => implCutItv (⟨bl, bh⟩ : Itv) (al + 1) 32767 W)
  · refine b_store 0 _ rfl rfl rfl v10 (fun j hj => by cases hj) rfl (fun gm a W h hold hb => ?_)
    have hg : gm 0 = w.heap.size + 1 + 1 + 1 := hold rfl
    rw [hg] at hb ⊢
    have e6 : a.eval (.tmp 6) = .pointer (some ⟨w.heap.size + 1 + 1 + 1, 0, none⟩) := (h.slot 6 (by kernel_rfl)).trans rfl
    have e12 := (h.vb 4 12).trans v4
    simp only at hb
    have hf := fun j => hb.frozen j
    have c0 := hb.cell 0
    have c1 := hb.cell 1
    refine ⟨_, by (simp only [execOp, e6, e12]; simp [go_sem, hf, c0, c1]; try rfl), (hb.set_ 0 _).set_ 1 _, chgs2 _ _ _ _ _ _⟩
  · refine b_store 1 _ rfl rfl rfl v11 (fun j hj => by cases hj) rfl (fun gm a W h hold hb => ?_)
    have hg : gm 1 = w.heap.size + 1 + 1 + 1 + 1 := hold rfl
    rw [hg] at hb ⊢
    have e7 : a.eval (.tmp 7) = .pointer (some ⟨w.heap.size + 1 + 1 + 1 + 1, 0, none⟩) := (h.slot 7 (by kernel_rfl)).trans rfl
    have e17 := (h.vb 9 17).trans v9
    simp only at hb
    have hf := fun j => hb.frozen j
    have c0 := hb.cell 0
    have c1 := hb.cell 1
    refine ⟨_, by (simp only [execOp, e7, e17]; simp [go_sem, hf, c0, c1]; try rfl), (hb.set_ 0 _).set_ 1 _, chgs2 _ _ _ _ _ _⟩
  intro gm vs w9 hc9 hb9 hold9 hge9 hv9
  have x0 := (hv9 0 8 (by kernel_rfl)).trans v0
  have x1 := (hv9 1 9 (by kernel_rfl)).trans v1
  have x2 := (hv9 2 10 (by kernel_rfl)).trans v2
  have x3 := (hv9 3 11 (by kernel_rfl)).trans v3
  have x4 := (hv9 4 12 (by kernel_rfl)).trans v4
  have x5 := (hv9 5 13 (by kernel_rfl)).trans v5
  have x6 := (hv9 6 14 (by kernel_rfl)).trans v6
  have x7 := (hv9 7 15 (by kernel_rfl)).trans v7
  have x8 := (hv9 8 16 (by kernel_rfl)).trans v8
  have x9 := (hv9 9 17 (by kernel_rfl)).trans v9
  have y0 := hb9 0 _ rfl
  rw [hold9 0 _ rfl rfl] at y0
  simp only at y0
  have y1 := hb9 1 _ rfl
  rw [hold9 1 _ rfl rfl] at y1
  simp only at y1
  simp only [putAll, Act.put, List.setIfInBounds_toArray, List.set_cons_zero, List.set_cons_succ, Nat.zero_add, Nat.reduceAdd, x0, x1, x2, x3, x4, x5, x6, x7, x8, x9]
  clear hb9 hold9 hge9 hv9 x0 x1 x2 x3 x4 x5 x6 x7 x8 x9 v0 v1 v2 v3 v4 v5 v6 v7 v8 v9 v10 v11 HK VV
  have z0 := y0.cell 0
  have z1 := y0.cell 1
  have u0 := y1.cell 0
  have u1 := y1.cell 1
  have zl := y0.lt
  have ul := y1.lt
  have HG := Lib.hid (GE.trans (hc9.belowB GE.size (fun k hk => by obtain ⟨b, hb, _, rfl⟩ := hk; simp only [List.mem_cons, List.not_mem_nil, or_false] at hb; rcases hb with rfl | rfl <;> simp only <;> omega)))
  simp only [List.getElem?_toArray, List.getElem?_cons_zero, List.getElem?_cons_succ] at z0 z1 u0 u1
  clear y0 y1 hc9 GE q0 q1 r0 r1 Z1 Z2
  go_wp2
  refine bodyPost_ret (by simp [results, Tryz.results205, go_sem, z0, z1, u0, u1, zl, ul]; try rfl) rfl ?_
  exact ⟨by simp [resI], HG.out⟩

set_option maxRecDepth 100000 in
set_option maxHeartbeats 1000000 in
theorem mostRestrict (a b : Itv) (w : World) (ha : itvB a = true) (hb : itvB b = true) :
    Calls Tryz.prog 206 #[.agg #[], a.v, b.v] w fun e w' => e = .returned (.tuple #[(resI 2 a b).1.v, (resI 2 a b).2.v]) ∧ Grew w w' := by
  obtain ⟨al, ah⟩ := a
  obtain ⟨bl, bh⟩ := b
  have hA := itvB_iff.1 ha
  have hB := itvB_iff.1 hb
  simp only at hA hB
  go_enter Tryz.func206, Tryz.ntmps206
  go_upto_region 1 with fail
  refine wp_letH ?_
  intro E hE
  have q0 : E.cell? ⟨w.heap.size + 1, 0, none⟩ = some (.int .i64 al) := by rw [hE]; simp [go_sem]
  have q1 : E.cell? ⟨w.heap.size + 1, 1, none⟩ = some (.int .i64 ah) := by rw [hE]; simp [go_sem]
  have r0 : E.cell? ⟨w.heap.size + 1 + 1, 0, none⟩ = some (.int .i64 bl) := by rw [hE]; simp [go_sem]
  have r1 : E.cell? ⟨w.heap.size + 1 + 1, 1, none⟩ = some (.int .i64 bh) := by rw [hE]; simp [go_sem]
  have Z1 : Blk E (w.heap.size + 1 + 1 + 1) 98 #[.int .i64 0, .int .i64 0] := by rw [hE]; exact Blk.alloc (Blk.new' (by simp only [World.size_alloc])) _
  have Z2 : Blk E (w.heap.size + 1 + 1 + 1 + 1) 98 #[.int .i64 0, .int .i64 0] := by rw [hE]; (repeat (first | with_reducible assumption | with_reducible exact Blk.new' (by simp only [World.size_alloc, World.size_drew, World.size_setCell]) | with_reducible refine Blk.alloc ?_ _ | with_reducible refine Blk.grew ?_ (grew_d (Below.refl _ _)) | with_reducible refine Blk.far ?_ (by first | assumption | (simp only; omega)) _))
  have GE : Grew w E := by rw [hE]; exact gr
  clear hE
  obtain ⟨VV, v0, v1, v2, v3, v4, v5, v6, v7, v8, v9, -⟩ := vl [.agg #[.int .i64 al, .int .i64 ah], .pointer (some ⟨w.heap.size + 1 + 1, 1, none⟩), .int .i64 (bh), (cutI (⟨al, ah⟩ : Itv) (-32768) bh).v, .agg #[.int .i64 bl, .int .i64 bh], .pointer (some ⟨w.heap.size + 1, 0, none⟩), .int .i64 (al), (cutI (⟨bl, bh⟩ : Itv) al 32767).v, undef, undef]
  have HK := fun W (c : Chg (preB [⟨none, w.heap.size + 1 + 1 + 1, 8, 98, #[.int .i64 0, .int .i64 0], #[.int .i64 (cutI (⟨al, ah⟩ : Itv) (-32768) bh).lo, .int .i64 (cutI (⟨al, ah⟩ : Itv) (-32768) bh).hi]⟩, ⟨none, w.heap.size + 1 + 1 + 1 + 1, 9, 98, #[.int .i64 0, .int .i64 0], #[.int .i64 (cutI (⟨bl, bh⟩ : Itv) al 32767).lo, .int .i64 (cutI (⟨bl, bh⟩ : Itv) al 32767).hi]⟩]) _ W) => And.intro (ck c q0) (And.intro (ck c q1) (And.intro (ck c r0) (ck c r1)))
  refine region_box 16 [⟨none, w.heap.size + 1 + 1 + 1, 8, 98, #[.int .i64 0, .int .i64 0], #[.int .i64 (cutI (⟨al, ah⟩ : Itv) (-32768) bh).lo, .int .i64 (cutI (⟨al, ah⟩ : Itv) (-32768) bh).hi]⟩, ⟨none, w.heap.size + 1 + 1 + 1 + 1, 9, 98, #[.int .i64 0, .int .i64 0], #[.int .i64 (cutI (⟨bl, bh⟩ : Itv) al 32767).lo, .int .i64 (cutI (⟨bl, bh⟩ : Itv) al 32767).hi]⟩] VV (by kernel_rfl) rfl (by kernel_rfl) rfl (by intro b hb ha; simp only [List.mem_cons, List.not_mem_nil, or_false] at hb; rcases hb with rfl | rfl <;> first | (cases ha; done) | assumption) (by intro j k b c hjk hj hk hb hc; rcases j with _ | _ | j <;> rcases k with _ | _ | k <;> simp at hj hk hjk <;> (try subst hj) <;> (try subst hk) <;> first | (cases hb; done) | (cases hc; done) | (simp only; omega)) ⟨?_, ?_, ?_, ?_, ?_, ?_, ?_, ?_, ?_, ?_, trivial⟩ ?_
  · exact b_vx v0 rfl rfl (fun gm a W h => by have e4 : a.eval (.tmp 4) = .pointer (some ⟨w.heap.size + 1, 0, none⟩) := (h.slot 4 (by kernel_rfl)).trans rfl; obtain ⟨kq0, kq1, kr0, kr1⟩ := HK W h.chg; simp only [execOp, e4]; first | (simp [go_sem, kq0, kq1, kr0, kr1] <;> first | exact wrapIn | rfl) | kernel_rfl)
  · exact b_vx v1 rfl rfl (fun gm a W h => by have e5 : a.eval (.tmp 5) = .pointer (some ⟨w.heap.size + 1 + 1, 0, none⟩) := (h.slot 5 (by kernel_rfl)).trans rfl; simp only [execOp, e5]; first | (simp [go_sem] <;> first | exact wrapIn | rfl) | kernel_rfl)
  · exact b_vx v2 rfl rfl (fun gm a W h => by have e9 := (h.vb 1 9).trans v1; obtain ⟨kq0, kq1, kr0, kr1⟩ := HK W h.chg; simp only [execOp, e9]; first | (simp [go_sem, kq0, kq1, kr0, kr1] <;> first | exact wrapIn | rfl) | kernel_rfl)
  · exact b_cx v3 rfl rfl (fun gm a W h => by
      have e8 := (h.vb 0 8).trans v0
      have e10 := (h.vb 2 10).trans v2
      refine Eq.trans (b := .ok (.enter 174 #[a.eval (.tmp 8), .int .i64 (-32768), a.eval (.tmp 10)]) W) (by kernel_rfl) ?_
      rw [e8, e10]) (fun W => implCutItv (⟨al, ah⟩ : Itv) (-32768) bh W)
  · exact b_vx v4 rfl rfl (fun gm a W h => by have e5 : a.eval (.tmp 5) = .pointer (some ⟨w.heap.size + 1 + 1, 0, none⟩) := (h.slot 5 (by kernel_rfl)).trans rfl; obtain ⟨kq0, kq1, kr0, kr1⟩ := HK W h.chg; simp only [execOp, e5]; first | (simp [go_sem, kq0, kq1, kr0, kr1] <;> first | exact wrapIn | rfl) | kernel_rfl)
  · exact b_vx v5 rfl rfl (fun gm a W h => by have e4 : a.eval (.tmp 4) = .pointer (some ⟨w.heap.size + 1, 0, none⟩) := (h.slot 4 (by kernel_rfl)).trans rfl; simp only [execOp, e4]; first | (simp [go_sem] <;> first | exact wrapIn | rfl) | kernel_rfl)
  · exact b_vx v6 rfl rfl (fun gm a W h => by have e13 := (h.vb 5 13).trans v5; obtain ⟨kq0, kq1, kr0, kr1⟩ := HK W h.chg; simp only [execOp, e13]; first | (simp [go_sem, kq0, kq1, kr0, kr1] <;> first | exact wrapIn | rfl) | kernel_rfl)
  · exact b_cx v7 rfl rfl (fun gm a W h => by
      have e12 := (h.vb 4 12).trans v4
      have e14 := (h.vb 6 14).trans v6
      refine Eq.trans (b := .ok (.enter 174 #[a.eval (.tmp 12), a.eval (.tmp 14), .int .i64 (32767)]) W) (by kernel_rfl) ?_
      rw [e12, e14]) (fun W => implCutItv (⟨bl, bh⟩ : Itv) al 32767 W)
  · refine b_store 0 _ rfl rfl rfl v8 (fun j hj => by cases hj) rfl (fun gm a W h hold hb => ?_)
    have hg : gm 0 = w.heap.size + 1 + 1 + 1 := hold rfl
    rw [hg] at hb ⊢
    have e6 : a.eval (.tmp 6) = .pointer (some ⟨w.heap.size + 1 + 1 + 1, 0, none⟩) := (h.slot 6 (by kernel_rfl)).trans rfl
    have e11 := (h.vb 3 11).trans v3
    simp only at hb
    have hf := fun j => hb.frozen j
    have c0 := hb.cell 0
    have c1 := hb.cell 1
    refine ⟨_, by (simp only [execOp, e6, e11]; simp [go_sem, hf, c0, c1]; try rfl), (hb.set_ 0 _).set_ 1 _, chgs2 _ _ _ _ _ _⟩
  · refine b_store 1 _ rfl rfl rfl v9 (fun j hj => by cases hj) rfl (fun gm a W h hold hb => ?_)
    have hg : gm 1 = w.heap.size + 1 + 1 + 1 + 1 := hold rfl
    rw [hg] at hb ⊢
    have e7 : a.eval (.tmp 7) = .pointer (some ⟨w.heap.size + 1 + 1 + 1 + 1, 0, none⟩) := (h.slot 7 (by kernel_rfl)).trans rfl
    have e15 := (h.vb 7 15).trans v7
    simp only at hb
    have hf := fun j => hb.frozen j
    have c0 := hb.cell 0
    have c1 := hb.cell 1
    refine ⟨_, by (simp only [execOp, e7, e15]; simp [go_sem, hf, c0, c1]; try rfl), (hb.set_ 0 _).set_ 1 _, chgs2 _ _ _ _ _ _⟩
  intro gm vs w9 hc9 hb9 hold9 hge9 hv9
  have x0 := (hv9 0 8 (by kernel_rfl)).trans v0
  have x1 := (hv9 1 9 (by kernel_rfl)).trans v1
  have x2 := (hv9 2 10 (by kernel_rfl)).trans v2
  have x3 := (hv9 3 11 (by kernel_rfl)).trans v3
  have x4 := (hv9 4 12 (by kernel_rfl)).trans v4
  have x5 := (hv9 5 13 (by kernel_rfl)).trans v5
  have x6 := (hv9 6 14 (by kernel_rfl)).trans v6
  have x7 := (hv9 7 15 (by kernel_rfl)).trans v7
  have y0 := hb9 0 _ rfl
  rw [hold9 0 _ rfl rfl] at y0
  simp only at y0
  have y1 := hb9 1 _ rfl
  rw [hold9 1 _ rfl rfl] at y1
  simp only at y1
  simp only [putAll, Act.put, List.setIfInBounds_toArray, List.set_cons_zero, List.set_cons_succ, Nat.zero_add, Nat.reduceAdd, x0, x1, x2, x3, x4, x5, x6, x7]
  clear hb9 hold9 hge9 hv9 x0 x1 x2 x3 x4 x5 x6 x7 v0 v1 v2 v3 v4 v5 v6 v7 v8 v9 HK VV
  have z0 := y0.cell 0
  have z1 := y0.cell 1
  have u0 := y1.cell 0
  have u1 := y1.cell 1
  have zl := y0.lt
  have ul := y1.lt
  have HG := Lib.hid (GE.trans (hc9.belowB GE.size (fun k hk => by obtain ⟨b, hb, _, rfl⟩ := hk; simp only [List.mem_cons, List.not_mem_nil, or_false] at hb; rcases hb with rfl | rfl <;> simp only <;> omega)))
  simp only [List.getElem?_toArray, List.getElem?_cons_zero, List.getElem?_cons_succ] at z0 z1 u0 u1
  clear y0 y1 hc9 GE q0 q1 r0 r1 Z1 Z2
  go_wp2
  refine bodyPost_ret (by simp [results, Tryz.results206, go_sem, z0, z1, u0, u1, zl, ul]; try rfl) rfl ?_
  exact ⟨by simp [resI], HG.out⟩

set_option maxRecDepth 100000 in
set_option maxHeartbeats 1000000 in
theorem otherRestrict (a b : Itv) (w : World) (ha : itvB a = true) (hb : itvB b = true) :
    Calls Tryz.prog 207 #[.agg #[], a.v, b.v] w fun e w' => e = .returned (.tuple #[(resI 4 a b).1.v, (resI 4 a b).2.v]) ∧ Grew w w' := by
  obtain ⟨al, ah⟩ := a
  obtain ⟨bl, bh⟩ := b
  have hA := itvB_iff.1 ha
  have hB := itvB_iff.1 hb
  simp only at hA hB
  go_enter Tryz.func207, Tryz.ntmps207
  go_upto_region 1 with fail
  refine wp_letH ?_
  intro E hE
  have q0 : E.cell? ⟨w.heap.size + 1, 0, none⟩ = some (.int .i64 al) := by rw [hE]; simp [go_sem]
  have q1 : E.cell? ⟨w.heap.size + 1, 1, none⟩ = some (.int .i64 ah) := by rw [hE]; simp [go_sem]
  have r0 : E.cell? ⟨w.heap.size + 1 + 1, 0, none⟩ = some (.int .i64 bl) := by rw [hE]; simp [go_sem]
  have r1 : E.cell? ⟨w.heap.size + 1 + 1, 1, none⟩ = some (.int .i64 bh) := by rw [hE]; simp [go_sem]
  have Z1 : Blk E (w.heap.size + 1 + 1 + 1) 98 #[.int .i64 0, .int .i64 0] := by rw [hE]; exact Blk.alloc (Blk.new' (by simp only [World.size_alloc])) _
  have Z2 : Blk E (w.heap.size + 1 + 1 + 1 + 1) 98 #[.int .i64 0, .int .i64 0] := by rw [hE]; (repeat (first | with_reducible assumption | with_reducible exact Blk.new' (by simp only [World.size_alloc, World.size_drew, World.size_setCell]) | with_reducible refine Blk.alloc ?_ _ | with_reducible refine Blk.grew ?_ (grew_d (Below.refl _ _)) | with_reducible refine Blk.far ?_ (by first | assumption | (simp only; omega)) _))
  have GE : Grew w E := by rw [hE]; exact gr
  clear hE
  obtain ⟨VV, v0, v1, v2, v3, v4, v5, v6, v7, -⟩ := vl [.agg #[.int .i64 al, .int .i64 ah], .agg #[.int .i64 bl, .int .i64 bh], (woI (⟨al, ah⟩ : Itv) (⟨bl, bh⟩ : Itv)).v, .agg #[.int .i64 bl, .int .i64 bh], .agg #[.int .i64 al, .int .i64 ah], (woI (⟨bl, bh⟩ : Itv) (⟨al, ah⟩ : Itv)).v, undef, undef]
  have HK := fun W (c : Chg (preB [⟨none, w.heap.size + 1 + 1 + 1, 6, 98, #[.int .i64 0, .int .i64 0], #[.int .i64 (woI (⟨al, ah⟩ : Itv) (⟨bl, bh⟩ : Itv)).lo, .int .i64 (woI (⟨al, ah⟩ : Itv) (⟨bl, bh⟩ : Itv)).hi]⟩, ⟨none, w.heap.size + 1 + 1 + 1 + 1, 7, 98, #[.int .i64 0, .int .i64 0], #[.int .i64 (woI (⟨bl, bh⟩ : Itv) (⟨al, ah⟩ : Itv)).lo, .int .i64 (woI (⟨bl, bh⟩ : Itv) (⟨al, ah⟩ : Itv)).hi]⟩]) _ W) => And.intro (ck c q0) (And.intro (ck c q1) (And.intro (ck c r0) (ck c r1)))
  refine region_box 14 [⟨none, w.heap.size + 1 + 1 + 1, 6, 98, #[.int .i64 0, .int .i64 0], #[.int .i64 (woI (⟨al, ah⟩ : Itv) (⟨bl, bh⟩ : Itv)).lo, .int .i64 (woI (⟨al, ah⟩ : Itv) (⟨bl, bh⟩ : Itv)).hi]⟩, ⟨none, w.heap.size + 1 + 1 + 1 + 1, 7, 98, #[.int .i64 0, .int .i64 0], #[.int .i64 (woI (⟨bl, bh⟩ : Itv) (⟨al, ah⟩ : Itv)).lo, .int .i64 (woI (⟨bl, bh⟩ : Itv) (⟨al, ah⟩ : Itv)).hi]⟩] VV (by kernel_rfl) rfl (by kernel_rfl) rfl (by intro b hb ha; simp only [List.mem_cons, List.not_mem_nil, or_false] at hb; rcases hb with rfl | rfl <;> first | (cases ha; done) | assumption) (by intro j k b c hjk hj hk hb hc; rcases j with _ | _ | j <;> rcases k with _ | _ | k <;> simp at hj hk hjk <;> (try subst hj) <;> (try subst hk) <;> first | (cases hb; done) | (cases hc; done) | (simp only; omega)) ⟨?_, ?_, ?_, ?_, ?_, ?_, ?_, ?_, trivial⟩ ?_
  · exact b_vx v0 rfl rfl (fun gm a W h => by have e4 : a.eval (.tmp 4) = .pointer (some ⟨w.heap.size + 1, 0, none⟩) := (h.slot 4 (by kernel_rfl)).trans rfl; obtain ⟨kq0, kq1, kr0, kr1⟩ := HK W h.chg; simp only [execOp, e4]; first | (simp [go_sem, kq0, kq1, kr0, kr1] <;> first | exact wrapIn | rfl) | kernel_rfl)
  · exact b_vx v1 rfl rfl (fun gm a W h => by have e5 : a.eval (.tmp 5) = .pointer (some ⟨w.heap.size + 1 + 1, 0, none⟩) := (h.slot 5 (by kernel_rfl)).trans rfl; obtain ⟨kq0, kq1, kr0, kr1⟩ := HK W h.chg; simp only [execOp, e5]; first | (simp [go_sem, kq0, kq1, kr0, kr1] <;> first | exact wrapIn | rfl) | kernel_rfl)
  · exact b_cx v2 rfl rfl (fun gm a W h => by
      have e8 := (h.vb 0 8).trans v0
      have e9 := (h.vb 1 9).trans v1
      refine Eq.trans (b := .ok (.enter 208 #[a.eval (.tmp 8), a.eval (.tmp 9)]) W) (by kernel_rfl) ?_
      rw [e8, e9]) (fun W => implWithout (⟨al, ah⟩ : Itv) (⟨bl, bh⟩ : Itv) W ha hb)
  · exact b_vx v3 rfl rfl (fun gm a W h => by have e5 : a.eval (.tmp 5) = .pointer (some ⟨w.heap.size + 1 + 1, 0, none⟩) := (h.slot 5 (by kernel_rfl)).trans rfl; obtain ⟨kq0, kq1, kr0, kr1⟩ := HK W h.chg; simp only [execOp, e5]; first | (simp [go_sem, kq0, kq1, kr0, kr1] <;> first | exact wrapIn | rfl) | kernel_rfl)
  · exact b_vx v4 rfl rfl (fun gm a W h => by have e4 : a.eval (.tmp 4) = .pointer (some ⟨w.heap.size + 1, 0, none⟩) := (h.slot 4 (by kernel_rfl)).trans rfl; obtain ⟨kq0, kq1, kr0, kr1⟩ := HK W h.chg; simp only [execOp, e4]; first | (simp [go_sem, kq0, kq1, kr0, kr1] <;> first | exact wrapIn | rfl) | kernel_rfl)
  · exact b_cx v5 rfl rfl (fun gm a W h => by
      have e11 := (h.vb 3 11).trans v3
      have e12 := (h.vb 4 12).trans v4
      refine Eq.trans (b := .ok (.enter 208 #[a.eval (.tmp 11), a.eval (.tmp 12)]) W) (by kernel_rfl) ?_
      rw [e11, e12]) (fun W => implWithout (⟨bl, bh⟩ : Itv) (⟨al, ah⟩ : Itv) W hb ha)
  · refine b_store 0 _ rfl rfl rfl v6 (fun j hj => by cases hj) rfl (fun gm a W h hold hb => ?_)
    have hg : gm 0 = w.heap.size + 1 + 1 + 1 := hold rfl
    rw [hg] at hb ⊢
    have e6 : a.eval (.tmp 6) = .pointer (some ⟨w.heap.size + 1 + 1 + 1, 0, none⟩) := (h.slot 6 (by kernel_rfl)).trans rfl
    have e10 := (h.vb 2 10).trans v2
    simp only at hb
    have hf := fun j => hb.frozen j
    have c0 := hb.cell 0
    have c1 := hb.cell 1
    refine ⟨_, by (simp only [execOp, e6, e10]; simp [go_sem, hf, c0, c1]; try rfl), (hb.set_ 0 _).set_ 1 _, chgs2 _ _ _ _ _ _⟩
  · refine b_store 1 _ rfl rfl rfl v7 (fun j hj => by cases hj) rfl (fun gm a W h hold hb => ?_)
    have hg : gm 1 = w.heap.size + 1 + 1 + 1 + 1 := hold rfl
    rw [hg] at hb ⊢
    have e7 : a.eval (.tmp 7) = .pointer (some ⟨w.heap.size + 1 + 1 + 1 + 1, 0, none⟩) := (h.slot 7 (by kernel_rfl)).trans rfl
    have e13 := (h.vb 5 13).trans v5
    simp only at hb
    have hf := fun j => hb.frozen j
    have c0 := hb.cell 0
    have c1 := hb.cell 1
    refine ⟨_, by (simp only [execOp, e7, e13]; simp [go_sem, hf, c0, c1]; try rfl), (hb.set_ 0 _).set_ 1 _, chgs2 _ _ _ _ _ _⟩
  intro gm vs w9 hc9 hb9 hold9 hge9 hv9
  have x0 := (hv9 0 8 (by kernel_rfl)).trans v0
  have x1 := (hv9 1 9 (by kernel_rfl)).trans v1
  have x2 := (hv9 2 10 (by kernel_rfl)).trans v2
  have x3 := (hv9 3 11 (by kernel_rfl)).trans v3
  have x4 := (hv9 4 12 (by kernel_rfl)).trans v4
  have x5 := (hv9 5 13 (by kernel_rfl)).trans v5
  have y0 := hb9 0 _ rfl
  rw [hold9 0 _ rfl rfl] at y0
  simp only at y0
  have y1 := hb9 1 _ rfl
  rw [hold9 1 _ rfl rfl] at y1
  simp only at y1
  simp only [putAll, Act.put, List.setIfInBounds_toArray, List.set_cons_zero, List.set_cons_succ, Nat.zero_add, Nat.reduceAdd, x0, x1, x2, x3, x4, x5]
  clear hb9 hold9 hge9 hv9 x0 x1 x2 x3 x4 x5 v0 v1 v2 v3 v4 v5 v6 v7 HK VV
  have z0 := y0.cell 0
  have z1 := y0.cell 1
  have u0 := y1.cell 0
  have u1 := y1.cell 1
  have zl := y0.lt
  have ul := y1.lt
  have HG := Lib.hid (GE.trans (hc9.belowB GE.size (fun k hk => by obtain ⟨b, hb, _, rfl⟩ := hk; simp only [List.mem_cons, List.not_mem_nil, or_false] at hb; rcases hb with rfl | rfl <;> simp only <;> omega)))
  simp only [List.getElem?_toArray, List.getElem?_cons_zero, List.getElem?_cons_succ] at z0 z1 u0 u1
  clear y0 y1 hc9 GE q0 q1 r0 r1 Z1 Z2
  go_wp2
  refine bodyPost_ret (by simp [results, Tryz.results207, go_sem, z0, z1, u0, u1, zl, ul]; try rfl) rfl ?_
  exact ⟨by simp [resI], HG.out⟩
end Go.Proofs.YtdddhnepanjmfaaGreat
