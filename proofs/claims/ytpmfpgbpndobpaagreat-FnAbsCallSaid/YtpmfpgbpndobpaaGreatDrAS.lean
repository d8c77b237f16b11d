/- The draw DrawAbsStep: a program, sums, a step, a place, a state. No condition. -/
import Derived.Test.YtpmfpgbpndobpaaGreatDrAF
namespace Go.Proofs.YtpmfpgbpndobpaaGreat
open Go.RowKit
set_option linter.unusedVariables false
set_option linter.unusedSimpArgs false
attribute [local go_sem] dg_cell dg_frozen dg_lt dg_lt1 dg_lt2 dg_ne dg_ne1 dg_ne2 dg_new dg_wen lt_s2 lt_s3 lt_s4 lt_s5 lt_s6

/-- A program, sums, a step, a place and a state were drawn. -/
def RetAS (w : World) (e : Ending) (w' : World) : Prop := ∃ (pa : Option Addr) (m pc : Nat) (ps : List Prc) (ua : Option Addr) (un uc : Nat) (ss : List Sum) (i : Ins) (k : Int) (on : Bool) (sa : Option Addr) (sn sc : Nat) (lo hi : Int),
  e = .returned (.tuple #[.agg #[.slice pa m pc], .slice ua un uc, i.v, .int .i64 k, .agg #[.bool on, .slice sa sn sc, .int .i64 lo, .int .i64 hi]]) ∧ PrgIn w' pa m ps ∧ RdL ESum 3 w' ua un ss ∧ un ≤ 6 ∧ (-1 ≤ k ∧ k ≤ 10) ∧ StD w' w.heap.size sa sn sc ∧ Grew w w'
set_option maxRecDepth 100000 in
set_option maxHeartbeats 8000000 in
theorem drawAbsStep (a : Option Addr) (n cap : Nat) (zs : List Int) (w : World) (hr : Rd w a n 1 (ints .u8 zs)) (hz : Bs zs) (hc : n ≤ cap ∧ cap ≤ maxLen) :
    Calls Tryz.prog 6 #[.slice a n cap] w (RetAS w) := by
  have HR0 := Lib.hid (hr.grew (grew_al (grew_al (grew_al (Below.refl _ w) (.cells Zq 25)) (.cells Zi8 28)) (.cells Zs 33))); clear hr
  have HZ := Lib.hid hz; clear hz
  go_enter Tryz.func6, Tryz.ntmps6
  go_wp2_with fail
  refine (drawAbsFails a n cap zs _ HR0.out HZ.out hc).mono ?_
  rintro e w1 ⟨pa, m, pc, ms, ⟨op, d, ia, ib, rel, ilo, ihi, ito⟩, on, sa, sn, sc, lo, hi, rfl, hp, hm5, hml, hs, g1⟩
  have hZ0 : Blk w1 w.heap.size 25 Zq := (((Blk.new w _ _).alloc _).alloc _).grew g1
  have hZ1 : Blk w1 (w.heap.size + 1) 28 Zi8 := by have := ((Blk.new (w.alloc (.cells Zq 25)) 28 Zi8).alloc (.cells Zs 33)).grew g1; simpa only [World.size_alloc] using this
  have hZ2 : Blk w1 (w.heap.size + 1 + 1) 33 Zs := by have := (Blk.new ((w.alloc (.cells Zq 25)).alloc (.cells Zi8 28)) 33 Zs).grew g1; simpa only [World.size_alloc] using this
  have G1 : Grew w w1 := grew_tr (grew_al (grew_al (grew_al (Below.refl _ w) _) _) _) g1
  have hsz : w.heap.size + 1 + 1 + 1 ≤ w1.heap.size := by have := g1.size; simpa only [World.size_alloc] using this
  have hp' : OwnP w1 (w.heap.size + 1 + 1 + 1) (.slice pa m pc) m ms := by simpa only [World.size_alloc] using hp
  have HML := Lib.hid hml
  have hs' : StD w1 (w.heap.size + 1 + 1 + 1) sa sn sc := by simpa only [World.size_alloc] using hs
  have HRA := Lib.hid (HR0.out.grew g1)
  clear g1 hs HR0 hp hml
  go_upto_region 2 with fail
  refine wp_let_c ?_
  intro E hE
  have gE : Grew w1 E := by rw [hE]; exact grew_al (grew_al (grew_al (Below.refl _ _) _) _) _
  have hEs : E.heap.size = w1.heap.size + 1 + 1 + 1 := by rw [hE]; simp only [World.size_alloc]
  have B7 : Hid (Blk E w1.heap.size 25 #[.slice pa m pc]) := Lib.hid (by rw [hE]; exact ((Blk.new w1 _ _).alloc _).alloc _)
  have B8 : Hid (Blk E (w1.heap.size + 1) 28 #[.int .i64 op, .int .i64 d, .int .i64 ia, .int .i64 ib, .int .i64 rel, .int .i64 ilo, .int .i64 ihi, .int .i64 ito]) := Lib.hid (by rw [hE]; have := (Blk.new (w1.alloc (.cells #[.slice pa m pc] 25)) 28 #[.int .i64 op, .int .i64 d, .int .i64 ia, .int .i64 ib, .int .i64 rel, .int .i64 ilo, .int .i64 ihi, .int .i64 ito]).alloc (.cells #[.bool on, .slice sa sn sc, .int .i64 lo, .int .i64 hi] 33); simpa only [World.size_alloc] using this)
  have B9 : Hid (Blk E (w1.heap.size + 1 + 1) 33 #[.bool on, .slice sa sn sc, .int .i64 lo, .int .i64 hi]) := Lib.hid (by rw [hE]; have := (Blk.new ((w1.alloc (.cells #[.slice pa m pc] 25)).alloc (.cells #[.int .i64 op, .int .i64 d, .int .i64 ia, .int .i64 ib, .int .i64 rel, .int .i64 ilo, .int .i64 ihi, .int .i64 ito] 28)) 33 #[.bool on, .slice sa sn sc, .int .i64 lo, .int .i64 hi]); simpa only [World.size_alloc] using this)
  have Z0 := Lib.hid (hZ0.grew gE)
  have Z1 := Lib.hid (hZ1.grew gE)
  have Z2 := Lib.hid (hZ2.grew gE)
  have GE := Lib.hid (grew_tr G1 gE)
  have HP := Lib.hid (hp'.grew gE)
  have HS := Lib.hid (hs'.grew gE)
  have HRE := Lib.hid (HRA.out.grew gE)
  have hlE : w1.heap.size < E.heap.size := by omega
  have HES := Lib.hid hEs
  clear hE gE hZ0 hZ1 hZ2 G1 hp' hs' HRA hEs
  go_wp2_with fail
  refine (l20Open _ _ _ _ _ HRE.out HZ.out hc).mono ?_
  rintro e w2 ⟨rfl, h1, h2⟩
  obtain ⟨g, hg⟩ : ∃ g, E.heap.size = g := ⟨_, rfl⟩
  try simp only [hg] at h1 ⊢
  have hgE : ¬ w1.heap.size = g := by omega
  have H1 := Lib.hid h1
  have G2 := Lib.hid h2
  have HG := Lib.hid hg
  clear h1 h2 hg HRE HZ
  go_wp2_with fail
  refine Calls.mono (pickG (k := 10) H1.out (by omega) (by omega)) ?_
  rintro e w3 ⟨v, rfl, ⟨k0, rfl, hk0⟩, hr3, hc3⟩
  have hk0 := hk0 (by omega)
  have G3 := Lib.hid (show Grew E w3 from G2.out.trans (hc3.belowB G2.out.size (fun k hk => by rw [hk, ← HG.out]; exact Nat.le_refl _)))
  have c0 : w3.cell? ⟨w1.heap.size, 0, none⟩ = some (.slice pa m pc) := (B7.out.grew G3.out).cell 0
  have HR3 := Lib.hid hr3
  clear hr3 hc3 G2 H1
  go_wp2_with fail
  refine Calls.mono (sumsG (n := 20) HR3.out (by omega) (by omega) hm5) ?_
  rintro e w4 ⟨ua, un, uc, ss, rfl, ho, hl, hun, hr4, hc4⟩
  have G4 := Lib.hid (show Grew E w4 from G3.out.trans (hc4.belowB G3.out.size (fun k hk => by rw [hk, ← HG.out]; exact Nat.le_refl _)))
  have HU4 := Lib.hid ho
  have HUL := Lib.hid hl
  have HR4 := Lib.hid hr4
  have hg4 : g < w3.heap.size := HR3.out.lt
  have hs3 : E.heap.size ≤ w3.heap.size := G3.out.size
  clear ho hl hr4 hc4 G3 c0
  go_wp2_with fail
  refine Calls.mono (oddG (k := 20) HR4.out (by omega) (by omega)) ?_
  rintro e w5 ⟨v, rfl, ⟨o, rfl⟩, hr5, hc5⟩
  have G5 := Lib.hid (show Grew E w5 from G4.out.trans (hc5.belowB G4.out.size (fun k hk => by rw [hk, ← HG.out]; exact Nat.le_refl _)))
  have HU5 := Lib.hid (owns_chg HU4.out hc5 (fun b hb e => by have := (HU4.out.lt b hb).1; omega))
  have HR5 := Lib.hid hr5
  clear hr5 hc5 G4 HU4 HR4 HR3
  go_upto_if 27 with fail
  go_cut [11] (fun s11 W => ∃ k : Int, s11 = .int .i64 k ∧ (-1 ≤ k ∧ k ≤ 10) ∧ Grew E W ∧ W.ownsRow w3.heap.size 52 3 (.slice ua un uc) un (ss.flatMap Sum.cells))
  case first =>
    cases o
    · go_wp2_with fail
      go_meet
      case rel => exact ⟨_, rfl, by omega, G5.out, HU5.out⟩
    · go_wp2_with fail
      refine Calls.mono (pickG (k := 2) (rd_al HR5.out _) (by omega) (by omega)) ?_
      rintro e w6 ⟨v, rfl, ⟨u, rfl, hu⟩, hr6, hc6⟩
      have hu := hu (by omega)
      have hcw : ChgG g w5 w6 := ChgG.trans (chg_al (ChgG.refl g w5) _) hc6
      have hS : Blk w6 w5.heap.size 3 (ints .i64 [-1, 10]).toArray := (Blk.new w5 _ _).chg hc6 (by have := HR5.out.lt; omega)
      have s0 : w6.cell? ⟨w5.heap.size, 0, none⟩ = some (.int .i64 (-1)) := hS.cell 0
      have s1 : w6.cell? ⟨w5.heap.size, 1, none⟩ = some (.int .i64 10) := hS.cell 1
      have sl := hS.lt
      have G6 := Lib.hid (show Grew E w6 from G5.out.trans (hcw.belowB G5.out.size (fun k hk => by rw [hk, ← HG.out]; exact Nat.le_refl _)))
      have HU6 := Lib.hid (owns_chg HU5.out hcw (fun b hb e => by have := (HU5.out.lt b hb).1; omega))
      clear hr6 hc6 hcw hS HR5 G5 HU5
      have hu2 : u = 0 ∨ u = 1 := by omega
      rcases hu2 with rfl | rfl
      all_goals
        go_wp2_with fail
        go_meet
        case rel => exact ⟨_, rfl, by omega, G6.out, HU6.out⟩
  case rest =>
    clear G5 HU5 HR5
    obtain ⟨k, rfl, hk, hG, hU⟩ := hcut
    obtain ⟨w8, hw8⟩ : ∃ W, W = wc := ⟨_, rfl⟩
    rw [← hw8] at hG hU ⊢
    clear hw8
    have G8 := Lib.hid hG
    have U8 := Lib.hid hU
    have hb0 : Blk w8 w.heap.size 25 Zq := Z0.out.grew hG
    have hb1 : Blk w8 (w.heap.size + 1) 28 Zi8 := Z1.out.grew hG
    have hb2 : Blk w8 (w.heap.size + 1 + 1) 33 Zs := Z2.out.grew hG
    have c0 : w8.cell? ⟨w1.heap.size, 0, none⟩ = some (.slice pa m pc) := (B7.out.grew hG).cell 0
    have x8 := B8.out.grew hG
    have x9 := B9.out.grew hG
    have t0 : w8.cell? ⟨w1.heap.size + 1, 0, none⟩ = some (.int .i64 op) := x8.cell 0
    have t1 : w8.cell? ⟨w1.heap.size + 1, 1, none⟩ = some (.int .i64 d) := x8.cell 1
    have t2 : w8.cell? ⟨w1.heap.size + 1, 2, none⟩ = some (.int .i64 ia) := x8.cell 2
    have t3 : w8.cell? ⟨w1.heap.size + 1, 3, none⟩ = some (.int .i64 ib) := x8.cell 3
    have t4 : w8.cell? ⟨w1.heap.size + 1, 4, none⟩ = some (.int .i64 rel) := x8.cell 4
    have t5 : w8.cell? ⟨w1.heap.size + 1, 5, none⟩ = some (.int .i64 ilo) := x8.cell 5
    have t6 : w8.cell? ⟨w1.heap.size + 1, 6, none⟩ = some (.int .i64 ihi) := x8.cell 6
    have t7 : w8.cell? ⟨w1.heap.size + 1, 7, none⟩ = some (.int .i64 ito) := x8.cell 7
    have d0 : w8.cell? ⟨w1.heap.size + 1 + 1, 0, none⟩ = some (.bool on) := x9.cell 0
    have d1 : w8.cell? ⟨w1.heap.size + 1 + 1, 1, none⟩ = some (.slice sa sn sc) := x9.cell 1
    have d2 : w8.cell? ⟨w1.heap.size + 1 + 1, 2, none⟩ = some (.int .i64 lo) := x9.cell 2
    have d3 : w8.cell? ⟨w1.heap.size + 1 + 1, 3, none⟩ = some (.int .i64 hi) := x9.cell 3
    clear hG hU x8 x9
    go_upto_region 7 with fail
    obtain ⟨VV, v0, v1, v2, v3, v4, v5, v6, v7, v8, v9, -⟩ := vl [.agg #[.slice pa m pc], .slice ua un uc, .agg #[.int .i64 op, .int .i64 d, .int .i64 ia, .int .i64 ib, .int .i64 rel, .int .i64 ilo, .int .i64 ihi, .int .i64 ito], .int .i64 k, .agg #[.bool on, .slice sa sn sc, .int .i64 lo, .int .i64 hi], undef, .slice ua un uc, undef, .int .i64 k, undef]
    have HK := fun W (c : Chg (preB [⟨none, w.heap.size, 5, 25, Zq, #[.slice pa m pc]⟩, ⟨none, w.heap.size + 1, 7, 28, Zi8, #[.int .i64 op, .int .i64 d, .int .i64 ia, .int .i64 ib, .int .i64 rel, .int .i64 ilo, .int .i64 ihi, .int .i64 ito]⟩, ⟨none, w.heap.size + 1 + 1, 9, 33, Zs, #[.bool on, .slice sa sn sc, .int .i64 lo, .int .i64 hi]⟩]) _ W) => And.intro (ck c c0) (And.intro (ck c t0) (And.intro (ck c t1) (And.intro (ck c t2) (And.intro (ck c t3) (And.intro (ck c t4) (And.intro (ck c t5) (And.intro (ck c t6) (And.intro (ck c t7) (And.intro (ck c d0) (And.intro (ck c d1) (And.intro (ck c d2) (ck c d3))))))))))))
    refine region_box 38 [⟨none, w.heap.size, 5, 25, Zq, #[.slice pa m pc]⟩, ⟨none, w.heap.size + 1, 7, 28, Zi8, #[.int .i64 op, .int .i64 d, .int .i64 ia, .int .i64 ib, .int .i64 rel, .int .i64 ilo, .int .i64 ihi, .int .i64 ito]⟩, ⟨none, w.heap.size + 1 + 1, 9, 33, Zs, #[.bool on, .slice sa sn sc, .int .i64 lo, .int .i64 hi]⟩] VV (by kernel_rfl) rfl (by kernel_rfl) rfl (by intro b hb ha; simp only [List.mem_cons, List.not_mem_nil, or_false] at hb; rcases hb with rfl | rfl | rfl <;> first | (cases ha; done) | assumption) (by intro j k b c hjk hj hk hb hc; rcases j with _ | _ | _ | j <;> rcases k with _ | _ | _ | k <;> simp at hj hk hjk <;> (try subst hj) <;> (try subst hk) <;> first | (cases hb; done) | (cases hc; done) | (simp only; omega)) ⟨?_, ?_, ?_, ?_, ?_, ?_, ?_, ?_, ?_, ?_, trivial⟩ ?_
    · exact b_vx v0 rfl rfl (fun gm a W h => by have e7 : a.eval (.tmp 7) = .pointer (some ⟨w1.heap.size, 0, none⟩) := (h.slot 7 (by kernel_rfl)).trans rfl; obtain ⟨kc0, kt0, kt1, kt2, kt3, kt4, kt5, kt6, kt7, kd0, kd1, kd2, kd3⟩ := HK W h.chg; simp only [execOp, e7]; first | (simp [go_sem, kc0, kt0, kt1, kt2, kt3, kt4, kt5, kt6, kt7, kd0, kd1, kd2, kd3] <;> first | exact wrapIn | rfl) | kernel_rfl)
    · exact b_vx v1 rfl rfl (fun gm a W h => by have e12 : a.eval (.tmp 12) = .slice ua un uc := (h.slot 12 (by kernel_rfl)).trans rfl; simp only [execOp, e12]; first | (simp [go_sem] <;> first | exact wrapIn | rfl) | kernel_rfl)
    · exact b_vx v2 rfl rfl (fun gm a W h => by have e8 : a.eval (.tmp 8) = .pointer (some ⟨w1.heap.size + 1, 0, none⟩) := (h.slot 8 (by kernel_rfl)).trans rfl; obtain ⟨kc0, kt0, kt1, kt2, kt3, kt4, kt5, kt6, kt7, kd0, kd1, kd2, kd3⟩ := HK W h.chg; simp only [execOp, e8]; first | (simp [go_sem, kc0, kt0, kt1, kt2, kt3, kt4, kt5, kt6, kt7, kd0, kd1, kd2, kd3] <;> first | exact wrapIn | rfl) | kernel_rfl)
    · exact b_vx v3 rfl rfl (fun gm a W h => by have e11 : a.eval (.tmp 11) = .int .i64 k := (h.slot 11 (by kernel_rfl)).trans rfl; simp only [execOp, e11]; first | (simp [go_sem] <;> first | exact wrapIn | rfl) | kernel_rfl)
    · exact b_vx v4 rfl rfl (fun gm a W h => by have e9 : a.eval (.tmp 9) = .pointer (some ⟨w1.heap.size + 1 + 1, 0, none⟩) := (h.slot 9 (by kernel_rfl)).trans rfl; obtain ⟨kc0, kt0, kt1, kt2, kt3, kt4, kt5, kt6, kt7, kd0, kd1, kd2, kd3⟩ := HK W h.chg; simp only [execOp, e9]; first | (simp [go_sem, kc0, kt0, kt1, kt2, kt3, kt4, kt5, kt6, kt7, kd0, kd1, kd2, kd3] <;> first | exact wrapIn | rfl) | kernel_rfl)
    · refine b_store 0 _ rfl rfl rfl v5 (fun j hj => by cases hj) rfl (fun gm a W h hold hb => ?_)
      have hg : gm 0 = w.heap.size := hold rfl
      rw [hg] at hb ⊢
      have e2 : a.eval (.tmp 2) = .pointer (some ⟨w.heap.size, 0, none⟩) := (h.slot 2 (by kernel_rfl)).trans rfl
      have e33 := (h.vb 0 33).trans v0
      simp only at hb
      have hf := fun j => hb.frozen j
      have c0 := hb.cell 0
      refine ⟨_, by (simp only [execOp, e2, e33]; simp [go_sem, hf, c0]; try rfl), blk1 hb _, chgN1 _ _ _⟩
    · exact b_vx v6 rfl rfl (fun gm a W h => by have e34 := (h.vb 1 34).trans v1; simp only [execOp, e34]; first | (simp [go_sem] <;> first | exact wrapIn | rfl) | kernel_rfl)
    · refine b_store 1 _ rfl rfl rfl v7 (fun j hj => by cases hj) rfl (fun gm a W h hold hb => ?_)
      have hg : gm 1 = w.heap.size + 1 := hold rfl
      rw [hg] at hb ⊢
      have e4 : a.eval (.tmp 4) = .pointer (some ⟨w.heap.size + 1, 0, none⟩) := (h.slot 4 (by kernel_rfl)).trans rfl
      have e35 := (h.vb 2 35).trans v2
      simp only at hb
      have hf := fun j => hb.frozen j
      have c0 := hb.cell 0
      have c1 := hb.cell 1
      have c2 := hb.cell 2
      have c3 := hb.cell 3
      have c4 := hb.cell 4
      have c5 := hb.cell 5
      have c6 := hb.cell 6
      have c7 := hb.cell 7
      refine ⟨_, by (simp only [execOp, e4, e35]; simp [go_sem, hf, c0, c1, c2, c3, c4, c5, c6, c7]; try rfl), blk8 hb _ _ _ _ _ _ _ _, chgN8 _ _ _ _ _ _ _ _ _ _⟩
    · exact b_vx v8 rfl rfl (fun gm a W h => by have e36 := (h.vb 3 36).trans v3; simp only [execOp, e36]; first | (simp [go_sem] <;> first | exact wrapIn | rfl) | kernel_rfl)
    · refine b_store 2 _ rfl rfl rfl v9 (fun j hj => by cases hj) rfl (fun gm a W h hold hb => ?_)
      have hg : gm 2 = w.heap.size + 1 + 1 := hold rfl
      rw [hg] at hb ⊢
      have e6 : a.eval (.tmp 6) = .pointer (some ⟨w.heap.size + 1 + 1, 0, none⟩) := (h.slot 6 (by kernel_rfl)).trans rfl
      have e37 := (h.vb 4 37).trans v4
      simp only at hb
      have hf := fun j => hb.frozen j
      have c0 := hb.cell 0
      have c1 := hb.cell 1
      have c2 := hb.cell 2
      have c3 := hb.cell 3
      refine ⟨_, by (simp only [execOp, e6, e37]; simp [go_sem, hf, c0, c1, c2, c3]; try rfl), blk4 hb _ _ _ _, chgN4 _ _ _ _ _ _⟩
    intro gm vs w9 hc9 hb9 hold9 hge9 hv9
    have x0 := (hv9 0 33 (by kernel_rfl)).trans v0
    have x1 := (hv9 1 34 (by kernel_rfl)).trans v1
    have x2 := (hv9 2 35 (by kernel_rfl)).trans v2
    have x3 := (hv9 3 36 (by kernel_rfl)).trans v3
    have x4 := (hv9 4 37 (by kernel_rfl)).trans v4
    have x6 := (hv9 6 3 (by kernel_rfl)).trans v6
    have x8 := (hv9 8 5 (by kernel_rfl)).trans v8
    have y0 := hb9 0 _ rfl
    rw [hold9 0 _ rfl rfl] at y0
    simp only at y0
    have y1 := hb9 1 _ rfl
    rw [hold9 1 _ rfl rfl] at y1
    simp only at y1
    have y2 := hb9 2 _ rfl
    rw [hold9 2 _ rfl rfl] at y2
    simp only at y2
    simp only [putAll, Act.put, List.setIfInBounds_toArray, List.set_cons_zero, List.set_cons_succ, Nat.zero_add, Nat.reduceAdd, x0, x1, x2, x3, x4, x6, x8]
    clear hb9 hold9 hge9 hv9 x0 x1 x2 x3 x4 x6 x8 v0 v1 v2 v3 v4 v5 v6 v7 v8 v9 HK VV
    have hcz : Chg (fun b => b < w.heap.size + 1 + 1 + 1 ∧ w.heap.size ≤ b) w8 w9 := Chg.trans hc9 (Chg.refl _ _) (fun i hi e => by obtain ⟨b, hb, ha, rfl⟩ := e; simp only [List.mem_cons, List.not_mem_nil, or_false] at hb; rcases hb with rfl | rfl | rfl <;> simp only <;> omega) (fun _ _ h => h)
    have HGF := Lib.hid (show Grew w w9 from (grew_tr GE.out G8.out).trans (hcz.belowB (grew_tr GE.out G8.out).size (fun k hk => hk.2)))
    have HPF := Lib.hid (PrgIn.of ((HP.out.grew G8.out).chg hcz (fun b hb _ e => by omega)) hm5 HML.out)
    have HSF := Lib.hid (show StD w9 (w.heap.size + 1 + 1 + 1) sa sn sc from (HS.out.grew G8.out).chg hcz (fun t _ ht e => by omega))
    have HUF := Lib.hid (rdSum_of_own HUL.out (owns_chg U8.out hcz (fun b hb e => by have := (U8.out.lt b hb).1; omega)))
    have z0 : w9.cell? ⟨w.heap.size, 0, none⟩ = some (.slice pa m pc) := y0.cell 0
    have z10 : w9.cell? ⟨w.heap.size + 1, 0, none⟩ = some (.int .i64 op) := y1.cell 0
    have z11 : w9.cell? ⟨w.heap.size + 1, 1, none⟩ = some (.int .i64 d) := y1.cell 1
    have z12 : w9.cell? ⟨w.heap.size + 1, 2, none⟩ = some (.int .i64 ia) := y1.cell 2
    have z13 : w9.cell? ⟨w.heap.size + 1, 3, none⟩ = some (.int .i64 ib) := y1.cell 3
    have z14 : w9.cell? ⟨w.heap.size + 1, 4, none⟩ = some (.int .i64 rel) := y1.cell 4
    have z15 : w9.cell? ⟨w.heap.size + 1, 5, none⟩ = some (.int .i64 ilo) := y1.cell 5
    have z16 : w9.cell? ⟨w.heap.size + 1, 6, none⟩ = some (.int .i64 ihi) := y1.cell 6
    have z17 : w9.cell? ⟨w.heap.size + 1, 7, none⟩ = some (.int .i64 ito) := y1.cell 7
    have z20 : w9.cell? ⟨w.heap.size + 1 + 1, 0, none⟩ = some (.bool on) := y2.cell 0
    have z21 : w9.cell? ⟨w.heap.size + 1 + 1, 1, none⟩ = some (.slice sa sn sc) := y2.cell 1
    have z22 : w9.cell? ⟨w.heap.size + 1 + 1, 2, none⟩ = some (.int .i64 lo) := y2.cell 2
    have z23 : w9.cell? ⟨w.heap.size + 1 + 1, 3, none⟩ = some (.int .i64 hi) := y2.cell 3
    clear y0 y1 y2 hcz hc9 hb0 hb1 hb2 c0 t0 t1 t2 t3 t4 t5 t6 t7 d0 d1 d2 d3
    go_wp2
    refine bodyPost_ret (by simp [results, Tryz.results6, go_sem, z0, z10, z11, z12, z13, z14, z15, z16, z17, z20, z21, z22, z23]; try rfl) rfl ?_
    exact ⟨pa, m, pc, _, ua, un, uc, ss, ⟨op, d, ia, ib, rel, ilo, ihi, ito⟩, k, on, sa, sn, sc, lo, hi, rfl, HPF.out, HUF.out, hun, hk, HSF.out.mono (by omega), HGF.out⟩
end Go.Proofs.YtpmfpgbpndobpaaGreat
