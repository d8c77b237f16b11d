/- The draw of a step. No condition. -/
import Derived.Test.YtcdfomoglkhboaaGreatDoorDrI
namespace Go.Proofs.YtcdfomoglkhboaaGreatDoor
open Go.RowKit
set_option linter.unusedVariables false
set_option linter.unusedSimpArgs false
attribute [local go_sem] dg_cell dg_frozen dg_lt dg_lt1 dg_lt2 dg_ne dg_ne1 dg_ne2 dg_new dg_wen lt_s2 lt_s3 lt_s4 lt_s5 lt_s6

set_option maxRecDepth 100000 in
set_option maxHeartbeats 8000000 in
theorem insG {g P : Nat} {procs size : Int} {w : World} (h : RdLe w g P) (hp : P + 27 ≤ 1099511627776) (hk1 : procs ≤ 1099511627776) (hk2 : size ≤ 1099511627776) :
    Calls Tryz.prog 90 #[.pointer (some ⟨g, 0, none⟩), .int .i64 procs, .int .i64 size] w (RetG IsIns g (P + 27) w) := by
  have lt0 := h.lt
  obtain ⟨ne0, ne1, ne2, ne3, ne4, ne5⟩ : ¬ w.heap.size = g ∧ ¬ w.heap.size + 1 = g ∧ ¬ w.heap.size + 1 + 1 = g ∧ ¬ w.heap.size + 1 + 1 + 1 = g ∧ ¬ w.heap.size + 1 + 1 + 1 + 1 = g ∧ ¬ w.heap.size + 1 + 1 + 1 + 1 + 1 = g := by omega
  have HP := Lib.hid h; clear h
  have n67 : ¬ w.heap.size = w.heap.size + 1 := by omega
  have n76 : ¬ w.heap.size + 1 = w.heap.size := by omega
  have tail : ∀ E, ChgG g w E → RdLe E g (P + 24) → BoxN (w.heap.size) E → BoxN (w.heap.size + 1) E → True := fun _ _ _ _ _ => trivial
  go_enter Tryz.func90, Tryz.ntmps90
  go_wp2_with fail
  refine Calls.mono (pickG (k := 12) (g_rd) ?_ ?_) ?_
  · omega
  · omega
  rintro e w' ⟨v, rfl, ⟨j, rfl, hj⟩, hr, hc⟩
  (first | (obtain ⟨x1, hxx⟩ := extg_col hc hr (dg_gt _); subst hxx) | (obtain ⟨x1, hxx⟩ := extg_of hc hr g_sz; subst hxx))
  clear hc hr
  have hj := hj (by omega)
  have hj12 : j = 0 ∨ j = 1 ∨ j = 2 ∨ j = 3 ∨ j = 4 ∨ j = 5 ∨ j = 6 ∨ j = 7 ∨ j = 8 ∨ j = 9 ∨ j = 10 ∨ j = 11 := by omega
  rcases hj12 with rfl | rfl | rfl | rfl | rfl | rfl | rfl | rfl | rfl | rfl | rfl | rfl
  · go_wp2_with fail
    refine Calls.mono (numG (g_rd) ?_) ?_
    · omega
    rintro e w' ⟨v, rfl, ⟨n, rfl, hn⟩, hr, hc⟩
    (first | (obtain ⟨x19, hxx⟩ := extg_col hc hr (dg_gt _); subst hxx) | (obtain ⟨x19, hxx⟩ := extg_of hc hr g_sz; subst hxx))
    clear hc hr
    go_wp2_with fail
    refine Calls.mono (pickG (k := 4) (g_rd) ?_ ?_) ?_
    · omega
    · omega
    rintro e w' ⟨v, rfl, ⟨p0, rfl, hp0⟩, hr, hc⟩
    (first | (obtain ⟨x2, hxx⟩ := extg_col hc hr (dg_gt _); subst hxx) | (obtain ⟨x2, hxx⟩ := extg_of hc hr g_sz; subst hxx))
    clear hc hr
    have hp0 := hp0 (by omega)
    go_wp2_with fail
    refine calls_gen (g := g) (w := w) (p := P + 24) (w.heap.size) (w.heap.size + 1) (g_chg) (RdLe.mono (g_rd) (by omega)) (g_boxN) (g_boxN) ?_
    intro E hC hP b6 b7
    have l6 := b6.lt
    have l7 := b7.lt
    have f6 := b6.fz
    have f7 := b7.fz
    obtain ⟨u0, u1, u2, u3, u4, u5, u6, u7, c0, c1, c2, c3, c4, c5, c6, c7⟩ := b6.all
    obtain ⟨v0, v1, v2, v3, v4, v5, v6, v7, d0, d1, d2, d3, d4, d5, d6, d7⟩ := b7.all
    have HP2 := Lib.hid hP
    have HC2 := Lib.hid hC
    have B6 := Lib.hid b6
    have B7 := Lib.hid b7
    clear hP hC b6 b7
    refine Calls.mono (oddG (k := 16) HP2.out (by omega) (by omega)) ?_
    rintro e w' ⟨v, rfl, ⟨b, rfl⟩, hr, hc⟩
    have lg := HP2.out.lt
    (first | (obtain ⟨y1, hxx⟩ := extg_col hc hr (dg_gt _); subst hxx) | (obtain ⟨y1, hxx⟩ := extg_of hc hr g_sz; subst hxx))
    clear hc hr
    cases b
    · go_wp2
      refine body_boxN (t := w.heap.size) (by have := B6.out; exact g_boxN) ?_
      rintro E2 hE u0 u1 u2 u3 u4 u5 u6 u7 c0 c1 c2 c3 c4 c5 c6 c7
      refine bodyPost_ret (by simp [results, Tryz.results90, go_sem, c0, c1, c2, c3, c4, c5, c6, c7]; try rfl) rfl ?_
      rw [hE]
      refine ⟨_, rfl, ⟨_, _, _, _, _, _, _, _, rfl⟩, RdLe.mono (g_rd) (by omega), by have := HC2.out; exact g_chg⟩
    · go_wp2_with fail
      refine Calls.mono (pickG (k := size) (g_rd) ?_ ?_) ?_
      · omega
      · omega
      rintro e w' ⟨v, rfl, ⟨q, rfl, hq⟩, hr, hc⟩
      (first | (obtain ⟨y2, hxx⟩ := extg_col hc hr (dg_gt _); subst hxx) | (obtain ⟨y2, hxx⟩ := extg_of hc hr g_sz; subst hxx))
      clear hc hr
      go_wp2
      refine body_boxN (t := w.heap.size) (by have := B6.out; exact g_boxN) ?_
      rintro E2 hE u0 u1 u2 u3 u4 u5 u6 u7 c0 c1 c2 c3 c4 c5 c6 c7
      refine bodyPost_ret (by simp [results, Tryz.results90, go_sem, c0, c1, c2, c3, c4, c5, c6, c7]; try rfl) rfl ?_
      rw [hE]
      refine ⟨_, rfl, ⟨_, _, _, _, _, _, _, _, rfl⟩, RdLe.mono (g_rd) (by omega), by have := HC2.out; exact g_chg⟩
  · go_wp2_with fail
    refine Calls.mono (numG (g_rd) ?_) ?_
    · omega
    rintro e w' ⟨v, rfl, ⟨n, rfl, hn⟩, hr, hc⟩
    (first | (obtain ⟨x20, hxx⟩ := extg_col hc hr (dg_gt _); subst hxx) | (obtain ⟨x20, hxx⟩ := extg_of hc hr g_sz; subst hxx))
    clear hc hr
    go_wp2_with fail
    refine Calls.mono (pickG (k := 4) (g_rd) ?_ ?_) ?_
    · omega
    · omega
    rintro e w' ⟨v, rfl, ⟨p0, rfl, hp0⟩, hr, hc⟩
    (first | (obtain ⟨x3, hxx⟩ := extg_col hc hr (dg_gt _); subst hxx) | (obtain ⟨x3, hxx⟩ := extg_of hc hr g_sz; subst hxx))
    clear hc hr
    have hp0 := hp0 (by omega)
    go_wp2_with fail
    refine calls_gen (g := g) (w := w) (p := P + 24) (w.heap.size) (w.heap.size + 1) (g_chg) (RdLe.mono (g_rd) (by omega)) (g_boxN) (g_boxN) ?_
    intro E hC hP b6 b7
    have l6 := b6.lt
    have l7 := b7.lt
    have f6 := b6.fz
    have f7 := b7.fz
    obtain ⟨u0, u1, u2, u3, u4, u5, u6, u7, c0, c1, c2, c3, c4, c5, c6, c7⟩ := b6.all
    obtain ⟨v0, v1, v2, v3, v4, v5, v6, v7, d0, d1, d2, d3, d4, d5, d6, d7⟩ := b7.all
    have HP2 := Lib.hid hP
    have HC2 := Lib.hid hC
    have B6 := Lib.hid b6
    have B7 := Lib.hid b7
    clear hP hC b6 b7
    refine Calls.mono (oddG (k := 16) HP2.out (by omega) (by omega)) ?_
    rintro e w' ⟨v, rfl, ⟨b, rfl⟩, hr, hc⟩
    have lg := HP2.out.lt
    (first | (obtain ⟨y1, hxx⟩ := extg_col hc hr (dg_gt _); subst hxx) | (obtain ⟨y1, hxx⟩ := extg_of hc hr g_sz; subst hxx))
    clear hc hr
    cases b
    · go_wp2
      refine body_boxN (t := w.heap.size) (by have := B6.out; exact g_boxN) ?_
      rintro E2 hE u0 u1 u2 u3 u4 u5 u6 u7 c0 c1 c2 c3 c4 c5 c6 c7
      refine bodyPost_ret (by simp [results, Tryz.results90, go_sem, c0, c1, c2, c3, c4, c5, c6, c7]; try rfl) rfl ?_
      rw [hE]
      refine ⟨_, rfl, ⟨_, _, _, _, _, _, _, _, rfl⟩, RdLe.mono (g_rd) (by omega), by have := HC2.out; exact g_chg⟩
    · go_wp2_with fail
      refine Calls.mono (pickG (k := size) (g_rd) ?_ ?_) ?_
      · omega
      · omega
      rintro e w' ⟨v, rfl, ⟨q, rfl, hq⟩, hr, hc⟩
      (first | (obtain ⟨y2, hxx⟩ := extg_col hc hr (dg_gt _); subst hxx) | (obtain ⟨y2, hxx⟩ := extg_of hc hr g_sz; subst hxx))
      clear hc hr
      go_wp2
      refine body_boxN (t := w.heap.size) (by have := B6.out; exact g_boxN) ?_
      rintro E2 hE u0 u1 u2 u3 u4 u5 u6 u7 c0 c1 c2 c3 c4 c5 c6 c7
      refine bodyPost_ret (by simp [results, Tryz.results90, go_sem, c0, c1, c2, c3, c4, c5, c6, c7]; try rfl) rfl ?_
      rw [hE]
      refine ⟨_, rfl, ⟨_, _, _, _, _, _, _, _, rfl⟩, RdLe.mono (g_rd) (by omega), by have := HC2.out; exact g_chg⟩
  · go_wp2_with fail
    refine Calls.mono (itvG (n := 99999) (g_rd) ?_ ?_) ?_
    · omega
    · omega
    rintro e w' ⟨v, rfl, ⟨lo, hi, rfl⟩, hr, hc⟩
    (first | (obtain ⟨x9, hxx⟩ := extg_col hc hr (dg_gt _); subst hxx) | (obtain ⟨x9, hxx⟩ := extg_of hc hr g_sz; subst hxx))
    clear hc hr
    go_wp2_with fail
    have hPP : P + 1 + 20 + 1 ≤ 1099511627776 := by omega
    have lb := dg_gt x9
    obtain ⟨b9, hb9⟩ : ∃ b, (extg x9).heap.size = b := ⟨_, rfl⟩
    have l9 := dg_size x9
    simp only [World.size_alloc] at l9
    have n96 : ¬ w.heap.size = b9 := by omega
    have n97 : ¬ w.heap.size + 1 = b9 := by omega
    have n9g : ¬ b9 = g := by omega
    have hJC : ∀ W W', (ChgG g w W ∧ BoxN (w.heap.size) W ∧ BoxN (w.heap.size + 1) W ∧ BoxI b9 W) → ChgG g W W' → (ChgG g w W' ∧ BoxN (w.heap.size) W' ∧ BoxN (w.heap.size + 1) W' ∧ BoxI b9 W') := fun W W' h c => ⟨h.1.trans c, h.2.1.chg c ne0, h.2.2.1.chg c ne1, h.2.2.2.chg c n9g⟩
    rw [hb9]
    refine region_drawL g (P + 1 + 20) 1 103 [0, 1, 0, 0, 0, 0, 0, 0] (fun W => ChgG g w W ∧ BoxN (w.heap.size) W ∧ BoxN (w.heap.size + 1) W ∧ BoxI b9 W) (fun b => b = g ∨ b = w.heap.size + 1)
      [prV (fun v => v = .pointer (some ⟨g, 0, none⟩)), prV (IsNat 4), prV (fun v => v = .pointer (some ⟨b9, 0, none⟩)), prV IsInt, prV (fun v => v = .pointer (some ⟨b9, 1, none⟩)), prV IsInt, prV IsIns, prT]
      (by kernel_rfl) rfl (by kernel_rfl) (by kernel_rfl) (by subst hb9; exact ⟨g_chg, g_boxN, g_boxN, BoxI.drew (BoxI.new _ _)⟩) (g_rd) ⟨?_, ?_, ?_, ?_, ?_, ?_, ?_, ?_, trivial⟩ ?_
    · exact ds_move 0 _ rfl (by kernel_rfl) rfl (fun _ => rfl)
    · exact ds_pick 35 0 4 (fun _ _ => by kernel_rfl) ⟨⟨⟨0, .data⟩, by simp, rfl, by kernel_rfl⟩, by kernel_rfl⟩ (fun _ _ h => h) rfl hPP (by omega) (fun _ _ h => h) hJC (.inl rfl)
    · exact ds_field 9 0 _ _ rfl (by kernel_rfl) rfl (fun W => by kernel_rfl) (fun _ => rfl)
    · exact ds_loadB 37 2 _ rfl ⟨⟨⟨2, .data⟩, by simp, rfl, by kernel_rfl⟩, by kernel_rfl⟩ (fun _ _ h => h) (fun W h => h.2.2.2.get0) (fun _ _ h => h)
    · exact ds_field 9 1 _ _ rfl (by kernel_rfl) rfl (fun W => by kernel_rfl) (fun _ => rfl)
    · exact ds_loadB 39 4 _ rfl ⟨⟨⟨4, .data⟩, by simp, rfl, by kernel_rfl⟩, by kernel_rfl⟩ (fun _ _ h => h) (fun W h => h.2.2.2.get1) (fun _ _ h => h)
    · exact ds_build _ _ rfl (fun a W hf hd => by
          obtain ⟨n1, h1⟩ := isInt_of_nat (dep_of (k := 1) (d := 36) ⟨⟨⟨1, .data⟩, by simp, rfl, by kernel_rfl⟩, by kernel_rfl⟩ hd : IsNat _ _)
          obtain ⟨n5, h5⟩ := (dep_of (k := 3) (d := 38) ⟨⟨⟨3, .data⟩, by simp, rfl, by kernel_rfl⟩, by kernel_rfl⟩ hd : IsInt _)
          obtain ⟨n6, h6⟩ := (dep_of (k := 5) (d := 40) ⟨⟨⟨5, .data⟩, by simp, rfl, by kernel_rfl⟩, by kernel_rfl⟩ hd : IsInt _)
          exact ⟨#[(0, .int .i64 (5)), (1, .int .i64 n1), (5, .int .i64 n5), (6, .int .i64 n6)], by simp [eval_const, h1, h5, h6], .agg #[.int .i64 (5), .int .i64 n1, .int .i64 0, .int .i64 0, .int .i64 0, .int .i64 n5, .int .i64 n6, .int .i64 0], fun W => by kernel_rfl, (5), n1, 0, 0, 0, n5, n6, 0, rfl⟩)
    · exact ds_store8 (w.heap.size + 1) 7 41 6 rfl (by kernel_rfl) rfl ⟨⟨⟨6, .data⟩, by simp, rfl, by kernel_rfl⟩, by kernel_rfl⟩ (fun _ _ h => h) (fun W h => h.2.2.1) (fun W W' y0 y1 y2 y3 y4 y5 y6 y7 h hb hc => ⟨Chg.trans h.1 hc (fun _ _ h => h) (fun i hi e => by omega), h.2.1.chg hc n67, ⟨y0, y1, y2, y3, y4, y5, y6, y7, hb⟩, h.2.2.2.chg hc (fun e => n97 e.symm)⟩) (by omega) (.inr rfl) (fun _ _ => trivial)
    · rintro vs w' ⟨hC, b6, b7, b9⟩ hP hR
      clear hR
      have lg := hP.lt
      simp only [putAll, Act.put, List.setIfInBounds_toArray, List.set_cons_zero, List.set_cons_succ]
      go_wp2_with fail
      refine calls_gen (g := g) (w := w) (p := P + 24) (w.heap.size) (w.heap.size + 1) (g_chg) (RdLe.mono (g_rd) (by omega)) (g_boxN) (g_boxN) ?_
      intro E hC hP b6 b7
      have l6 := b6.lt
      have l7 := b7.lt
      have f6 := b6.fz
      have f7 := b7.fz
      obtain ⟨u0, u1, u2, u3, u4, u5, u6, u7, c0, c1, c2, c3, c4, c5, c6, c7⟩ := b6.all
      obtain ⟨v0, v1, v2, v3, v4, v5, v6, v7, d0, d1, d2, d3, d4, d5, d6, d7⟩ := b7.all
      have HP2 := Lib.hid hP
      have HC2 := Lib.hid hC
      have B6 := Lib.hid b6
      have B7 := Lib.hid b7
      clear hP hC b6 b7
      refine Calls.mono (oddG (k := 16) HP2.out (by omega) (by omega)) ?_
      rintro e w' ⟨v, rfl, ⟨b, rfl⟩, hr, hc⟩
      have lg := HP2.out.lt
      (first | (obtain ⟨y1, hxx⟩ := extg_col hc hr (dg_gt _); subst hxx) | (obtain ⟨y1, hxx⟩ := extg_of hc hr g_sz; subst hxx))
      clear hc hr
      cases b
      · go_wp2
        refine body_boxN (t := w.heap.size) (by have := B6.out; exact g_boxN) ?_
        rintro E2 hE u0 u1 u2 u3 u4 u5 u6 u7 c0 c1 c2 c3 c4 c5 c6 c7
        refine bodyPost_ret (by simp [results, Tryz.results90, go_sem, c0, c1, c2, c3, c4, c5, c6, c7]; try rfl) rfl ?_
        rw [hE]
        refine ⟨_, rfl, ⟨_, _, _, _, _, _, _, _, rfl⟩, RdLe.mono (g_rd) (by omega), by have := HC2.out; exact g_chg⟩
      · go_wp2_with fail
        refine Calls.mono (pickG (k := size) (g_rd) ?_ ?_) ?_
        · omega
        · omega
        rintro e w' ⟨v, rfl, ⟨q, rfl, hq⟩, hr, hc⟩
        (first | (obtain ⟨y2, hxx⟩ := extg_col hc hr (dg_gt _); subst hxx) | (obtain ⟨y2, hxx⟩ := extg_of hc hr g_sz; subst hxx))
        clear hc hr
        go_wp2
        refine body_boxN (t := w.heap.size) (by have := B6.out; exact g_boxN) ?_
        rintro E2 hE u0 u1 u2 u3 u4 u5 u6 u7 c0 c1 c2 c3 c4 c5 c6 c7
        refine bodyPost_ret (by simp [results, Tryz.results90, go_sem, c0, c1, c2, c3, c4, c5, c6, c7]; try rfl) rfl ?_
        rw [hE]
        refine ⟨_, rfl, ⟨_, _, _, _, _, _, _, _, rfl⟩, RdLe.mono (g_rd) (by omega), by have := HC2.out; exact g_chg⟩
  · go_wp2_with fail
    have hPP : P + 1 + 4 ≤ 1099511627776 := by omega
    have hJC : ∀ W W', (ChgG g w W ∧ BoxN (w.heap.size) W ∧ BoxN (w.heap.size + 1) W) → ChgG g W W' → (ChgG g w W' ∧ BoxN (w.heap.size) W' ∧ BoxN (w.heap.size + 1) W') := fun W W' h c => ⟨h.1.trans c, h.2.1.chg c ne0, h.2.2.chg c ne1⟩
    have hJA : ∀ W o, (ChgG g w W ∧ BoxN (w.heap.size) W ∧ BoxN (w.heap.size + 1) W) → (ChgG g w (W.alloc o) ∧ BoxN (w.heap.size) (W.alloc o) ∧ BoxN (w.heap.size + 1) (W.alloc o)) := fun W o h => ⟨chg_al h.1 o, h.2.1.al o, h.2.2.al o⟩
    have hFJ : ∀ W, (ChgG g w W ∧ BoxN (w.heap.size) W ∧ BoxN (w.heap.size + 1) W) → ∀ b, (b = g ∨ b = w.heap.size + 1) → b < W.heap.size := fun W h b hb => by have := h.2.2.lt; rcases hb with rfl | rfl <;> omega
    refine region_drawX 4 103 [0, 0, 1, 0, 0, 0, 1, 0, 1, 0, 1, 0, 0] (fun W => ChgG g w W ∧ BoxN (w.heap.size) W ∧ BoxN (w.heap.size + 1) W) (fun b => b = g ∨ b = w.heap.size + 1)
      [prSl 5, prV (fun v => v = .pointer (some ⟨g, 0, none⟩)), prV (IsNat 5), prPt, prV IsInt, prV (fun v => v = .pointer (some ⟨g, 0, none⟩)), prV (IsNat 4), prV (fun v => v = .pointer (some ⟨g, 0, none⟩)), prV (IsNat 4), prV (fun v => v = .pointer (some ⟨g, 0, none⟩)), prV (IsNat 4), prV IsIns, prT]
      (by kernel_rfl) rfl (by kernel_rfl) (by kernel_rfl) (⟨g_chg, g_boxN, g_boxN⟩) ⟨?_, ?_, ?_, ?_, ?_, ?_, ?_, ?_, ?_, ?_, ?_, ?_, ?_, trivial⟩ ?_
    · exact ds_lit 3 [1, 1, 2, 3, 4] (fun a W => by kernel_rfl) (fun _ _ h => h) hJA hFJ
    · exact ds_move 0 _ rfl (by kernel_rfl) rfl (fun _ => rfl)
    · exact ds_pick 47 1 5 (fun _ _ => by kernel_rfl) ⟨⟨⟨1, .data⟩, by simp, rfl, by kernel_rfl⟩, by kernel_rfl⟩ (fun _ _ h => h) rfl hPP (by omega) (fun _ _ h => h) hJC (.inl rfl)
    · exact ds_index 46 48 0 2 5 rfl ⟨⟨⟨0, .data⟩, by simp, rfl, by kernel_rfl⟩, by kernel_rfl⟩ ⟨⟨⟨2, .data⟩, by simp, rfl, by kernel_rfl⟩, by kernel_rfl⟩ (fun _ _ h => h) (fun _ _ h => h) (by omega) (by omega) (fun _ _ h => h)
    · exact ds_load 49 3 rfl ⟨⟨⟨3, .data⟩, by simp, rfl, by kernel_rfl⟩, by kernel_rfl⟩ (fun _ _ h => h) (fun _ _ h => h)
    · exact ds_move 0 _ rfl (by kernel_rfl) rfl (fun _ => rfl)
    · exact ds_pick 51 5 4 (fun _ _ => by kernel_rfl) ⟨⟨⟨5, .data⟩, by simp, rfl, by kernel_rfl⟩, by kernel_rfl⟩ (fun _ _ h => h) rfl hPP (by omega) (fun _ _ h => h) hJC (.inl rfl)
    · exact ds_move 0 _ rfl (by kernel_rfl) rfl (fun _ => rfl)
    · exact ds_pick 53 7 4 (fun _ _ => by kernel_rfl) ⟨⟨⟨7, .data⟩, by simp, rfl, by kernel_rfl⟩, by kernel_rfl⟩ (fun _ _ h => h) rfl hPP (by omega) (fun _ _ h => h) hJC (.inl rfl)
    · exact ds_move 0 _ rfl (by kernel_rfl) rfl (fun _ => rfl)
    · exact ds_pick 55 9 4 (fun _ _ => by kernel_rfl) ⟨⟨⟨9, .data⟩, by simp, rfl, by kernel_rfl⟩, by kernel_rfl⟩ (fun _ _ h => h) rfl hPP (by omega) (fun _ _ h => h) hJC (.inl rfl)
    · exact ds_build _ _ rfl (fun a W hf hd => by
          obtain ⟨n0, h0⟩ := (dep_of (k := 4) (d := 50) ⟨⟨⟨4, .data⟩, by simp, rfl, by kernel_rfl⟩, by kernel_rfl⟩ hd : IsInt _)
          obtain ⟨n1, h1⟩ := isInt_of_nat (dep_of (k := 6) (d := 52) ⟨⟨⟨6, .data⟩, by simp, rfl, by kernel_rfl⟩, by kernel_rfl⟩ hd : IsNat _ _)
          obtain ⟨n2, h2⟩ := isInt_of_nat (dep_of (k := 8) (d := 54) ⟨⟨⟨8, .data⟩, by simp, rfl, by kernel_rfl⟩, by kernel_rfl⟩ hd : IsNat _ _)
          obtain ⟨n3, h3⟩ := isInt_of_nat (dep_of (k := 10) (d := 56) ⟨⟨⟨10, .data⟩, by simp, rfl, by kernel_rfl⟩, by kernel_rfl⟩ hd : IsNat _ _)
          exact ⟨#[(0, .int .i64 n0), (1, .int .i64 n1), (2, .int .i64 n2), (3, .int .i64 n3)], by simp [eval_const, h0, h1, h2, h3], .agg #[.int .i64 n0, .int .i64 n1, .int .i64 n2, .int .i64 n3, .int .i64 0, .int .i64 0, .int .i64 0, .int .i64 0], fun W => by kernel_rfl, n0, n1, n2, n3, 0, 0, 0, 0, rfl⟩)
    · exact ds_store8 (w.heap.size + 1) 7 57 11 rfl (by kernel_rfl) rfl ⟨⟨⟨11, .data⟩, by simp, rfl, by kernel_rfl⟩, by kernel_rfl⟩ (fun _ _ h => h) (fun W h => h.2.2) (fun W W' y0 y1 y2 y3 y4 y5 y6 y7 h hb hc => ⟨Chg.trans h.1 hc (fun _ _ h => h) (fun i hi e => by omega), h.2.1.chg hc n67, ⟨y0, y1, y2, y3, y4, y5, y6, y7, hb⟩⟩) (by omega) (.inr rfl) (fun _ _ => trivial)
    · rintro vs w' ⟨hC, b6, b7⟩ hP hR
      clear hR
      have lg := hP.lt
      simp only [putAll, Act.put, List.setIfInBounds_toArray, List.set_cons_zero, List.set_cons_succ]
      go_wp2_with fail
      refine calls_gen (g := g) (w := w) (p := P + 24) (w.heap.size) (w.heap.size + 1) (g_chg) (RdLe.mono (g_rd) (by omega)) (g_boxN) (g_boxN) ?_
      intro E hC hP b6 b7
      have l6 := b6.lt
      have l7 := b7.lt
      have f6 := b6.fz
      have f7 := b7.fz
      obtain ⟨u0, u1, u2, u3, u4, u5, u6, u7, c0, c1, c2, c3, c4, c5, c6, c7⟩ := b6.all
      obtain ⟨v0, v1, v2, v3, v4, v5, v6, v7, d0, d1, d2, d3, d4, d5, d6, d7⟩ := b7.all
      have HP2 := Lib.hid hP
      have HC2 := Lib.hid hC
      have B6 := Lib.hid b6
      have B7 := Lib.hid b7
      clear hP hC b6 b7
      refine Calls.mono (oddG (k := 16) HP2.out (by omega) (by omega)) ?_
      rintro e w' ⟨v, rfl, ⟨b, rfl⟩, hr, hc⟩
      have lg := HP2.out.lt
      (first | (obtain ⟨y1, hxx⟩ := extg_col hc hr (dg_gt _); subst hxx) | (obtain ⟨y1, hxx⟩ := extg_of hc hr g_sz; subst hxx))
      clear hc hr
      cases b
      · go_wp2
        refine body_boxN (t := w.heap.size) (by have := B6.out; exact g_boxN) ?_
        rintro E2 hE u0 u1 u2 u3 u4 u5 u6 u7 c0 c1 c2 c3 c4 c5 c6 c7
        refine bodyPost_ret (by simp [results, Tryz.results90, go_sem, c0, c1, c2, c3, c4, c5, c6, c7]; try rfl) rfl ?_
        rw [hE]
        refine ⟨_, rfl, ⟨_, _, _, _, _, _, _, _, rfl⟩, RdLe.mono (g_rd) (by omega), by have := HC2.out; exact g_chg⟩
      · go_wp2_with fail
        refine Calls.mono (pickG (k := size) (g_rd) ?_ ?_) ?_
        · omega
        · omega
        rintro e w' ⟨v, rfl, ⟨q, rfl, hq⟩, hr, hc⟩
        (first | (obtain ⟨y2, hxx⟩ := extg_col hc hr (dg_gt _); subst hxx) | (obtain ⟨y2, hxx⟩ := extg_of hc hr g_sz; subst hxx))
        clear hc hr
        go_wp2
        refine body_boxN (t := w.heap.size) (by have := B6.out; exact g_boxN) ?_
        rintro E2 hE u0 u1 u2 u3 u4 u5 u6 u7 c0 c1 c2 c3 c4 c5 c6 c7
        refine bodyPost_ret (by simp [results, Tryz.results90, go_sem, c0, c1, c2, c3, c4, c5, c6, c7]; try rfl) rfl ?_
        rw [hE]
        refine ⟨_, rfl, ⟨_, _, _, _, _, _, _, _, rfl⟩, RdLe.mono (g_rd) (by omega), by have := HC2.out; exact g_chg⟩
  · go_wp2_with fail
    have hPP : P + 1 + 4 ≤ 1099511627776 := by omega
    have hJC : ∀ W W', (ChgG g w W ∧ BoxN (w.heap.size) W ∧ BoxN (w.heap.size + 1) W) → ChgG g W W' → (ChgG g w W' ∧ BoxN (w.heap.size) W' ∧ BoxN (w.heap.size + 1) W') := fun W W' h c => ⟨h.1.trans c, h.2.1.chg c ne0, h.2.2.chg c ne1⟩
    have hJA : ∀ W o, (ChgG g w W ∧ BoxN (w.heap.size) W ∧ BoxN (w.heap.size + 1) W) → (ChgG g w (W.alloc o) ∧ BoxN (w.heap.size) (W.alloc o) ∧ BoxN (w.heap.size + 1) (W.alloc o)) := fun W o h => ⟨chg_al h.1 o, h.2.1.al o, h.2.2.al o⟩
    have hFJ : ∀ W, (ChgG g w W ∧ BoxN (w.heap.size) W ∧ BoxN (w.heap.size + 1) W) → ∀ b, (b = g ∨ b = w.heap.size + 1) → b < W.heap.size := fun W h b hb => by have := h.2.2.lt; rcases hb with rfl | rfl <;> omega
    refine region_drawX 4 103 [0, 0, 1, 0, 0, 0, 1, 0, 1, 0, 1, 0, 0] (fun W => ChgG g w W ∧ BoxN (w.heap.size) W ∧ BoxN (w.heap.size + 1) W) (fun b => b = g ∨ b = w.heap.size + 1)
      [prSl 5, prV (fun v => v = .pointer (some ⟨g, 0, none⟩)), prV (IsNat 5), prPt, prV IsInt, prV (fun v => v = .pointer (some ⟨g, 0, none⟩)), prV (IsNat 4), prV (fun v => v = .pointer (some ⟨g, 0, none⟩)), prV (IsNat 4), prV (fun v => v = .pointer (some ⟨g, 0, none⟩)), prV (IsNat 4), prV IsIns, prT]
      (by kernel_rfl) rfl (by kernel_rfl) (by kernel_rfl) (⟨g_chg, g_boxN, g_boxN⟩) ⟨?_, ?_, ?_, ?_, ?_, ?_, ?_, ?_, ?_, ?_, ?_, ?_, ?_, trivial⟩ ?_
    · exact ds_lit 3 [1, 1, 2, 3, 4] (fun a W => by kernel_rfl) (fun _ _ h => h) hJA hFJ
    · exact ds_move 0 _ rfl (by kernel_rfl) rfl (fun _ => rfl)
    · exact ds_pick 47 1 5 (fun _ _ => by kernel_rfl) ⟨⟨⟨1, .data⟩, by simp, rfl, by kernel_rfl⟩, by kernel_rfl⟩ (fun _ _ h => h) rfl hPP (by omega) (fun _ _ h => h) hJC (.inl rfl)
    · exact ds_index 46 48 0 2 5 rfl ⟨⟨⟨0, .data⟩, by simp, rfl, by kernel_rfl⟩, by kernel_rfl⟩ ⟨⟨⟨2, .data⟩, by simp, rfl, by kernel_rfl⟩, by kernel_rfl⟩ (fun _ _ h => h) (fun _ _ h => h) (by omega) (by omega) (fun _ _ h => h)
    · exact ds_load 49 3 rfl ⟨⟨⟨3, .data⟩, by simp, rfl, by kernel_rfl⟩, by kernel_rfl⟩ (fun _ _ h => h) (fun _ _ h => h)
    · exact ds_move 0 _ rfl (by kernel_rfl) rfl (fun _ => rfl)
    · exact ds_pick 51 5 4 (fun _ _ => by kernel_rfl) ⟨⟨⟨5, .data⟩, by simp, rfl, by kernel_rfl⟩, by kernel_rfl⟩ (fun _ _ h => h) rfl hPP (by omega) (fun _ _ h => h) hJC (.inl rfl)
    · exact ds_move 0 _ rfl (by kernel_rfl) rfl (fun _ => rfl)
    · exact ds_pick 53 7 4 (fun _ _ => by kernel_rfl) ⟨⟨⟨7, .data⟩, by simp, rfl, by kernel_rfl⟩, by kernel_rfl⟩ (fun _ _ h => h) rfl hPP (by omega) (fun _ _ h => h) hJC (.inl rfl)
    · exact ds_move 0 _ rfl (by kernel_rfl) rfl (fun _ => rfl)
    · exact ds_pick 55 9 4 (fun _ _ => by kernel_rfl) ⟨⟨⟨9, .data⟩, by simp, rfl, by kernel_rfl⟩, by kernel_rfl⟩ (fun _ _ h => h) rfl hPP (by omega) (fun _ _ h => h) hJC (.inl rfl)
    · exact ds_build _ _ rfl (fun a W hf hd => by
          obtain ⟨n0, h0⟩ := (dep_of (k := 4) (d := 50) ⟨⟨⟨4, .data⟩, by simp, rfl, by kernel_rfl⟩, by kernel_rfl⟩ hd : IsInt _)
          obtain ⟨n1, h1⟩ := isInt_of_nat (dep_of (k := 6) (d := 52) ⟨⟨⟨6, .data⟩, by simp, rfl, by kernel_rfl⟩, by kernel_rfl⟩ hd : IsNat _ _)
          obtain ⟨n2, h2⟩ := isInt_of_nat (dep_of (k := 8) (d := 54) ⟨⟨⟨8, .data⟩, by simp, rfl, by kernel_rfl⟩, by kernel_rfl⟩ hd : IsNat _ _)
          obtain ⟨n3, h3⟩ := isInt_of_nat (dep_of (k := 10) (d := 56) ⟨⟨⟨10, .data⟩, by simp, rfl, by kernel_rfl⟩, by kernel_rfl⟩ hd : IsNat _ _)
          exact ⟨#[(0, .int .i64 n0), (1, .int .i64 n1), (2, .int .i64 n2), (3, .int .i64 n3)], by simp [eval_const, h0, h1, h2, h3], .agg #[.int .i64 n0, .int .i64 n1, .int .i64 n2, .int .i64 n3, .int .i64 0, .int .i64 0, .int .i64 0, .int .i64 0], fun W => by kernel_rfl, n0, n1, n2, n3, 0, 0, 0, 0, rfl⟩)
    · exact ds_store8 (w.heap.size + 1) 7 57 11 rfl (by kernel_rfl) rfl ⟨⟨⟨11, .data⟩, by simp, rfl, by kernel_rfl⟩, by kernel_rfl⟩ (fun _ _ h => h) (fun W h => h.2.2) (fun W W' y0 y1 y2 y3 y4 y5 y6 y7 h hb hc => ⟨Chg.trans h.1 hc (fun _ _ h => h) (fun i hi e => by omega), h.2.1.chg hc n67, ⟨y0, y1, y2, y3, y4, y5, y6, y7, hb⟩⟩) (by omega) (.inr rfl) (fun _ _ => trivial)
    · rintro vs w' ⟨hC, b6, b7⟩ hP hR
      clear hR
      have lg := hP.lt
      simp only [putAll, Act.put, List.setIfInBounds_toArray, List.set_cons_zero, List.set_cons_succ]
      go_wp2_with fail
      refine calls_gen (g := g) (w := w) (p := P + 24) (w.heap.size) (w.heap.size + 1) (g_chg) (RdLe.mono (g_rd) (by omega)) (g_boxN) (g_boxN) ?_
      intro E hC hP b6 b7
      have l6 := b6.lt
      have l7 := b7.lt
      have f6 := b6.fz
      have f7 := b7.fz
      obtain ⟨u0, u1, u2, u3, u4, u5, u6, u7, c0, c1, c2, c3, c4, c5, c6, c7⟩ := b6.all
      obtain ⟨v0, v1, v2, v3, v4, v5, v6, v7, d0, d1, d2, d3, d4, d5, d6, d7⟩ := b7.all
      have HP2 := Lib.hid hP
      have HC2 := Lib.hid hC
      have B6 := Lib.hid b6
      have B7 := Lib.hid b7
      clear hP hC b6 b7
      refine Calls.mono (oddG (k := 16) HP2.out (by omega) (by omega)) ?_
      rintro e w' ⟨v, rfl, ⟨b, rfl⟩, hr, hc⟩
      have lg := HP2.out.lt
      (first | (obtain ⟨y1, hxx⟩ := extg_col hc hr (dg_gt _); subst hxx) | (obtain ⟨y1, hxx⟩ := extg_of hc hr g_sz; subst hxx))
      clear hc hr
      cases b
      · go_wp2
        refine body_boxN (t := w.heap.size) (by have := B6.out; exact g_boxN) ?_
        rintro E2 hE u0 u1 u2 u3 u4 u5 u6 u7 c0 c1 c2 c3 c4 c5 c6 c7
        refine bodyPost_ret (by simp [results, Tryz.results90, go_sem, c0, c1, c2, c3, c4, c5, c6, c7]; try rfl) rfl ?_
        rw [hE]
        refine ⟨_, rfl, ⟨_, _, _, _, _, _, _, _, rfl⟩, RdLe.mono (g_rd) (by omega), by have := HC2.out; exact g_chg⟩
      · go_wp2_with fail
        refine Calls.mono (pickG (k := size) (g_rd) ?_ ?_) ?_
        · omega
        · omega
        rintro e w' ⟨v, rfl, ⟨q, rfl, hq⟩, hr, hc⟩
        (first | (obtain ⟨y2, hxx⟩ := extg_col hc hr (dg_gt _); subst hxx) | (obtain ⟨y2, hxx⟩ := extg_of hc hr g_sz; subst hxx))
        clear hc hr
        go_wp2
        refine body_boxN (t := w.heap.size) (by have := B6.out; exact g_boxN) ?_
        rintro E2 hE u0 u1 u2 u3 u4 u5 u6 u7 c0 c1 c2 c3 c4 c5 c6 c7
        refine bodyPost_ret (by simp [results, Tryz.results90, go_sem, c0, c1, c2, c3, c4, c5, c6, c7]; try rfl) rfl ?_
        rw [hE]
        refine ⟨_, rfl, ⟨_, _, _, _, _, _, _, _, rfl⟩, RdLe.mono (g_rd) (by omega), by have := HC2.out; exact g_chg⟩
  · go_wp2_with fail
    have hPP : P + 1 + 4 ≤ 1099511627776 := by omega
    have hJC : ∀ W W', (ChgG g w W ∧ BoxN (w.heap.size) W ∧ BoxN (w.heap.size + 1) W) → ChgG g W W' → (ChgG g w W' ∧ BoxN (w.heap.size) W' ∧ BoxN (w.heap.size + 1) W') := fun W W' h c => ⟨h.1.trans c, h.2.1.chg c ne0, h.2.2.chg c ne1⟩
    have hJA : ∀ W o, (ChgG g w W ∧ BoxN (w.heap.size) W ∧ BoxN (w.heap.size + 1) W) → (ChgG g w (W.alloc o) ∧ BoxN (w.heap.size) (W.alloc o) ∧ BoxN (w.heap.size + 1) (W.alloc o)) := fun W o h => ⟨chg_al h.1 o, h.2.1.al o, h.2.2.al o⟩
    have hFJ : ∀ W, (ChgG g w W ∧ BoxN (w.heap.size) W ∧ BoxN (w.heap.size + 1) W) → ∀ b, (b = g ∨ b = w.heap.size + 1) → b < W.heap.size := fun W h b hb => by have := h.2.2.lt; rcases hb with rfl | rfl <;> omega
    refine region_drawX 4 103 [0, 0, 1, 0, 0, 0, 1, 0, 1, 0, 1, 0, 0] (fun W => ChgG g w W ∧ BoxN (w.heap.size) W ∧ BoxN (w.heap.size + 1) W) (fun b => b = g ∨ b = w.heap.size + 1)
      [prSl 5, prV (fun v => v = .pointer (some ⟨g, 0, none⟩)), prV (IsNat 5), prPt, prV IsInt, prV (fun v => v = .pointer (some ⟨g, 0, none⟩)), prV (IsNat 4), prV (fun v => v = .pointer (some ⟨g, 0, none⟩)), prV (IsNat 4), prV (fun v => v = .pointer (some ⟨g, 0, none⟩)), prV (IsNat 4), prV IsIns, prT]
      (by kernel_rfl) rfl (by kernel_rfl) (by kernel_rfl) (⟨g_chg, g_boxN, g_boxN⟩) ⟨?_, ?_, ?_, ?_, ?_, ?_, ?_, ?_, ?_, ?_, ?_, ?_, ?_, trivial⟩ ?_
    · exact ds_lit 3 [1, 1, 2, 3, 4] (fun a W => by kernel_rfl) (fun _ _ h => h) hJA hFJ
    · exact ds_move 0 _ rfl (by kernel_rfl) rfl (fun _ => rfl)
    · exact ds_pick 47 1 5 (fun _ _ => by kernel_rfl) ⟨⟨⟨1, .data⟩, by simp, rfl, by kernel_rfl⟩, by kernel_rfl⟩ (fun _ _ h => h) rfl hPP (by omega) (fun _ _ h => h) hJC (.inl rfl)
    · exact ds_index 46 48 0 2 5 rfl ⟨⟨⟨0, .data⟩, by simp, rfl, by kernel_rfl⟩, by kernel_rfl⟩ ⟨⟨⟨2, .data⟩, by simp, rfl, by kernel_rfl⟩, by kernel_rfl⟩ (fun _ _ h => h) (fun _ _ h => h) (by omega) (by omega) (fun _ _ h => h)
    · exact ds_load 49 3 rfl ⟨⟨⟨3, .data⟩, by simp, rfl, by kernel_rfl⟩, by kernel_rfl⟩ (fun _ _ h => h) (fun _ _ h => h)
    · exact ds_move 0 _ rfl (by kernel_rfl) rfl (fun _ => rfl)
    · exact ds_pick 51 5 4 (fun _ _ => by kernel_rfl) ⟨⟨⟨5, .data⟩, by simp, rfl, by kernel_rfl⟩, by kernel_rfl⟩ (fun _ _ h => h) rfl hPP (by omega) (fun _ _ h => h) hJC (.inl rfl)
    · exact ds_move 0 _ rfl (by kernel_rfl) rfl (fun _ => rfl)
    · exact ds_pick 53 7 4 (fun _ _ => by kernel_rfl) ⟨⟨⟨7, .data⟩, by simp, rfl, by kernel_rfl⟩, by kernel_rfl⟩ (fun _ _ h => h) rfl hPP (by omega) (fun _ _ h => h) hJC (.inl rfl)
    · exact ds_move 0 _ rfl (by kernel_rfl) rfl (fun _ => rfl)
    · exact ds_pick 55 9 4 (fun _ _ => by kernel_rfl) ⟨⟨⟨9, .data⟩, by simp, rfl, by kernel_rfl⟩, by kernel_rfl⟩ (fun _ _ h => h) rfl hPP (by omega) (fun _ _ h => h) hJC (.inl rfl)
    · exact ds_build _ _ rfl (fun a W hf hd => by
          obtain ⟨n0, h0⟩ := (dep_of (k := 4) (d := 50) ⟨⟨⟨4, .data⟩, by simp, rfl, by kernel_rfl⟩, by kernel_rfl⟩ hd : IsInt _)
          obtain ⟨n1, h1⟩ := isInt_of_nat (dep_of (k := 6) (d := 52) ⟨⟨⟨6, .data⟩, by simp, rfl, by kernel_rfl⟩, by kernel_rfl⟩ hd : IsNat _ _)
          obtain ⟨n2, h2⟩ := isInt_of_nat (dep_of (k := 8) (d := 54) ⟨⟨⟨8, .data⟩, by simp, rfl, by kernel_rfl⟩, by kernel_rfl⟩ hd : IsNat _ _)
          obtain ⟨n3, h3⟩ := isInt_of_nat (dep_of (k := 10) (d := 56) ⟨⟨⟨10, .data⟩, by simp, rfl, by kernel_rfl⟩, by kernel_rfl⟩ hd : IsNat _ _)
          exact ⟨#[(0, .int .i64 n0), (1, .int .i64 n1), (2, .int .i64 n2), (3, .int .i64 n3)], by simp [eval_const, h0, h1, h2, h3], .agg #[.int .i64 n0, .int .i64 n1, .int .i64 n2, .int .i64 n3, .int .i64 0, .int .i64 0, .int .i64 0, .int .i64 0], fun W => by kernel_rfl, n0, n1, n2, n3, 0, 0, 0, 0, rfl⟩)
    · exact ds_store8 (w.heap.size + 1) 7 57 11 rfl (by kernel_rfl) rfl ⟨⟨⟨11, .data⟩, by simp, rfl, by kernel_rfl⟩, by kernel_rfl⟩ (fun _ _ h => h) (fun W h => h.2.2) (fun W W' y0 y1 y2 y3 y4 y5 y6 y7 h hb hc => ⟨Chg.trans h.1 hc (fun _ _ h => h) (fun i hi e => by omega), h.2.1.chg hc n67, ⟨y0, y1, y2, y3, y4, y5, y6, y7, hb⟩⟩) (by omega) (.inr rfl) (fun _ _ => trivial)
    · rintro vs w' ⟨hC, b6, b7⟩ hP hR
      clear hR
      have lg := hP.lt
      simp only [putAll, Act.put, List.setIfInBounds_toArray, List.set_cons_zero, List.set_cons_succ]
      go_wp2_with fail
      refine calls_gen (g := g) (w := w) (p := P + 24) (w.heap.size) (w.heap.size + 1) (g_chg) (RdLe.mono (g_rd) (by omega)) (g_boxN) (g_boxN) ?_
      intro E hC hP b6 b7
      have l6 := b6.lt
      have l7 := b7.lt
      have f6 := b6.fz
      have f7 := b7.fz
      obtain ⟨u0, u1, u2, u3, u4, u5, u6, u7, c0, c1, c2, c3, c4, c5, c6, c7⟩ := b6.all
      obtain ⟨v0, v1, v2, v3, v4, v5, v6, v7, d0, d1, d2, d3, d4, d5, d6, d7⟩ := b7.all
      have HP2 := Lib.hid hP
      have HC2 := Lib.hid hC
      have B6 := Lib.hid b6
      have B7 := Lib.hid b7
      clear hP hC b6 b7
      refine Calls.mono (oddG (k := 16) HP2.out (by omega) (by omega)) ?_
      rintro e w' ⟨v, rfl, ⟨b, rfl⟩, hr, hc⟩
      have lg := HP2.out.lt
      (first | (obtain ⟨y1, hxx⟩ := extg_col hc hr (dg_gt _); subst hxx) | (obtain ⟨y1, hxx⟩ := extg_of hc hr g_sz; subst hxx))
      clear hc hr
      cases b
      · go_wp2
        refine body_boxN (t := w.heap.size) (by have := B6.out; exact g_boxN) ?_
        rintro E2 hE u0 u1 u2 u3 u4 u5 u6 u7 c0 c1 c2 c3 c4 c5 c6 c7
        refine bodyPost_ret (by simp [results, Tryz.results90, go_sem, c0, c1, c2, c3, c4, c5, c6, c7]; try rfl) rfl ?_
        rw [hE]
        refine ⟨_, rfl, ⟨_, _, _, _, _, _, _, _, rfl⟩, RdLe.mono (g_rd) (by omega), by have := HC2.out; exact g_chg⟩
      · go_wp2_with fail
        refine Calls.mono (pickG (k := size) (g_rd) ?_ ?_) ?_
        · omega
        · omega
        rintro e w' ⟨v, rfl, ⟨q, rfl, hq⟩, hr, hc⟩
        (first | (obtain ⟨y2, hxx⟩ := extg_col hc hr (dg_gt _); subst hxx) | (obtain ⟨y2, hxx⟩ := extg_of hc hr g_sz; subst hxx))
        clear hc hr
        go_wp2
        refine body_boxN (t := w.heap.size) (by have := B6.out; exact g_boxN) ?_
        rintro E2 hE u0 u1 u2 u3 u4 u5 u6 u7 c0 c1 c2 c3 c4 c5 c6 c7
        refine bodyPost_ret (by simp [results, Tryz.results90, go_sem, c0, c1, c2, c3, c4, c5, c6, c7]; try rfl) rfl ?_
        rw [hE]
        refine ⟨_, rfl, ⟨_, _, _, _, _, _, _, _, rfl⟩, RdLe.mono (g_rd) (by omega), by have := HC2.out; exact g_chg⟩
  · go_wp2_with fail
    refine Calls.mono (pickG (k := 4) (g_rd) ?_ ?_) ?_
    · omega
    · omega
    rintro e w' ⟨v, rfl, ⟨p0, rfl, hp0⟩, hr, hc⟩
    (first | (obtain ⟨x4, hxx⟩ := extg_col hc hr (dg_gt _); subst hxx) | (obtain ⟨x4, hxx⟩ := extg_of hc hr g_sz; subst hxx))
    clear hc hr
    have hp0 := hp0 (by omega)
    go_wp2_with fail
    refine Calls.mono (pickG (k := 4) (g_rd) ?_ ?_) ?_
    · omega
    · omega
    rintro e w' ⟨v, rfl, ⟨p1, rfl, hp1⟩, hr, hc⟩
    (first | (obtain ⟨x5, hxx⟩ := extg_col hc hr (dg_gt _); subst hxx) | (obtain ⟨x5, hxx⟩ := extg_of hc hr g_sz; subst hxx))
    clear hc hr
    have hp1 := hp1 (by omega)
    go_wp2_with fail
    refine calls_gen (g := g) (w := w) (p := P + 24) (w.heap.size) (w.heap.size + 1) (g_chg) (RdLe.mono (g_rd) (by omega)) (g_boxN) (g_boxN) ?_
    intro E hC hP b6 b7
    have l6 := b6.lt
    have l7 := b7.lt
    have f6 := b6.fz
    have f7 := b7.fz
    obtain ⟨u0, u1, u2, u3, u4, u5, u6, u7, c0, c1, c2, c3, c4, c5, c6, c7⟩ := b6.all
    obtain ⟨v0, v1, v2, v3, v4, v5, v6, v7, d0, d1, d2, d3, d4, d5, d6, d7⟩ := b7.all
    have HP2 := Lib.hid hP
    have HC2 := Lib.hid hC
    have B6 := Lib.hid b6
    have B7 := Lib.hid b7
    clear hP hC b6 b7
    refine Calls.mono (oddG (k := 16) HP2.out (by omega) (by omega)) ?_
    rintro e w' ⟨v, rfl, ⟨b, rfl⟩, hr, hc⟩
    have lg := HP2.out.lt
    (first | (obtain ⟨y1, hxx⟩ := extg_col hc hr (dg_gt _); subst hxx) | (obtain ⟨y1, hxx⟩ := extg_of hc hr g_sz; subst hxx))
    clear hc hr
    cases b
    · go_wp2
      refine body_boxN (t := w.heap.size) (by have := B6.out; exact g_boxN) ?_
      rintro E2 hE u0 u1 u2 u3 u4 u5 u6 u7 c0 c1 c2 c3 c4 c5 c6 c7
      refine bodyPost_ret (by simp [results, Tryz.results90, go_sem, c0, c1, c2, c3, c4, c5, c6, c7]; try rfl) rfl ?_
      rw [hE]
      refine ⟨_, rfl, ⟨_, _, _, _, _, _, _, _, rfl⟩, RdLe.mono (g_rd) (by omega), by have := HC2.out; exact g_chg⟩
    · go_wp2_with fail
      refine Calls.mono (pickG (k := size) (g_rd) ?_ ?_) ?_
      · omega
      · omega
      rintro e w' ⟨v, rfl, ⟨q, rfl, hq⟩, hr, hc⟩
      (first | (obtain ⟨y2, hxx⟩ := extg_col hc hr (dg_gt _); subst hxx) | (obtain ⟨y2, hxx⟩ := extg_of hc hr g_sz; subst hxx))
      clear hc hr
      go_wp2
      refine body_boxN (t := w.heap.size) (by have := B6.out; exact g_boxN) ?_
      rintro E2 hE u0 u1 u2 u3 u4 u5 u6 u7 c0 c1 c2 c3 c4 c5 c6 c7
      refine bodyPost_ret (by simp [results, Tryz.results90, go_sem, c0, c1, c2, c3, c4, c5, c6, c7]; try rfl) rfl ?_
      rw [hE]
      refine ⟨_, rfl, ⟨_, _, _, _, _, _, _, _, rfl⟩, RdLe.mono (g_rd) (by omega), by have := HC2.out; exact g_chg⟩
  · go_wp2_with fail
    refine Calls.mono (pickG (k := 4) (g_rd) ?_ ?_) ?_
    · omega
    · omega
    rintro e w' ⟨v, rfl, ⟨p0, rfl, hp0⟩, hr, hc⟩
    (first | (obtain ⟨x6, hxx⟩ := extg_col hc hr (dg_gt _); subst hxx) | (obtain ⟨x6, hxx⟩ := extg_of hc hr g_sz; subst hxx))
    clear hc hr
    have hp0 := hp0 (by omega)
    go_wp2_with fail
    refine Calls.mono (pickG (k := 4) (g_rd) ?_ ?_) ?_
    · omega
    · omega
    rintro e w' ⟨v, rfl, ⟨p1, rfl, hp1⟩, hr, hc⟩
    (first | (obtain ⟨x7, hxx⟩ := extg_col hc hr (dg_gt _); subst hxx) | (obtain ⟨x7, hxx⟩ := extg_of hc hr g_sz; subst hxx))
    clear hc hr
    have hp1 := hp1 (by omega)
    go_wp2_with fail
    refine calls_gen (g := g) (w := w) (p := P + 24) (w.heap.size) (w.heap.size + 1) (g_chg) (RdLe.mono (g_rd) (by omega)) (g_boxN) (g_boxN) ?_
    intro E hC hP b6 b7
    have l6 := b6.lt
    have l7 := b7.lt
    have f6 := b6.fz
    have f7 := b7.fz
    obtain ⟨u0, u1, u2, u3, u4, u5, u6, u7, c0, c1, c2, c3, c4, c5, c6, c7⟩ := b6.all
    obtain ⟨v0, v1, v2, v3, v4, v5, v6, v7, d0, d1, d2, d3, d4, d5, d6, d7⟩ := b7.all
    have HP2 := Lib.hid hP
    have HC2 := Lib.hid hC
    have B6 := Lib.hid b6
    have B7 := Lib.hid b7
    clear hP hC b6 b7
    refine Calls.mono (oddG (k := 16) HP2.out (by omega) (by omega)) ?_
    rintro e w' ⟨v, rfl, ⟨b, rfl⟩, hr, hc⟩
    have lg := HP2.out.lt
    (first | (obtain ⟨y1, hxx⟩ := extg_col hc hr (dg_gt _); subst hxx) | (obtain ⟨y1, hxx⟩ := extg_of hc hr g_sz; subst hxx))
    clear hc hr
    cases b
    · go_wp2
      refine body_boxN (t := w.heap.size) (by have := B6.out; exact g_boxN) ?_
      rintro E2 hE u0 u1 u2 u3 u4 u5 u6 u7 c0 c1 c2 c3 c4 c5 c6 c7
      refine bodyPost_ret (by simp [results, Tryz.results90, go_sem, c0, c1, c2, c3, c4, c5, c6, c7]; try rfl) rfl ?_
      rw [hE]
      refine ⟨_, rfl, ⟨_, _, _, _, _, _, _, _, rfl⟩, RdLe.mono (g_rd) (by omega), by have := HC2.out; exact g_chg⟩
    · go_wp2_with fail
      refine Calls.mono (pickG (k := size) (g_rd) ?_ ?_) ?_
      · omega
      · omega
      rintro e w' ⟨v, rfl, ⟨q, rfl, hq⟩, hr, hc⟩
      (first | (obtain ⟨y2, hxx⟩ := extg_col hc hr (dg_gt _); subst hxx) | (obtain ⟨y2, hxx⟩ := extg_of hc hr g_sz; subst hxx))
      clear hc hr
      go_wp2
      refine body_boxN (t := w.heap.size) (by have := B6.out; exact g_boxN) ?_
      rintro E2 hE u0 u1 u2 u3 u4 u5 u6 u7 c0 c1 c2 c3 c4 c5 c6 c7
      refine bodyPost_ret (by simp [results, Tryz.results90, go_sem, c0, c1, c2, c3, c4, c5, c6, c7]; try rfl) rfl ?_
      rw [hE]
      refine ⟨_, rfl, ⟨_, _, _, _, _, _, _, _, rfl⟩, RdLe.mono (g_rd) (by omega), by have := HC2.out; exact g_chg⟩
  · go_wp2_with fail
    refine Calls.mono (pickG (k := 4) (g_rd) ?_ ?_) ?_
    · omega
    · omega
    rintro e w' ⟨v, rfl, ⟨p0, rfl, hp0⟩, hr, hc⟩
    (first | (obtain ⟨x8, hxx⟩ := extg_col hc hr (dg_gt _); subst hxx) | (obtain ⟨x8, hxx⟩ := extg_of hc hr g_sz; subst hxx))
    clear hc hr
    have hp0 := hp0 (by omega)
    go_wp2_with fail
    refine Calls.mono (pickG (k := 4) (g_rd) ?_ ?_) ?_
    · omega
    · omega
    rintro e w' ⟨v, rfl, ⟨p1, rfl, hp1⟩, hr, hc⟩
    (first | (obtain ⟨x9, hxx⟩ := extg_col hc hr (dg_gt _); subst hxx) | (obtain ⟨x9, hxx⟩ := extg_of hc hr g_sz; subst hxx))
    clear hc hr
    have hp1 := hp1 (by omega)
    go_wp2_with fail
    refine Calls.mono (pickG (k := 4) (g_rd) ?_ ?_) ?_
    · omega
    · omega
    rintro e w' ⟨v, rfl, ⟨p2, rfl, hp2⟩, hr, hc⟩
    (first | (obtain ⟨x10, hxx⟩ := extg_col hc hr (dg_gt _); subst hxx) | (obtain ⟨x10, hxx⟩ := extg_of hc hr g_sz; subst hxx))
    clear hc hr
    have hp2 := hp2 (by omega)
    go_wp2_with fail
    refine Calls.mono (pickG (k := size) (g_rd) ?_ ?_) ?_
    · omega
    · omega
    rintro e w' ⟨v, rfl, ⟨s, rfl, hs⟩, hr, hc⟩
    (first | (obtain ⟨zs, hxx⟩ := extg_col hc hr (dg_gt _); subst hxx) | (obtain ⟨zs, hxx⟩ := extg_of hc hr g_sz; subst hxx))
    clear hc hr
    go_wp2_with fail
    refine calls_gen (g := g) (w := w) (p := P + 24) (w.heap.size) (w.heap.size + 1) (g_chg) (RdLe.mono (g_rd) (by omega)) (g_boxN) (g_boxN) ?_
    intro E hC hP b6 b7
    have l6 := b6.lt
    have l7 := b7.lt
    have f6 := b6.fz
    have f7 := b7.fz
    obtain ⟨u0, u1, u2, u3, u4, u5, u6, u7, c0, c1, c2, c3, c4, c5, c6, c7⟩ := b6.all
    obtain ⟨v0, v1, v2, v3, v4, v5, v6, v7, d0, d1, d2, d3, d4, d5, d6, d7⟩ := b7.all
    have HP2 := Lib.hid hP
    have HC2 := Lib.hid hC
    have B6 := Lib.hid b6
    have B7 := Lib.hid b7
    clear hP hC b6 b7
    refine Calls.mono (oddG (k := 16) HP2.out (by omega) (by omega)) ?_
    rintro e w' ⟨v, rfl, ⟨b, rfl⟩, hr, hc⟩
    have lg := HP2.out.lt
    (first | (obtain ⟨y1, hxx⟩ := extg_col hc hr (dg_gt _); subst hxx) | (obtain ⟨y1, hxx⟩ := extg_of hc hr g_sz; subst hxx))
    clear hc hr
    cases b
    · go_wp2
      refine body_boxN (t := w.heap.size) (by have := B6.out; exact g_boxN) ?_
      rintro E2 hE u0 u1 u2 u3 u4 u5 u6 u7 c0 c1 c2 c3 c4 c5 c6 c7
      refine bodyPost_ret (by simp [results, Tryz.results90, go_sem, c0, c1, c2, c3, c4, c5, c6, c7]; try rfl) rfl ?_
      rw [hE]
      refine ⟨_, rfl, ⟨_, _, _, _, _, _, _, _, rfl⟩, RdLe.mono (g_rd) (by omega), by have := HC2.out; exact g_chg⟩
    · go_wp2_with fail
      refine Calls.mono (pickG (k := size) (g_rd) ?_ ?_) ?_
      · omega
      · omega
      rintro e w' ⟨v, rfl, ⟨q, rfl, hq⟩, hr, hc⟩
      (first | (obtain ⟨y2, hxx⟩ := extg_col hc hr (dg_gt _); subst hxx) | (obtain ⟨y2, hxx⟩ := extg_of hc hr g_sz; subst hxx))
      clear hc hr
      go_wp2
      refine body_boxN (t := w.heap.size) (by have := B6.out; exact g_boxN) ?_
      rintro E2 hE u0 u1 u2 u3 u4 u5 u6 u7 c0 c1 c2 c3 c4 c5 c6 c7
      refine bodyPost_ret (by simp [results, Tryz.results90, go_sem, c0, c1, c2, c3, c4, c5, c6, c7]; try rfl) rfl ?_
      rw [hE]
      refine ⟨_, rfl, ⟨_, _, _, _, _, _, _, _, rfl⟩, RdLe.mono (g_rd) (by omega), by have := HC2.out; exact g_chg⟩
  · go_wp2_with fail
    refine Calls.mono (pickG (k := 4) (g_rd) ?_ ?_) ?_
    · omega
    · omega
    rintro e w' ⟨v, rfl, ⟨p0, rfl, hp0⟩, hr, hc⟩
    (first | (obtain ⟨x11, hxx⟩ := extg_col hc hr (dg_gt _); subst hxx) | (obtain ⟨x11, hxx⟩ := extg_of hc hr g_sz; subst hxx))
    clear hc hr
    have hp0 := hp0 (by omega)
    go_wp2_with fail
    refine Calls.mono (pickG (k := 4) (g_rd) ?_ ?_) ?_
    · omega
    · omega
    rintro e w' ⟨v, rfl, ⟨p1, rfl, hp1⟩, hr, hc⟩
    (first | (obtain ⟨x12, hxx⟩ := extg_col hc hr (dg_gt _); subst hxx) | (obtain ⟨x12, hxx⟩ := extg_of hc hr g_sz; subst hxx))
    clear hc hr
    have hp1 := hp1 (by omega)
    go_wp2_with fail
    refine Calls.mono (pickG (k := 4) (g_rd) ?_ ?_) ?_
    · omega
    · omega
    rintro e w' ⟨v, rfl, ⟨p2, rfl, hp2⟩, hr, hc⟩
    (first | (obtain ⟨x13, hxx⟩ := extg_col hc hr (dg_gt _); subst hxx) | (obtain ⟨x13, hxx⟩ := extg_of hc hr g_sz; subst hxx))
    clear hc hr
    have hp2 := hp2 (by omega)
    go_wp2_with fail
    refine Calls.mono (pickG (k := size) (g_rd) ?_ ?_) ?_
    · omega
    · omega
    rintro e w' ⟨v, rfl, ⟨s, rfl, hs⟩, hr, hc⟩
    (first | (obtain ⟨zs, hxx⟩ := extg_col hc hr (dg_gt _); subst hxx) | (obtain ⟨zs, hxx⟩ := extg_of hc hr g_sz; subst hxx))
    clear hc hr
    go_wp2_with fail
    refine calls_gen (g := g) (w := w) (p := P + 24) (w.heap.size) (w.heap.size + 1) (g_chg) (RdLe.mono (g_rd) (by omega)) (g_boxN) (g_boxN) ?_
    intro E hC hP b6 b7
    have l6 := b6.lt
    have l7 := b7.lt
    have f6 := b6.fz
    have f7 := b7.fz
    obtain ⟨u0, u1, u2, u3, u4, u5, u6, u7, c0, c1, c2, c3, c4, c5, c6, c7⟩ := b6.all
    obtain ⟨v0, v1, v2, v3, v4, v5, v6, v7, d0, d1, d2, d3, d4, d5, d6, d7⟩ := b7.all
    have HP2 := Lib.hid hP
    have HC2 := Lib.hid hC
    have B6 := Lib.hid b6
    have B7 := Lib.hid b7
    clear hP hC b6 b7
    refine Calls.mono (oddG (k := 16) HP2.out (by omega) (by omega)) ?_
    rintro e w' ⟨v, rfl, ⟨b, rfl⟩, hr, hc⟩
    have lg := HP2.out.lt
    (first | (obtain ⟨y1, hxx⟩ := extg_col hc hr (dg_gt _); subst hxx) | (obtain ⟨y1, hxx⟩ := extg_of hc hr g_sz; subst hxx))
    clear hc hr
    cases b
    · go_wp2
      refine body_boxN (t := w.heap.size) (by have := B6.out; exact g_boxN) ?_
      rintro E2 hE u0 u1 u2 u3 u4 u5 u6 u7 c0 c1 c2 c3 c4 c5 c6 c7
      refine bodyPost_ret (by simp [results, Tryz.results90, go_sem, c0, c1, c2, c3, c4, c5, c6, c7]; try rfl) rfl ?_
      rw [hE]
      refine ⟨_, rfl, ⟨_, _, _, _, _, _, _, _, rfl⟩, RdLe.mono (g_rd) (by omega), by have := HC2.out; exact g_chg⟩
    · go_wp2_with fail
      refine Calls.mono (pickG (k := size) (g_rd) ?_ ?_) ?_
      · omega
      · omega
      rintro e w' ⟨v, rfl, ⟨q, rfl, hq⟩, hr, hc⟩
      (first | (obtain ⟨y2, hxx⟩ := extg_col hc hr (dg_gt _); subst hxx) | (obtain ⟨y2, hxx⟩ := extg_of hc hr g_sz; subst hxx))
      clear hc hr
      go_wp2
      refine body_boxN (t := w.heap.size) (by have := B6.out; exact g_boxN) ?_
      rintro E2 hE u0 u1 u2 u3 u4 u5 u6 u7 c0 c1 c2 c3 c4 c5 c6 c7
      refine bodyPost_ret (by simp [results, Tryz.results90, go_sem, c0, c1, c2, c3, c4, c5, c6, c7]; try rfl) rfl ?_
      rw [hE]
      refine ⟨_, rfl, ⟨_, _, _, _, _, _, _, _, rfl⟩, RdLe.mono (g_rd) (by omega), by have := HC2.out; exact g_chg⟩
  · go_wp2_with fail
    refine Calls.mono (pickG (k := 4) (g_rd) ?_ ?_) ?_
    · omega
    · omega
    rintro e w' ⟨v, rfl, ⟨p0, rfl, hp0⟩, hr, hc⟩
    (first | (obtain ⟨x14, hxx⟩ := extg_col hc hr (dg_gt _); subst hxx) | (obtain ⟨x14, hxx⟩ := extg_of hc hr g_sz; subst hxx))
    clear hc hr
    have hp0 := hp0 (by omega)
    go_wp2_with fail
    refine Calls.mono (pickG (k := 4) (g_rd) ?_ ?_) ?_
    · omega
    · omega
    rintro e w' ⟨v, rfl, ⟨p1, rfl, hp1⟩, hr, hc⟩
    (first | (obtain ⟨x15, hxx⟩ := extg_col hc hr (dg_gt _); subst hxx) | (obtain ⟨x15, hxx⟩ := extg_of hc hr g_sz; subst hxx))
    clear hc hr
    have hp1 := hp1 (by omega)
    go_wp2_with fail
    refine Calls.mono (pickG (k := procs) (g_rd) ?_ ?_) ?_
    · omega
    · omega
    rintro e w' ⟨v, rfl, ⟨s, rfl, hs⟩, hr, hc⟩
    (first | (obtain ⟨zs, hxx⟩ := extg_col hc hr (dg_gt _); subst hxx) | (obtain ⟨zs, hxx⟩ := extg_of hc hr g_sz; subst hxx))
    clear hc hr
    go_wp2_with fail
    refine calls_gen (g := g) (w := w) (p := P + 24) (w.heap.size) (w.heap.size + 1) (g_chg) (RdLe.mono (g_rd) (by omega)) (g_boxN) (g_boxN) ?_
    intro E hC hP b6 b7
    have l6 := b6.lt
    have l7 := b7.lt
    have f6 := b6.fz
    have f7 := b7.fz
    obtain ⟨u0, u1, u2, u3, u4, u5, u6, u7, c0, c1, c2, c3, c4, c5, c6, c7⟩ := b6.all
    obtain ⟨v0, v1, v2, v3, v4, v5, v6, v7, d0, d1, d2, d3, d4, d5, d6, d7⟩ := b7.all
    have HP2 := Lib.hid hP
    have HC2 := Lib.hid hC
    have B6 := Lib.hid b6
    have B7 := Lib.hid b7
    clear hP hC b6 b7
    refine Calls.mono (oddG (k := 16) HP2.out (by omega) (by omega)) ?_
    rintro e w' ⟨v, rfl, ⟨b, rfl⟩, hr, hc⟩
    have lg := HP2.out.lt
    (first | (obtain ⟨y1, hxx⟩ := extg_col hc hr (dg_gt _); subst hxx) | (obtain ⟨y1, hxx⟩ := extg_of hc hr g_sz; subst hxx))
    clear hc hr
    cases b
    · go_wp2
      refine body_boxN (t := w.heap.size) (by have := B6.out; exact g_boxN) ?_
      rintro E2 hE u0 u1 u2 u3 u4 u5 u6 u7 c0 c1 c2 c3 c4 c5 c6 c7
      refine bodyPost_ret (by simp [results, Tryz.results90, go_sem, c0, c1, c2, c3, c4, c5, c6, c7]; try rfl) rfl ?_
      rw [hE]
      refine ⟨_, rfl, ⟨_, _, _, _, _, _, _, _, rfl⟩, RdLe.mono (g_rd) (by omega), by have := HC2.out; exact g_chg⟩
    · go_wp2_with fail
      refine Calls.mono (pickG (k := size) (g_rd) ?_ ?_) ?_
      · omega
      · omega
      rintro e w' ⟨v, rfl, ⟨q, rfl, hq⟩, hr, hc⟩
      (first | (obtain ⟨y2, hxx⟩ := extg_col hc hr (dg_gt _); subst hxx) | (obtain ⟨y2, hxx⟩ := extg_of hc hr g_sz; subst hxx))
      clear hc hr
      go_wp2
      refine body_boxN (t := w.heap.size) (by have := B6.out; exact g_boxN) ?_
      rintro E2 hE u0 u1 u2 u3 u4 u5 u6 u7 c0 c1 c2 c3 c4 c5 c6 c7
      refine bodyPost_ret (by simp [results, Tryz.results90, go_sem, c0, c1, c2, c3, c4, c5, c6, c7]; try rfl) rfl ?_
      rw [hE]
      refine ⟨_, rfl, ⟨_, _, _, _, _, _, _, _, rfl⟩, RdLe.mono (g_rd) (by omega), by have := HC2.out; exact g_chg⟩
  · go_wp2_with fail
    refine Calls.mono (pickG (k := 4) (g_rd) ?_ ?_) ?_
    · omega
    · omega
    rintro e w' ⟨v, rfl, ⟨p0, rfl, hp0⟩, hr, hc⟩
    (first | (obtain ⟨x16, hxx⟩ := extg_col hc hr (dg_gt _); subst hxx) | (obtain ⟨x16, hxx⟩ := extg_of hc hr g_sz; subst hxx))
    clear hc hr
    have hp0 := hp0 (by omega)
    go_wp2_with fail
    refine Calls.mono (pickG (k := 4) (g_rd) ?_ ?_) ?_
    · omega
    · omega
    rintro e w' ⟨v, rfl, ⟨p1, rfl, hp1⟩, hr, hc⟩
    (first | (obtain ⟨x17, hxx⟩ := extg_col hc hr (dg_gt _); subst hxx) | (obtain ⟨x17, hxx⟩ := extg_of hc hr g_sz; subst hxx))
    clear hc hr
    have hp1 := hp1 (by omega)
    go_wp2_with fail
    refine Calls.mono (pickG (k := 4) (g_rd) ?_ ?_) ?_
    · omega
    · omega
    rintro e w' ⟨v, rfl, ⟨p2, rfl, hp2⟩, hr, hc⟩
    (first | (obtain ⟨x18, hxx⟩ := extg_col hc hr (dg_gt _); subst hxx) | (obtain ⟨x18, hxx⟩ := extg_of hc hr g_sz; subst hxx))
    clear hc hr
    have hp2 := hp2 (by omega)
    go_wp2_with fail
    refine calls_gen (g := g) (w := w) (p := P + 24) (w.heap.size) (w.heap.size + 1) (g_chg) (RdLe.mono (g_rd) (by omega)) (g_boxN) (g_boxN) ?_
    intro E hC hP b6 b7
    have l6 := b6.lt
    have l7 := b7.lt
    have f6 := b6.fz
    have f7 := b7.fz
    obtain ⟨u0, u1, u2, u3, u4, u5, u6, u7, c0, c1, c2, c3, c4, c5, c6, c7⟩ := b6.all
    obtain ⟨v0, v1, v2, v3, v4, v5, v6, v7, d0, d1, d2, d3, d4, d5, d6, d7⟩ := b7.all
    have HP2 := Lib.hid hP
    have HC2 := Lib.hid hC
    have B6 := Lib.hid b6
    have B7 := Lib.hid b7
    clear hP hC b6 b7
    refine Calls.mono (oddG (k := 16) HP2.out (by omega) (by omega)) ?_
    rintro e w' ⟨v, rfl, ⟨b, rfl⟩, hr, hc⟩
    have lg := HP2.out.lt
    (first | (obtain ⟨y1, hxx⟩ := extg_col hc hr (dg_gt _); subst hxx) | (obtain ⟨y1, hxx⟩ := extg_of hc hr g_sz; subst hxx))
    clear hc hr
    cases b
    · go_wp2
      refine body_boxN (t := w.heap.size) (by have := B6.out; exact g_boxN) ?_
      rintro E2 hE u0 u1 u2 u3 u4 u5 u6 u7 c0 c1 c2 c3 c4 c5 c6 c7
      refine bodyPost_ret (by simp [results, Tryz.results90, go_sem, c0, c1, c2, c3, c4, c5, c6, c7]; try rfl) rfl ?_
      rw [hE]
      refine ⟨_, rfl, ⟨_, _, _, _, _, _, _, _, rfl⟩, RdLe.mono (g_rd) (by omega), by have := HC2.out; exact g_chg⟩
    · go_wp2_with fail
      refine Calls.mono (pickG (k := size) (g_rd) ?_ ?_) ?_
      · omega
      · omega
      rintro e w' ⟨v, rfl, ⟨q, rfl, hq⟩, hr, hc⟩
      (first | (obtain ⟨y2, hxx⟩ := extg_col hc hr (dg_gt _); subst hxx) | (obtain ⟨y2, hxx⟩ := extg_of hc hr g_sz; subst hxx))
      clear hc hr
      go_wp2
      refine body_boxN (t := w.heap.size) (by have := B6.out; exact g_boxN) ?_
      rintro E2 hE u0 u1 u2 u3 u4 u5 u6 u7 c0 c1 c2 c3 c4 c5 c6 c7
      refine bodyPost_ret (by simp [results, Tryz.results90, go_sem, c0, c1, c2, c3, c4, c5, c6, c7]; try rfl) rfl ?_
      rw [hE]
      refine ⟨_, rfl, ⟨_, _, _, _, _, _, _, _, rfl⟩, RdLe.mono (g_rd) (by omega), by have := HC2.out; exact g_chg⟩
end Go.Proofs.YtcdfomoglkhboaaGreatDoor
