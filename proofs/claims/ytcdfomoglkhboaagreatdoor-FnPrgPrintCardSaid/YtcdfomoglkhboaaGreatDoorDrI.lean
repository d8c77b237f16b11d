/- Draws of numbers and bounds. No condition. -/
import Derived.Test.YtcdfomoglkhboaaGreatDoorDrL
namespace Go.Proofs.YtcdfomoglkhboaaGreatDoor
open Go.RowKit
set_option linter.unusedVariables false
set_option linter.unusedSimpArgs false
attribute [local go_sem] dg_cell dg_frozen dg_lt dg_lt1 dg_lt2 dg_ne dg_ne1 dg_ne2 dg_new dg_wen lt_s2 lt_s3 lt_s4 lt_s5 lt_s6

set_option maxHeartbeats 2000000 in
theorem rawG {g P : Nat} {w : World} (h : RdLe w g P) (hp : P + 5 ≤ 1099511627776) :
    Calls Tryz.prog 130 #[.pointer (some ⟨g, 0, none⟩)] w (RetG IsInt g (P + 5) w) := by
  have lt0 := h.lt
  obtain ⟨ne0, ne1, ne2, ne3, ne4, ne5⟩ : ¬ w.heap.size = g ∧ ¬ w.heap.size + 1 = g ∧ ¬ w.heap.size + 1 + 1 = g ∧ ¬ w.heap.size + 1 + 1 + 1 = g ∧ ¬ w.heap.size + 1 + 1 + 1 + 1 = g ∧ ¬ w.heap.size + 1 + 1 + 1 + 1 + 1 = g := by omega
  have HP := Lib.hid h; clear h
  go_enter Tryz.func130, Tryz.ntmps130
  go_wp2_with fail
  refine Calls.mono (pickG (k := 4) (g_rd) ?_ ?_) ?_
  · omega
  · omega
  rintro e w' ⟨v, rfl, ⟨j, rfl, hj⟩, hr, hc⟩
  (first | (obtain ⟨x1, hxx⟩ := extg_col hc hr (dg_gt _); subst hxx) | (obtain ⟨x1, hxx⟩ := extg_of hc hr g_sz; subst hxx))
  clear hc hr
  have hj := hj (by omega)
  have hj : j = 0 ∨ j = 1 ∨ j = 2 ∨ j = 3 := by omega
  rcases hj with rfl | rfl | rfl | rfl
  · go_wp2_with fail
    refine Calls.mono (pickG (k := 8) (g_rd) ?_ ?_) ?_
    · omega
    · omega
    rintro e w' ⟨v, rfl, ⟨u, rfl, hu⟩, hr, hc⟩
    (first | (obtain ⟨x2, hxx⟩ := extg_col hc hr (dg_gt _); subst hxx) | (obtain ⟨x2, hxx⟩ := extg_of hc hr g_sz; subst hxx))
    clear hc hr
    have hu := hu (by omega)
    obtain ⟨yu, hyu, hlu⟩ := lit_get [-32769, 32768, -9223372036854775808, 9223372036854775807, 65536, -65536, 32768, 98304] (j := u) (by simp only [List.length_cons, List.length_nil]; omega)
    have HYu := Lib.hid hyu; clear hyu
    simp only [ints, List.map_cons, List.map_nil] at hlu
    go_wp2
    go_ret
    refine ⟨_, rfl, ⟨_, rfl⟩, RdLe.mono (g_rd) (by omega), g_chg⟩
  · go_wp2_with fail
    refine Calls.mono (numG (g_rd) ?_) ?_
    · omega
    rintro e w' ⟨v, rfl, ⟨a, rfl, ha⟩, hr, hc⟩
    (first | (obtain ⟨x9, hxx⟩ := extg_col hc hr (dg_gt _); subst hxx) | (obtain ⟨x9, hxx⟩ := extg_of hc hr g_sz; subst hxx))
    clear hc hr
    go_wp2_with fail
    refine Calls.mono (pickG (k := 4) (g_rd) ?_ ?_) ?_
    · omega
    · omega
    rintro e w' ⟨v, rfl, ⟨u, rfl, hu⟩, hr, hc⟩
    (first | (obtain ⟨x3, hxx⟩ := extg_col hc hr (dg_gt _); subst hxx) | (obtain ⟨x3, hxx⟩ := extg_of hc hr g_sz; subst hxx))
    clear hc hr
    have hu := hu (by omega)
    obtain ⟨yu, hyu, hlu⟩ := lit_get [1, 7, 32767, 65536] (j := u) (by simp only [List.length_cons, List.length_nil]; omega)
    have HYu := Lib.hid hyu; clear hyu
    simp only [ints, List.map_cons, List.map_nil] at hlu
    go_wp2
    go_ret
    refine ⟨_, rfl, ⟨_, rfl⟩, RdLe.mono (g_rd) (by omega), g_chg⟩
  all_goals
    go_wp2_with fail
    refine Calls.mono (numG (g_rd) ?_) ?_
    · omega
    rintro e w' ⟨v, rfl, ⟨a, rfl, ha⟩, hr, hc⟩
    (first | (obtain ⟨x10, hxx⟩ := extg_col hc hr (dg_gt _); subst hxx) | (obtain ⟨x10, hxx⟩ := extg_of hc hr g_sz; subst hxx))
    clear hc hr
    go_wp2
    go_ret
    refine ⟨_, rfl, ⟨_, rfl⟩, RdLe.mono (g_rd) (by omega), g_chg⟩

set_option maxRecDepth 100000 in
set_option maxHeartbeats 4000000 in
theorem itvG {g P : Nat} {n : Int} {w : World} (h : RdLe w g P) (hp : P + 20 ≤ 1099511627776) (hn : -1099511627776 ≤ n ∧ n ≤ 1099511627776) :
    Calls Tryz.prog 111 #[.pointer (some ⟨g, 0, none⟩), .int .i64 n] w (RetG IsItv g (P + 20) w) := by
  have lt0 := h.lt
  obtain ⟨ne0, ne1, ne2, ne3, ne4, ne5⟩ : ¬ w.heap.size = g ∧ ¬ w.heap.size + 1 = g ∧ ¬ w.heap.size + 1 + 1 = g ∧ ¬ w.heap.size + 1 + 1 + 1 = g ∧ ¬ w.heap.size + 1 + 1 + 1 + 1 = g ∧ ¬ w.heap.size + 1 + 1 + 1 + 1 + 1 = g := by omega
  have HP := Lib.hid h; clear h
  go_enter Tryz.func111, Tryz.ntmps111
  go_wp2_with fail
  refine Calls.mono (numG (g_rd) ?_) ?_
  · omega
  rintro e w' ⟨v, rfl, ⟨a, rfl, ha⟩, hr, hc⟩
  (first | (obtain ⟨x12, hxx⟩ := extg_col hc hr (dg_gt _); subst hxx) | (obtain ⟨x12, hxx⟩ := extg_of hc hr g_sz; subst hxx))
  clear hc hr
  go_wp2_with fail
  refine Calls.mono (numG (g_rd) ?_) ?_
  · omega
  rintro e w' ⟨v, rfl, ⟨b, rfl, hb⟩, hr, hc⟩
  (first | (obtain ⟨x13, hxx⟩ := extg_col hc hr (dg_gt _); subst hxx) | (obtain ⟨x13, hxx⟩ := extg_of hc hr g_sz; subst hxx))
  clear hc hr
  go_wp2_with fail
  refine Calls.mono (pickG (k := 4) (g_rd) ?_ ?_) ?_
  · omega
  · omega
  rintro e w' ⟨v, rfl, ⟨j, rfl, hj⟩, hr, hc⟩
  (first | (obtain ⟨x4, hxx⟩ := extg_col hc hr (dg_gt _); subst hxx) | (obtain ⟨x4, hxx⟩ := extg_of hc hr g_sz; subst hxx))
  clear hc hr
  have hj := hj (by omega)
  have hj4 : j = 2 ∨ j = 0 ∨ j = 1 ∨ j = 3 := by omega
  rcases hj4 with rfl | rfl | rfl | rfl
  · go_wp2_with fail
    have hPP : P + 3 + 3 + 1 + 2 ≤ 1099511627776 := by omega
    have hJA : ∀ W o, (ChgG g w W ∧ BoxI w.heap.size W) → (ChgG g w (W.alloc o) ∧ BoxI w.heap.size (W.alloc o)) := fun W o h => ⟨chg_al h.1 o, h.2.grew (grew_al (Below.refl _ _) o)⟩
    have hJC : ∀ W W', (ChgG g w W ∧ BoxI w.heap.size W) → ChgG g W W' → (ChgG g w W' ∧ BoxI w.heap.size W') := fun W W' h c => ⟨h.1.trans c, h.2.chg c ne0⟩
    have hFJ : ∀ W, (ChgG g w W ∧ BoxI w.heap.size W) → ∀ b, (b = g ∨ b = w.heap.size) → b < W.heap.size := fun W h b hb => by
      obtain ⟨u0, u1, hb2⟩ := h.2
      have := hb2.lt
      rcases hb with rfl | rfl <;> omega
    refine region_drawX 2 65 [0, 0, 1, 0, 0, 0, 0, 1, 0, 0, 0, 0] (fun W => ChgG g w W ∧ BoxI w.heap.size W) (fun b => b = g ∨ b = w.heap.size)
      [prSl 5, prV (fun v => v = .pointer (some ⟨g, 0, none⟩)), prV (IsNat 5), prPt, prV IsInt, prSl 5, prV (fun v => v = .pointer (some ⟨g, 0, none⟩)), prV (IsNat 5), prPt, prV IsInt, prV IsItv, prT]
      (by kernel_rfl) rfl (by kernel_rfl) (by kernel_rfl) ⟨g_chg, ?_⟩ ⟨?_, ?_, ?_, ?_, ?_, ?_, ?_, ?_, ?_, ?_, ?_, ?_, trivial⟩ ?_
    · exact BoxI.grew (BoxI.chg ⟨0, 0, Blk.new _ _ _⟩ (Gd.chg _) ne0) (grew_d (Below.refl _ _))
    · exact ds_lit 3 [-32768, -10, 0, 1, -1] (fun a W => by kernel_rfl) (fun _ _ h => h) hJA hFJ
    · exact ds_move 0 _ rfl (by kernel_rfl) rfl (fun _ => rfl)
    · exact ds_pick 27 1 5 (fun _ _ => by kernel_rfl) ⟨⟨⟨1, .data⟩, by simp, rfl, by kernel_rfl⟩, by kernel_rfl⟩ (fun _ _ h => h) rfl hPP (by omega) (fun _ _ h => h) hJC (.inl rfl)
    · exact ds_index 26 28 0 2 5 rfl ⟨⟨⟨0, .data⟩, by simp, rfl, by kernel_rfl⟩, by kernel_rfl⟩ ⟨⟨⟨2, .data⟩, by simp, rfl, by kernel_rfl⟩, by kernel_rfl⟩ (fun _ _ h => h) (fun _ _ h => h) (by omega) (by omega) (fun _ _ h => h)
    · exact ds_load 29 3 rfl ⟨⟨⟨3, .data⟩, by simp, rfl, by kernel_rfl⟩, by kernel_rfl⟩ (fun _ _ h => h) (fun _ _ h => h)
    · exact ds_lit 3 [32767, 10, 3, 1, 100] (fun a W => by kernel_rfl) (fun _ _ h => h) hJA hFJ
    · exact ds_move 0 _ rfl (by kernel_rfl) rfl (fun _ => rfl)
    · exact ds_pick 32 6 5 (fun _ _ => by kernel_rfl) ⟨⟨⟨6, .data⟩, by simp, rfl, by kernel_rfl⟩, by kernel_rfl⟩ (fun _ _ h => h) rfl hPP (by omega) (fun _ _ h => h) hJC (.inl rfl)
    · exact ds_index 31 33 5 7 5 rfl ⟨⟨⟨5, .data⟩, by simp, rfl, by kernel_rfl⟩, by kernel_rfl⟩ ⟨⟨⟨7, .data⟩, by simp, rfl, by kernel_rfl⟩, by kernel_rfl⟩ (fun _ _ h => h) (fun _ _ h => h) (by omega) (by omega) (fun _ _ h => h)
    · exact ds_load 34 8 rfl ⟨⟨⟨8, .data⟩, by simp, rfl, by kernel_rfl⟩, by kernel_rfl⟩ (fun _ _ h => h) (fun _ _ h => h)
    · exact ds_build _ _ rfl (fun a W hf hd => by
        obtain ⟨n1, h1⟩ := (dep_of (k := 4) (d := 30) ⟨⟨⟨4, .data⟩, by simp, rfl, by kernel_rfl⟩, by kernel_rfl⟩ hd : IsInt _)
        obtain ⟨n2, h2⟩ := (dep_of (k := 9) (d := 35) ⟨⟨⟨9, .data⟩, by simp, rfl, by kernel_rfl⟩, by kernel_rfl⟩ hd : IsInt _)
        exact ⟨#[(0, .int .i64 n1), (1, .int .i64 n2)], by simp [h1, h2], .agg #[.int .i64 n1, .int .i64 n2], fun W => by kernel_rfl, n1, n2, rfl⟩)
    · exact ds_store2 w.heap.size 4 36 10 rfl (by kernel_rfl) rfl ⟨⟨⟨10, .data⟩, by simp, rfl, by kernel_rfl⟩, by kernel_rfl⟩ (fun _ _ h => h) (fun W h => h.2) (fun W W' y0 y1 h hb hc => ⟨Chg.trans h.1 hc (fun _ _ h => h) (fun i hi e => by omega), y0, y1, hb⟩) lt0 (.inr rfl) (fun _ _ => trivial)
    · rintro vs w' ⟨hc, u0, u1, hb⟩ hr hR
      have c0 : w'.cell? ⟨w.heap.size, 0, none⟩ = some (.int .i64 u0) := hb.cell 0
      have c1 : w'.cell? ⟨w.heap.size, 1, none⟩ = some (.int .i64 u1) := hb.cell 1
      simp only [putAll, Act.put, List.setIfInBounds_toArray, List.set_cons_zero, List.set_cons_succ]
      have HP1 := Lib.hid hr
      have HC1 := Lib.hid hc
      clear hr hc hb hR
      go_wp2
      refine bodyPost_ret (by simp [results, Tryz.results111, go_sem, c0, c1]; try rfl) rfl ?_
      exact ⟨_, rfl, ⟨_, _, rfl⟩, HP1.out.mono (by omega), HC1.out⟩
  · go_wp2_with fail
    all_goals
      refine Calls.mono (oddG (k := n) (g_rd) ?_ ?_) ?_
      · omega
      · omega
      rintro e w' ⟨v, rfl, ⟨o, rfl⟩, hr, hc⟩
      (first | (obtain ⟨x15, hxx⟩ := extg_col hc hr (dg_gt _); subst hxx) | (obtain ⟨x15, hxx⟩ := extg_of hc hr g_sz; subst hxx))
      clear hc hr
      cases o
      · go_wp2
        refine body_boxI (t := w.heap.size) (g_box) ?_
        rintro E hE u0 u1 c0 c1
        refine bodyPost_ret (by simp [results, Tryz.results111, go_sem, c0, c1]; try rfl) rfl ?_
        rw [hE]
        refine ⟨_, rfl, ⟨_, _, rfl⟩, RdLe.mono (g_rd) (by omega), g_chg⟩
      · go_wp2_with fail
        refine Calls.mono (pickG (k := 3) (g_rd) ?_ ?_) ?_
        · omega
        · omega
        rintro e w' ⟨v, rfl, ⟨k, rfl, hk⟩, hr, hc⟩
        (first | (obtain ⟨x5, hxx⟩ := extg_col hc hr (dg_gt _); subst hxx) | (obtain ⟨x5, hxx⟩ := extg_of hc hr g_sz; subst hxx))
        clear hc hr
        have hk := hk (by omega)
        have hk3 : k = 0 ∨ k = 1 ∨ k = 2 := by omega
        rcases hk3 with rfl | rfl | rfl
        · go_wp2
          refine body_boxI (t := w.heap.size) (g_box) ?_
          rintro E hE u0 u1 c0 c1
          refine bodyPost_ret (by simp [results, Tryz.results111, go_sem, c0, c1]; try rfl) rfl ?_
          rw [hE]
          refine ⟨_, rfl, ⟨_, _, rfl⟩, RdLe.mono (g_rd) (by omega), g_chg⟩
        all_goals
          go_wp2_with fail
          refine Calls.mono (rawG (g_rd) ?_) ?_
          · omega
          rintro e w' ⟨v, rfl, ⟨y, rfl⟩, hr, hc⟩
          (first | (obtain ⟨x19, hxx⟩ := extg_col hc hr (dg_gt _); subst hxx) | (obtain ⟨x19, hxx⟩ := extg_of hc hr g_sz; subst hxx))
          clear hc hr
          go_wp2
          refine body_boxI (t := w.heap.size) (g_box) ?_
          rintro E hE u0 u1 c0 c1
          refine bodyPost_ret (by simp [results, Tryz.results111, go_sem, c0, c1]; try rfl) rfl ?_
          rw [hE]
          refine ⟨_, rfl, ⟨_, _, rfl⟩, RdLe.mono (g_rd) (by omega), g_chg⟩
  · go_wp2_with fail
    refine Calls.mono (pickG (k := 5) (g_rd) ?_ ?_) ?_
    · omega
    · omega
    rintro e w' ⟨v, rfl, ⟨q, rfl, hq⟩, hr, hc⟩
    (first | (obtain ⟨x6, hxx⟩ := extg_col hc hr (dg_gt _); subst hxx) | (obtain ⟨x6, hxx⟩ := extg_of hc hr g_sz; subst hxx))
    clear hc hr
    have hq := hq (by omega)
    go_wp2_with fail
    all_goals
      refine Calls.mono (oddG (k := n) (g_rd) ?_ ?_) ?_
      · omega
      · omega
      rintro e w' ⟨v, rfl, ⟨o, rfl⟩, hr, hc⟩
      (first | (obtain ⟨x16, hxx⟩ := extg_col hc hr (dg_gt _); subst hxx) | (obtain ⟨x16, hxx⟩ := extg_of hc hr g_sz; subst hxx))
      clear hc hr
      cases o
      · go_wp2
        refine body_boxI (t := w.heap.size) (g_box) ?_
        rintro E hE u0 u1 c0 c1
        refine bodyPost_ret (by simp [results, Tryz.results111, go_sem, c0, c1]; try rfl) rfl ?_
        rw [hE]
        refine ⟨_, rfl, ⟨_, _, rfl⟩, RdLe.mono (g_rd) (by omega), g_chg⟩
      · go_wp2_with fail
        refine Calls.mono (pickG (k := 3) (g_rd) ?_ ?_) ?_
        · omega
        · omega
        rintro e w' ⟨v, rfl, ⟨k, rfl, hk⟩, hr, hc⟩
        (first | (obtain ⟨x7, hxx⟩ := extg_col hc hr (dg_gt _); subst hxx) | (obtain ⟨x7, hxx⟩ := extg_of hc hr g_sz; subst hxx))
        clear hc hr
        have hk := hk (by omega)
        have hk3 : k = 0 ∨ k = 1 ∨ k = 2 := by omega
        rcases hk3 with rfl | rfl | rfl
        · go_wp2
          refine body_boxI (t := w.heap.size) (g_box) ?_
          rintro E hE u0 u1 c0 c1
          refine bodyPost_ret (by simp [results, Tryz.results111, go_sem, c0, c1]; try rfl) rfl ?_
          rw [hE]
          refine ⟨_, rfl, ⟨_, _, rfl⟩, RdLe.mono (g_rd) (by omega), g_chg⟩
        all_goals
          go_wp2_with fail
          refine Calls.mono (rawG (g_rd) ?_) ?_
          · omega
          rintro e w' ⟨v, rfl, ⟨y, rfl⟩, hr, hc⟩
          (first | (obtain ⟨x20, hxx⟩ := extg_col hc hr (dg_gt _); subst hxx) | (obtain ⟨x20, hxx⟩ := extg_of hc hr g_sz; subst hxx))
          clear hc hr
          go_wp2
          refine body_boxI (t := w.heap.size) (g_box) ?_
          rintro E hE u0 u1 c0 c1
          refine bodyPost_ret (by simp [results, Tryz.results111, go_sem, c0, c1]; try rfl) rfl ?_
          rw [hE]
          refine ⟨_, rfl, ⟨_, _, rfl⟩, RdLe.mono (g_rd) (by omega), g_chg⟩
  · go_wp2_with fail
    all_goals
      refine Calls.mono (oddG (k := n) (g_rd) ?_ ?_) ?_
      · omega
      · omega
      rintro e w' ⟨v, rfl, ⟨o, rfl⟩, hr, hc⟩
      (first | (obtain ⟨x17, hxx⟩ := extg_col hc hr (dg_gt _); subst hxx) | (obtain ⟨x17, hxx⟩ := extg_of hc hr g_sz; subst hxx))
      clear hc hr
      cases o
      · go_wp2
        refine body_boxI (t := w.heap.size) (g_box) ?_
        rintro E hE u0 u1 c0 c1
        refine bodyPost_ret (by simp [results, Tryz.results111, go_sem, c0, c1]; try rfl) rfl ?_
        rw [hE]
        refine ⟨_, rfl, ⟨_, _, rfl⟩, RdLe.mono (g_rd) (by omega), g_chg⟩
      · go_wp2_with fail
        refine Calls.mono (pickG (k := 3) (g_rd) ?_ ?_) ?_
        · omega
        · omega
        rintro e w' ⟨v, rfl, ⟨k, rfl, hk⟩, hr, hc⟩
        (first | (obtain ⟨x8, hxx⟩ := extg_col hc hr (dg_gt _); subst hxx) | (obtain ⟨x8, hxx⟩ := extg_of hc hr g_sz; subst hxx))
        clear hc hr
        have hk := hk (by omega)
        have hk3 : k = 0 ∨ k = 1 ∨ k = 2 := by omega
        rcases hk3 with rfl | rfl | rfl
        · go_wp2
          refine body_boxI (t := w.heap.size) (g_box) ?_
          rintro E hE u0 u1 c0 c1
          refine bodyPost_ret (by simp [results, Tryz.results111, go_sem, c0, c1]; try rfl) rfl ?_
          rw [hE]
          refine ⟨_, rfl, ⟨_, _, rfl⟩, RdLe.mono (g_rd) (by omega), g_chg⟩
        all_goals
          go_wp2_with fail
          refine Calls.mono (rawG (g_rd) ?_) ?_
          · omega
          rintro e w' ⟨v, rfl, ⟨y, rfl⟩, hr, hc⟩
          (first | (obtain ⟨x21, hxx⟩ := extg_col hc hr (dg_gt _); subst hxx) | (obtain ⟨x21, hxx⟩ := extg_of hc hr g_sz; subst hxx))
          clear hc hr
          go_wp2
          refine body_boxI (t := w.heap.size) (g_box) ?_
          rintro E hE u0 u1 c0 c1
          refine bodyPost_ret (by simp [results, Tryz.results111, go_sem, c0, c1]; try rfl) rfl ?_
          rw [hE]
          refine ⟨_, rfl, ⟨_, _, rfl⟩, RdLe.mono (g_rd) (by omega), g_chg⟩
end Go.Proofs.YtcdfomoglkhboaaGreatDoor
