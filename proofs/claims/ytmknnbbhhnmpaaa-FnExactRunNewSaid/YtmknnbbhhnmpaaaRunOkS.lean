/- Whether a run is ok: the reference's walk. No condition. -/
import Derived.Test.YtmknnbbhhnmpaaaRunOk
namespace Go.Proofs.Ytmknnbbhhnmpaaa
open Go.RowKit
set_option linter.unusedVariables false
attribute [local go_sem] ext_cell ext_frozen ext_lt ext_le ext_le1 lt_s2 lt_s3 lt_s4 lt_s5 lt_s6 ext_lt1 ext_lt2 ext_lt3

theorem okAt_of {ps : List Prc} {fs : List Fr} {k : Nat} {f : Fr} (h : fs[k]? = some f) : okAt ps fs k = (frB ps f && linkB ps f fs[k + 1]?) := by rw [okAt, h]
theorem framesB_false {ps : List Prc} {fs : List Fr} {k : Nat} (hk : k < fs.length) (h : okAt ps fs k = false) : framesB ps fs = false := by
  rw [framesB, List.all_eq_false]
  exact ⟨k, List.mem_range.2 hk, by simp [h]⟩
theorem framesB_true {ps : List Prc} {fs : List Fr} (h : ∀ j, j < fs.length → okAt ps fs j = true) : framesB ps fs = true := by
  rw [framesB, List.all_eq_true]
  exact fun k hk => h k (List.mem_range.1 hk)

set_option maxRecDepth 100000 in
set_option maxHeartbeats 4000000 in
theorem specRunOk1 (a : Option Addr) (n cap : Nat) (ps : List Prc) (fa : Option Addr) (fn fc : Nat) (fs : List Fr) (proc pc : Int) (w : World) (hr : RdP w a n ps) (hn : n ≤ 9223372036854775807) (hf : RdF w fa fn fs) (hp : prgOkB ps = true) (h5 : fn ≤ 5) :
    Calls Try.prog 66 #[.agg #[.slice a n cap], .agg #[.int .i64 1, .slice fa fn fc, .int .i64 0, .int .i64 proc, .int .i64 pc]] w fun e w' => e = .returned (.bool (framesB ps fs && decide (0 < fs.length) && decide (proc = 0) && decide (pc = 0))) ∧ Grew w w' := by
  have C := fun W (h : Grew w W) => specPrgOk a n cap ps W (hr.grew h) hn
  rw [hp] at C
  have HC := Lib.hid C; clear C hp
  have HL := Lib.hid hf.len
  have HF := Lib.hid hf; clear hf
  have HR := Lib.hid hr; clear hr
  have HD := Lib.hid (fun w => l1In 1 1 4 w)
  have HE := Lib.hid (fun w => specNumOk 0 w)
  have h5' : ¬ (fn : Int) > 5 := by omega
  go_enter Try.func66, Try.ntmps66
  go_wp2_with (first | ((with_reducible refine (HC.out _ (by repeat (first | with_reducible exact Below.refl _ _ | with_reducible assumption | with_reducible apply grew_ext | with_reducible apply grew_al | with_reducible apply grew_dn | with_reducible apply grew_d | (with_reducible refine grew_set ?_ (by first | omega | (repeat (first | with_reducible exact Nat.le_refl _ | with_reducible apply le_pl | with_reducible apply le_ext | with_reducible apply le_al))) _)))).mono ?_); rintro e w' ⟨rfl, g'⟩; (first | obtain ⟨y, rfl⟩ := ext_cold g' | obtain ⟨y, rfl⟩ := ext_col g' | obtain ⟨y, rfl⟩ := ext_of g'); clear g') | ((with_reducible refine (HD.out _).mono ?_); rintro e w' ⟨rfl, rfl⟩) | ((with_reducible refine (HE.out _).mono ?_); rintro e w' ⟨rfl, rfl⟩))
  go_loopw [7] (fun i wr => ∃ k : Nat, k ≤ fn ∧ i = .int .i64 k ∧ (∃ x, wr = ext ((w.alloc (.cells #[.slice a n cap] 35)).alloc (.cells #[.int .i64 1, .slice fa fn fc, .int .i64 0, .int .i64 proc, .int .i64 pc] 88)) x) ∧ ∀ j, j < k → okAt ps fs j = true) (fun i _ => fn - (intOf i).toNat)
  case atStart => exact ⟨0, Nat.zero_le _, rfl, ⟨_, rfl⟩, fun j hj => absurd hj (by omega)⟩
  case round =>
    obtain ⟨k, hk, rfl, ⟨x, rfl⟩, hall⟩ := hrel
    have HA := Lib.hid hall; clear hall
    by_cases hlt : k < fn
    · obtain ⟨b, off, fp, fpc, vs, cs, va, vc, ca, cc, rfl, hx, c0, c1, c2, c3, hb, hi1, hi2, hi3, hi4⟩ := rdF_at HF.out hlt
      obtain ⟨q0, q1, q2⟩ := lt3 hb
      have HX := Lib.hid hx; clear hx
      have D := fun W (h : Grew w W) => specL5Frame a n cap ps fp fpc va ca vs.length vc cs.length cc vs cs W (HR.out.grew h) hn (hi1.grew h) (hi2.grew h) (by unfold maxLen at hi3; omega) (by unfold maxLen at hi4; omega)
      clear hi1 hi2 hi3 hi4
      cases hq : frB ps ⟨fp, fpc, vs, cs⟩
      · rw [hq] at D
        have HD2 := Lib.hid D; clear D
        have HV : Hid (framesB ps fs = false) := Lib.hid (framesB_false (k := k) (by have := HL.out; omega) (by rw [okAt_of HX.out, hq, Bool.false_and]))
        clear hq
        go_wp2_with fail
        first | refine wp_region_ext2 (by kernel_rfl) (by kernel_rfl) ?_ | refine wp_region_ext (by kernel_rfl) (by kernel_rfl) ?_
        repeat (go_big_quiet_step ((first | (with_reducible exact ext_grow (HD2.out _ (by repeat (first | with_reducible exact Below.refl _ _ | with_reducible assumption | with_reducible apply grew_ext | with_reducible apply grew_al | with_reducible apply grew_dn | with_reducible apply grew_d | (with_reducible refine grew_set ?_ (by first | omega | (repeat (first | with_reducible exact Nat.le_refl _ | with_reducible apply le_pl | with_reducible apply le_ext | with_reducible apply le_al))) _))))))))
        refine wpQuiet_nil ?_
        intro _ hw'
        obtain ⟨x2, hw''⟩ := hw'
        subst hw''
        go_wp2
        go_ret
        refine ⟨by rw [HV.out]; rfl, ?_⟩
        repeat (first | with_reducible exact Below.refl _ _ | with_reducible assumption | with_reducible apply grew_ext | with_reducible apply grew_al | with_reducible apply grew_dn | with_reducible apply grew_d | (with_reducible refine grew_set ?_ (by first | omega | (repeat (first | with_reducible exact Nat.le_refl _ | with_reducible apply le_pl | with_reducible apply le_ext | with_reducible apply le_al))) _))
      · rw [hq] at D
        have HD2 := Lib.hid D; clear D
        have HQ := Lib.hid hq; clear hq
        have E : ∀ W, Grew w W → Calls Try.prog 25 #[.agg #[.slice a n cap], .int .i64 fp, .int .i64 fpc] W fun e w' => e = .returned (.tuple #[(insOf (atO ps fp fpc)).v, .bool (atO ps fp fpc).isSome]) ∧ Grew W w' := fun W h => specPrgAt a n cap ps fp fpc W (HR.out.grew h) hn
        have HE2 := Lib.hid E; clear E
        obtain ⟨J, hJ⟩ : ∃ J, insOf (atO ps fp fpc) = J := ⟨_, rfl⟩
        obtain ⟨B, hB⟩ : ∃ B, (atO ps fp fpc).isSome = B := ⟨_, rfl⟩
        rw [hJ, hB] at HE2
        have HJ := Lib.hid hJ; clear hJ hB
        obtain ⟨jo, jd, ja, jb, jr, jl, jh, jt⟩ := J
        go_wp2_with fail
        first | refine wp_region_ext2 (by kernel_rfl) (by kernel_rfl) ?_ | refine wp_region_ext (by kernel_rfl) (by kernel_rfl) ?_
        repeat (go_big_quiet_step ((first | (with_reducible exact ext_grow (HD2.out _ (by repeat (first | with_reducible exact Below.refl _ _ | with_reducible assumption | with_reducible apply grew_ext | with_reducible apply grew_al | with_reducible apply grew_dn | with_reducible apply grew_d | (with_reducible refine grew_set ?_ (by first | omega | (repeat (first | with_reducible exact Nat.le_refl _ | with_reducible apply le_pl | with_reducible apply le_ext | with_reducible apply le_al))) _))))))))
        refine wpQuiet_nil ?_
        intro _ hw'
        obtain ⟨x2, hw''⟩ := hw'
        subst hw''
        have SG : ∀ W, Grew ((w.alloc (.cells #[.slice a n cap] 35)).alloc (.cells #[.int .i64 1, .slice (some ⟨b, off, none⟩) fn fc, .int .i64 0, .int .i64 proc, .int .i64 pc] 88)) W → W.cell? ⟨w.heap.size, 0, none⟩ = some (.slice a n cap) ∧ W.cell? ⟨w.heap.size + 1, 1, none⟩ = some (.slice (some ⟨b, off, none⟩) fn fc) ∧ W.cell? ⟨b, off + k * 4, none⟩ = some (.int .i64 fp) ∧ W.cell? ⟨b, off + k * 4 + 1, none⟩ = some (.int .i64 fpc) := fun W h => ⟨(h.cell (p := ⟨w.heap.size, 0, none⟩) (by simp; omega)).trans (by simp [go_sem]), (h.cell (p := ⟨w.heap.size + 1, 1, none⟩) (by simp)).trans (by simp [go_sem]), (h.cell (p := ⟨b, off + k * 4, none⟩) (by simp [q1])).trans (by simp [go_sem, c0, hb, q0]), (h.cell (p := ⟨b, off + k * 4 + 1, none⟩) (by simp [q1])).trans (by simp [go_sem, c1, hb, q0])⟩
        go_wp2_with fail
        go_region_held3 (fun W => W.cell? ⟨w.heap.size, 0, none⟩ = some (.slice a n cap) ∧ W.cell? ⟨w.heap.size + 1, 1, none⟩ = some (.slice (some ⟨b, off, none⟩) fn fc) ∧ W.cell? ⟨b, off + k * 4, none⟩ = some (.int .i64 fp) ∧ W.cell? ⟨b, off + k * 4 + 1, none⟩ = some (.int .i64 fpc)) (first | exact SG _ (by repeat (first | with_reducible exact Below.refl _ _ | with_reducible assumption | with_reducible apply grew_ext | with_reducible apply grew_al | with_reducible apply grew_dn | with_reducible apply grew_d | (with_reducible refine grew_set ?_ (by first | omega | (repeat (first | with_reducible exact Nat.le_refl _ | with_reducible apply le_pl | with_reducible apply le_ext | with_reducible apply le_al))) _))))
          (first
          | (go_at_call 25; refine (HE2.out _ (by repeat (first | with_reducible exact Below.refl _ _ | with_reducible assumption | with_reducible apply grew_ext | with_reducible apply grew_al | with_reducible apply grew_dn | with_reducible apply grew_d | (with_reducible refine grew_set ?_ (by first | omega | (repeat (first | with_reducible exact Nat.le_refl _ | with_reducible apply le_pl | with_reducible apply le_ext | with_reducible apply le_al))) _)))).mono ?_; rintro e w2 ⟨rfl, g2⟩; (first | obtain ⟨x3, rfl⟩ := ext_cold g2 | obtain ⟨x3, rfl⟩ := ext_col g2 | obtain ⟨x3, rfl⟩ := ext_of g2); clear g2))
        · generalize hw5 : ((ext ((w.alloc (.cells #[.slice a n cap] 35)).alloc (.cells #[.int .i64 1, .slice (some ⟨b, off, none⟩) fn fc, .int .i64 0, .int .i64 proc, .int .i64 pc] 88)) x3).alloc (.cells #[.int .i64 jo, .int .i64 jd, .int .i64 ja, .int .i64 jb, .int .i64 jr, .int .i64 jl, .int .i64 jh, .int .i64 jt] 25)) = w5
          generalize hg : (ext ((w.alloc (.cells #[.slice a n cap] 35)).alloc (.cells #[.int .i64 1, .slice (some ⟨b, off, none⟩) fn fc, .int .i64 0, .int .i64 proc, .int .i64 pc] 88)) x3).heap.size = g
          have GW : Grew ((w.alloc (.cells #[.slice a n cap] 35)).alloc (.cells #[.int .i64 1, .slice (some ⟨b, off, none⟩) fn fc, .int .i64 0, .int .i64 proc, .int .i64 pc] 88)) w5 := by rw [← hw5]; repeat (first | with_reducible exact Below.refl _ _ | with_reducible assumption | with_reducible apply grew_ext | with_reducible apply grew_al | with_reducible apply grew_dn | with_reducible apply grew_d | (with_reducible refine grew_set ?_ (by first | omega | (repeat (first | with_reducible exact Nat.le_refl _ | with_reducible apply le_pl | with_reducible apply le_ext | with_reducible apply le_al))) _))
          have B5 : Blk w5 g 25 #[.int .i64 jo, .int .i64 jd, .int .i64 ja, .int .i64 jb, .int .i64 jr, .int .i64 jl, .int .i64 jh, .int .i64 jt] := by rw [← hw5, ← hg]; exact Blk.new _ _ _
          clear hw5 hg
          have lg := B5.lt
          have lb : b < w5.heap.size := Nat.lt_of_lt_of_le (by simp [q1]) GW.size
          have lw : w.heap.size + 1 < w5.heap.size := Nat.lt_of_lt_of_le (by simp) GW.size
          obtain ⟨s0, s1, s2, s3⟩ := SG _ GW
          have j0 : w5.cell? ⟨g, 0, none⟩ = some (.int .i64 jo) := B5.cell 0
          have j7 : w5.cell? ⟨g, 7, none⟩ = some (.int .i64 jt) := B5.cell 7
          have HGW := Lib.hid GW; clear GW B5 SG s0 s2 s3
          have hwr : IntKind.i64.wrap ((fn : Int) - 1) = (fn : Int) - 1 := by first | exact IntWalk.i64_in (by omega) (by omega) | exact IntWalk.i64_in _ (by omega) (by omega) | go_unwrap
          by_cases hl2 : k + 1 < fn
          · obtain ⟨b', off', gp, gpc, gvs, gcs, gva, gvc, gca, gcc, hbb, hx', d0, -, -, -, hb', -, -, -, -⟩ := rdF_at HF.out hl2
            obtain ⟨rfl, rfl⟩ : b' = b ∧ off' = off := by simp only [Option.some.injEq, Addr.mk.injEq, and_true] at hbb; exact ⟨hbb.1.symm, hbb.2.symm⟩
            clear hbb hb'
            have hl3 : (k : Int) < (fn : Int) - 1 := by omega
            have hl4 : decide ((k : Int) < (fn : Int) - 1) = true := decide_eq_true hl3
            have HV : Hid (okAt ps fs k = (decide (jo = 10) && decide (jt = gp))) := Lib.hid (by rw [okAt_of HX.out, HQ.out, hx', Bool.true_and]; simp only [linkB, HJ.out])
            clear hx'
            obtain ⟨m, hm⟩ : ∃ m : Nat, m = k + 1 := ⟨_, rfl⟩
            rw [← hm] at d0 hl2
            have hm1 : IntKind.i64.wrap ((k : Int) + 1) = (m : Int) := by rw [show (k : Int) + 1 = (m : Int) from by omega]; first | exact IntWalk.i64_in (by omega) (by omega) | exact IntWalk.i64_in _ (by omega) (by omega) | go_unwrap
            have d5 : w5.cell? ⟨b', off' + m * 4, none⟩ = some (.int .i64 gp) := (HGW.out.cell (p := ⟨b', off' + m * 4, none⟩) (by simp [q1])).trans (by simp [go_sem, d0, hb, q0])
            have HM := Lib.hid hm; clear d0 hm
            by_cases e1 : jo = 10
            · subst e1
              by_cases e2 : jt = gp
              · subst e2
                have HV2 : Hid (okAt ps fs k = true) := Lib.hid (by rw [HV.out]; simp)
                go_wp2_with fail
                first | refine wp_region_ext2 (by kernel_rfl) (by kernel_rfl) ?_ | refine wp_region_ext (by kernel_rfl) (by kernel_rfl) ?_
                repeat (go_big_quiet_step ((first | fail)))
                refine wpQuiet_nil ?_
                intro _ hw'
                obtain ⟨x4, hw''⟩ := hw'
                subst hw''
                go_wp2
                go_roundw
                case rel => exact ⟨m, by omega, by first | rfl | go_num, ext_of (grew_tr HGW.out (ext_grew _ x4)), fun j hj => by rw [HM.out] at hj; rcases Nat.lt_succ_iff_lt_or_eq.1 hj with h | rfl; exact HA.out j h; exact HV2.out⟩
                case measure => have := HM.out; simp [intOf]; omega
              · have HB2 : Hid (framesB ps fs = false) := Lib.hid (framesB_false (k := k) (by have := HL.out; omega) (by rw [HV.out]; simp [e2]))
                have e3 : (jt != gp) = true := by simp [e2]
                go_wp2_with fail
                first | refine wp_region_ext2 (by kernel_rfl) (by kernel_rfl) ?_ | refine wp_region_ext (by kernel_rfl) (by kernel_rfl) ?_
                repeat (go_big_quiet_step ((first | fail)))
                refine wpQuiet_nil ?_
                intro _ hw'
                obtain ⟨x4, hw''⟩ := hw'
                subst hw''
                go_wp2
                go_ret
                refine ⟨by rw [HB2.out]; rfl, ?_⟩
                have h := grew_tr (grew_al (grew_al (Below.refl _ w) _) _) HGW.out
                repeat (first | with_reducible exact Below.refl _ _ | with_reducible assumption | with_reducible apply grew_ext | with_reducible apply grew_al | with_reducible apply grew_dn | with_reducible apply grew_d | (with_reducible refine grew_set ?_ (by first | omega | (repeat (first | with_reducible exact Nat.le_refl _ | with_reducible apply le_pl | with_reducible apply le_ext | with_reducible apply le_al))) _))
            · have HB2 : Hid (framesB ps fs = false) := Lib.hid (framesB_false (k := k) (by have := HL.out; omega) (by rw [HV.out]; simp [e1]))
              have e3 : (jo != 10) = true := by simp [e1]
              go_wp2_with fail
              first | refine wp_region_ext2 (by kernel_rfl) (by kernel_rfl) ?_ | refine wp_region_ext (by kernel_rfl) (by kernel_rfl) ?_
              repeat (go_big_quiet_step ((first | fail)))
              refine wpQuiet_nil ?_
              intro _ hw'
              obtain ⟨x4, hw''⟩ := hw'
              subst hw''
              go_wp2
              go_ret
              refine ⟨by rw [HB2.out]; rfl, ?_⟩
              have h := grew_tr (grew_al (grew_al (Below.refl _ w) _) _) HGW.out
              repeat (first | with_reducible exact Below.refl _ _ | with_reducible assumption | with_reducible apply grew_ext | with_reducible apply grew_al | with_reducible apply grew_dn | with_reducible apply grew_d | (with_reducible refine grew_set ?_ (by first | omega | (repeat (first | with_reducible exact Nat.le_refl _ | with_reducible apply le_pl | with_reducible apply le_ext | with_reducible apply le_al))) _))
          · have hl3 : ¬ (k : Int) < (fn : Int) - 1 := by omega
            have hl4 : decide ((k : Int) < (fn : Int) - 1) = false := decide_eq_false hl3
            have HV : Hid (okAt ps fs k = true) := Lib.hid (by rw [okAt_of HX.out, HQ.out, show fs[k + 1]? = none from List.getElem?_eq_none (by have := HL.out; omega)]; rfl)
            go_wp2_with fail
            first | refine wp_region_ext2 (by kernel_rfl) (by kernel_rfl) ?_ | refine wp_region_ext (by kernel_rfl) (by kernel_rfl) ?_
            repeat (go_big_quiet_step ((first | fail)))
            refine wpQuiet_nil ?_
            intro _ hw'
            obtain ⟨x4, hw''⟩ := hw'
            subst hw''
            go_wp2
            go_roundw
            case rel => exact ⟨k + 1, by omega, by go_num, ext_of (grew_tr HGW.out (ext_grew _ x4)), fun j hj => by rcases Nat.lt_succ_iff_lt_or_eq.1 hj with h | rfl; exact HA.out j h; exact HV.out⟩
            case measure => simp [intOf]; omega
        · generalize hw5 : (((((((((ext ((ext ((w.alloc (.cells #[.slice a n cap] 35)).alloc (.cells #[.int .i64 1, .slice (some ⟨b, off, none⟩) fn fc, .int .i64 0, .int .i64 proc, .int .i64 pc] 88)) x2).alloc (.cells #[.int .i64 0, .int .i64 0, .int .i64 0, .int .i64 0, .int .i64 0, .int .i64 0, .int .i64 0, .int .i64 0] 25)).drew x3)).setCell ⟨(ext ((w.alloc (.cells #[.slice a n cap] 35)).alloc (.cells #[.int .i64 1, .slice (some ⟨b, off, none⟩) fn fc, .int .i64 0, .int .i64 proc, .int .i64 pc] 88)) x2).heap.size, 0, none⟩ (.int .i64 jo)).setCell ⟨(ext ((w.alloc (.cells #[.slice a n cap] 35)).alloc (.cells #[.int .i64 1, .slice (some ⟨b, off, none⟩) fn fc, .int .i64 0, .int .i64 proc, .int .i64 pc] 88)) x2).heap.size, 1, none⟩ (.int .i64 jd)).setCell ⟨(ext ((w.alloc (.cells #[.slice a n cap] 35)).alloc (.cells #[.int .i64 1, .slice (some ⟨b, off, none⟩) fn fc, .int .i64 0, .int .i64 proc, .int .i64 pc] 88)) x2).heap.size, 2, none⟩ (.int .i64 ja)).setCell ⟨(ext ((w.alloc (.cells #[.slice a n cap] 35)).alloc (.cells #[.int .i64 1, .slice (some ⟨b, off, none⟩) fn fc, .int .i64 0, .int .i64 proc, .int .i64 pc] 88)) x2).heap.size, 3, none⟩ (.int .i64 jb)).setCell ⟨(ext ((w.alloc (.cells #[.slice a n cap] 35)).alloc (.cells #[.int .i64 1, .slice (some ⟨b, off, none⟩) fn fc, .int .i64 0, .int .i64 proc, .int .i64 pc] 88)) x2).heap.size, 4, none⟩ (.int .i64 jr)).setCell ⟨(ext ((w.alloc (.cells #[.slice a n cap] 35)).alloc (.cells #[.int .i64 1, .slice (some ⟨b, off, none⟩) fn fc, .int .i64 0, .int .i64 proc, .int .i64 pc] 88)) x2).heap.size, 5, none⟩ (.int .i64 jl)).setCell ⟨(ext ((w.alloc (.cells #[.slice a n cap] 35)).alloc (.cells #[.int .i64 1, .slice (some ⟨b, off, none⟩) fn fc, .int .i64 0, .int .i64 proc, .int .i64 pc] 88)) x2).heap.size, 6, none⟩ (.int .i64 jh)).setCell ⟨(ext ((w.alloc (.cells #[.slice a n cap] 35)).alloc (.cells #[.int .i64 1, .slice (some ⟨b, off, none⟩) fn fc, .int .i64 0, .int .i64 proc, .int .i64 pc] 88)) x2).heap.size, 7, none⟩ (.int .i64 jt) = w5
          generalize hg : (ext ((w.alloc (.cells #[.slice a n cap] 35)).alloc (.cells #[.int .i64 1, .slice (some ⟨b, off, none⟩) fn fc, .int .i64 0, .int .i64 proc, .int .i64 pc] 88)) x2).heap.size = g
          have GW : Grew ((w.alloc (.cells #[.slice a n cap] 35)).alloc (.cells #[.int .i64 1, .slice (some ⟨b, off, none⟩) fn fc, .int .i64 0, .int .i64 proc, .int .i64 pc] 88)) w5 := by rw [← hw5]; repeat (first | with_reducible exact Below.refl _ _ | with_reducible assumption | with_reducible apply grew_ext | with_reducible apply grew_al | with_reducible apply grew_dn | with_reducible apply grew_d | (with_reducible refine grew_set ?_ (by first | omega | (repeat (first | with_reducible exact Nat.le_refl _ | with_reducible apply le_pl | with_reducible apply le_ext | with_reducible apply le_al))) _))
          have B5 : Blk w5 g 25 #[.int .i64 jo, .int .i64 jd, .int .i64 ja, .int .i64 jb, .int .i64 jr, .int .i64 jl, .int .i64 jh, .int .i64 jt] := by rw [← hw5, ← hg]; exact ((((((((((Blk.new (ext ((w.alloc (.cells #[.slice a n cap] 35)).alloc (.cells #[.int .i64 1, .slice (some ⟨b, off, none⟩) fn fc, .int .i64 0, .int .i64 proc, .int .i64 pc] 88)) x2) 25 #[.int .i64 0, .int .i64 0, .int .i64 0, .int .i64 0, .int .i64 0, .int .i64 0, .int .i64 0, .int .i64 0]).grew (grew_d (Below.refl _ _))).grew (ext_grew _ x3)).set_ 0 _).set_ 1 _).set_ 2 _).set_ 3 _).set_ 4 _).set_ 5 _).set_ 6 _).set_ 7 _
          clear hw5 hg
          have lg := B5.lt
          have lb : b < w5.heap.size := Nat.lt_of_lt_of_le (by simp [q1]) GW.size
          have lw : w.heap.size + 1 < w5.heap.size := Nat.lt_of_lt_of_le (by simp) GW.size
          obtain ⟨s0, s1, s2, s3⟩ := SG _ GW
          have j0 : w5.cell? ⟨g, 0, none⟩ = some (.int .i64 jo) := B5.cell 0
          have j7 : w5.cell? ⟨g, 7, none⟩ = some (.int .i64 jt) := B5.cell 7
          have HGW := Lib.hid GW; clear GW B5 SG s0 s2 s3
          have hwr : IntKind.i64.wrap ((fn : Int) - 1) = (fn : Int) - 1 := by first | exact IntWalk.i64_in (by omega) (by omega) | exact IntWalk.i64_in _ (by omega) (by omega) | go_unwrap
          by_cases hl2 : k + 1 < fn
          · obtain ⟨b', off', gp, gpc, gvs, gcs, gva, gvc, gca, gcc, hbb, hx', d0, -, -, -, hb', -, -, -, -⟩ := rdF_at HF.out hl2
            obtain ⟨rfl, rfl⟩ : b' = b ∧ off' = off := by simp only [Option.some.injEq, Addr.mk.injEq, and_true] at hbb; exact ⟨hbb.1.symm, hbb.2.symm⟩
            clear hbb hb'
            have hl3 : (k : Int) < (fn : Int) - 1 := by omega
            have hl4 : decide ((k : Int) < (fn : Int) - 1) = true := decide_eq_true hl3
            have HV : Hid (okAt ps fs k = (decide (jo = 10) && decide (jt = gp))) := Lib.hid (by rw [okAt_of HX.out, HQ.out, hx', Bool.true_and]; simp only [linkB, HJ.out])
            clear hx'
            obtain ⟨m, hm⟩ : ∃ m : Nat, m = k + 1 := ⟨_, rfl⟩
            rw [← hm] at d0 hl2
            have hm1 : IntKind.i64.wrap ((k : Int) + 1) = (m : Int) := by rw [show (k : Int) + 1 = (m : Int) from by omega]; first | exact IntWalk.i64_in (by omega) (by omega) | exact IntWalk.i64_in _ (by omega) (by omega) | go_unwrap
            have d5 : w5.cell? ⟨b', off' + m * 4, none⟩ = some (.int .i64 gp) := (HGW.out.cell (p := ⟨b', off' + m * 4, none⟩) (by simp [q1])).trans (by simp [go_sem, d0, hb, q0])
            have HM := Lib.hid hm; clear d0 hm
            by_cases e1 : jo = 10
            · subst e1
              by_cases e2 : jt = gp
              · subst e2
                have HV2 : Hid (okAt ps fs k = true) := Lib.hid (by rw [HV.out]; simp)
                go_wp2_with fail
                first | refine wp_region_ext2 (by kernel_rfl) (by kernel_rfl) ?_ | refine wp_region_ext (by kernel_rfl) (by kernel_rfl) ?_
                repeat (go_big_quiet_step ((first | fail)))
                refine wpQuiet_nil ?_
                intro _ hw'
                obtain ⟨x4, hw''⟩ := hw'
                subst hw''
                go_wp2
                go_roundw
                case rel => exact ⟨m, by omega, by first | rfl | go_num, ext_of (grew_tr HGW.out (ext_grew _ x4)), fun j hj => by rw [HM.out] at hj; rcases Nat.lt_succ_iff_lt_or_eq.1 hj with h | rfl; exact HA.out j h; exact HV2.out⟩
                case measure => have := HM.out; simp [intOf]; omega
              · have HB2 : Hid (framesB ps fs = false) := Lib.hid (framesB_false (k := k) (by have := HL.out; omega) (by rw [HV.out]; simp [e2]))
                have e3 : (jt != gp) = true := by simp [e2]
                go_wp2_with fail
                first | refine wp_region_ext2 (by kernel_rfl) (by kernel_rfl) ?_ | refine wp_region_ext (by kernel_rfl) (by kernel_rfl) ?_
                repeat (go_big_quiet_step ((first | fail)))
                refine wpQuiet_nil ?_
                intro _ hw'
                obtain ⟨x4, hw''⟩ := hw'
                subst hw''
                go_wp2
                go_ret
                refine ⟨by rw [HB2.out]; rfl, ?_⟩
                have h := grew_tr (grew_al (grew_al (Below.refl _ w) _) _) HGW.out
                repeat (first | with_reducible exact Below.refl _ _ | with_reducible assumption | with_reducible apply grew_ext | with_reducible apply grew_al | with_reducible apply grew_dn | with_reducible apply grew_d | (with_reducible refine grew_set ?_ (by first | omega | (repeat (first | with_reducible exact Nat.le_refl _ | with_reducible apply le_pl | with_reducible apply le_ext | with_reducible apply le_al))) _))
            · have HB2 : Hid (framesB ps fs = false) := Lib.hid (framesB_false (k := k) (by have := HL.out; omega) (by rw [HV.out]; simp [e1]))
              have e3 : (jo != 10) = true := by simp [e1]
              go_wp2_with fail
              first | refine wp_region_ext2 (by kernel_rfl) (by kernel_rfl) ?_ | refine wp_region_ext (by kernel_rfl) (by kernel_rfl) ?_
              repeat (go_big_quiet_step ((first | fail)))
              refine wpQuiet_nil ?_
              intro _ hw'
              obtain ⟨x4, hw''⟩ := hw'
              subst hw''
              go_wp2
              go_ret
              refine ⟨by rw [HB2.out]; rfl, ?_⟩
              have h := grew_tr (grew_al (grew_al (Below.refl _ w) _) _) HGW.out
              repeat (first | with_reducible exact Below.refl _ _ | with_reducible assumption | with_reducible apply grew_ext | with_reducible apply grew_al | with_reducible apply grew_dn | with_reducible apply grew_d | (with_reducible refine grew_set ?_ (by first | omega | (repeat (first | with_reducible exact Nat.le_refl _ | with_reducible apply le_pl | with_reducible apply le_ext | with_reducible apply le_al))) _))
          · have hl3 : ¬ (k : Int) < (fn : Int) - 1 := by omega
            have hl4 : decide ((k : Int) < (fn : Int) - 1) = false := decide_eq_false hl3
            have HV : Hid (okAt ps fs k = true) := Lib.hid (by rw [okAt_of HX.out, HQ.out, show fs[k + 1]? = none from List.getElem?_eq_none (by have := HL.out; omega)]; rfl)
            go_wp2_with fail
            first | refine wp_region_ext2 (by kernel_rfl) (by kernel_rfl) ?_ | refine wp_region_ext (by kernel_rfl) (by kernel_rfl) ?_
            repeat (go_big_quiet_step ((first | fail)))
            refine wpQuiet_nil ?_
            intro _ hw'
            obtain ⟨x4, hw''⟩ := hw'
            subst hw''
            go_wp2
            go_roundw
            case rel => exact ⟨k + 1, by omega, by go_num, ext_of (grew_tr HGW.out (ext_grew _ x4)), fun j hj => by rcases Nat.lt_succ_iff_lt_or_eq.1 hj with h | rfl; exact HA.out j h; exact HV.out⟩
            case measure => simp [intOf]; omega
    · obtain rfl : k = fn := by omega
      have HV : Hid (framesB ps fs = true) := Lib.hid (framesB_true (by rw [HL.out]; exact HA.out))
      by_cases e1 : 0 < k
      · by_cases e2 : proc = 0
        · by_cases e3 : pc = 0
          · go_wp2
            go_ret
            refine ⟨by rw [HV.out, HL.out]; simp [e1, e2, e3], ?_⟩
            repeat (first | with_reducible exact Below.refl _ _ | with_reducible assumption | with_reducible apply grew_ext | with_reducible apply grew_al | with_reducible apply grew_dn | with_reducible apply grew_d | (with_reducible refine grew_set ?_ (by first | omega | (repeat (first | with_reducible exact Nat.le_refl _ | with_reducible apply le_pl | with_reducible apply le_ext | with_reducible apply le_al))) _))
          · go_wp2
            go_ret
            refine ⟨by rw [HV.out, HL.out]; simp [e1, e2, e3], ?_⟩
            repeat (first | with_reducible exact Below.refl _ _ | with_reducible assumption | with_reducible apply grew_ext | with_reducible apply grew_al | with_reducible apply grew_dn | with_reducible apply grew_d | (with_reducible refine grew_set ?_ (by first | omega | (repeat (first | with_reducible exact Nat.le_refl _ | with_reducible apply le_pl | with_reducible apply le_ext | with_reducible apply le_al))) _))
        · go_wp2
          go_ret
          refine ⟨by rw [HV.out, HL.out]; simp [e1, e2], ?_⟩
          repeat (first | with_reducible exact Below.refl _ _ | with_reducible assumption | with_reducible apply grew_ext | with_reducible apply grew_al | with_reducible apply grew_dn | with_reducible apply grew_d | (with_reducible refine grew_set ?_ (by first | omega | (repeat (first | with_reducible exact Nat.le_refl _ | with_reducible apply le_pl | with_reducible apply le_ext | with_reducible apply le_al))) _))
      · go_wp2
        go_ret
        refine ⟨by rw [HV.out, HL.out]; simp [e1], ?_⟩
        repeat (first | with_reducible exact Below.refl _ _ | with_reducible assumption | with_reducible apply grew_ext | with_reducible apply grew_al | with_reducible apply grew_dn | with_reducible apply grew_d | (with_reducible refine grew_set ?_ (by first | omega | (repeat (first | with_reducible exact Nat.le_refl _ | with_reducible apply le_pl | with_reducible apply le_ext | with_reducible apply le_al))) _))
end Go.Proofs.Ytmknnbbhhnmpaaa
