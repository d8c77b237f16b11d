/- Whether a run is ok: the program. No condition. -/
import Derived.Test.YtnjoofpllhbccaaRunOkS
import Derived.Test.YtnjoofpllhbccaaEnter
namespace Go.Proofs.Ytnjoofpllhbccaa
open Go.RowKit
set_option linter.unusedVariables false
attribute [local go_sem] ext_cell ext_frozen ext_lt ext_le ext_le1 lt_s2 lt_s3 lt_s4 lt_s5 lt_s6 ext_lt1 ext_lt2 ext_lt3

def framesOkB (ps : List Prc) (fs : List Fr) : Bool := decide (1 ≤ fs.length) && decide (fs.length ≤ 5) && framesB ps fs
set_option maxRecDepth 100000 in
set_option maxHeartbeats 4000000 in
theorem implFramesOk (a : Option Addr) (n cap : Nat) (ps : List Prc) (fa : Option Addr) (fn fc : Nat) (fs : List Fr) (w : World) (hr : RdP w a n ps) (hn : n ≤ 9223372036854775807) (hf : RdF w fa fn fs) (hfn : fn ≤ 9223372036854775807) :
    Calls Try.prog 109 #[.agg #[.slice a n cap], .slice fa fn fc] w fun e w' => e = .returned (.bool (framesOkB ps fs)) ∧ Grew w w' := by
  have HL := Lib.hid hf.len
  have HF := Lib.hid hf; clear hf
  have HR := Lib.hid hr; clear hr
  by_cases h1 : fn < 1
  · have h2 : (fn : Int) < 1 := by omega
    have HZ : Hid (framesOkB ps fs = false) := Lib.hid (by rw [framesOkB, HL.out, decide_eq_false (by omega), Bool.false_and, Bool.false_and])
    clear h1 hfn
    go_enter Try.func109, Try.ntmps109
    go_wp2
    go_ret
    refine ⟨by rw [HZ.out]; rfl, ?_⟩
    repeat (first | with_reducible exact Below.refl _ _ | with_reducible assumption | with_reducible apply grew_ext | with_reducible apply grew_al | with_reducible apply grew_dn | with_reducible apply grew_d | (with_reducible refine grew_set ?_ (by first | omega | (repeat (first | with_reducible exact Nat.le_refl _ | with_reducible apply le_pl | with_reducible apply le_ext | with_reducible apply le_al))) _))
  by_cases h5 : 5 < fn
  · have h2 : ¬ (fn : Int) < 1 := by omega
    have h3 : (fn : Int) > 5 := by omega
    have HZ : Hid (framesOkB ps fs = false) := Lib.hid (by rw [framesOkB, HL.out, decide_eq_false (p := fn ≤ 5) (by omega), Bool.and_false, Bool.false_and])
    clear h1 hfn h5
    go_enter Try.func109, Try.ntmps109
    go_wp2
    go_ret
    refine ⟨by rw [HZ.out]; rfl, ?_⟩
    repeat (first | with_reducible exact Below.refl _ _ | with_reducible assumption | with_reducible apply grew_ext | with_reducible apply grew_al | with_reducible apply grew_dn | with_reducible apply grew_d | (with_reducible refine grew_set ?_ (by first | omega | (repeat (first | with_reducible exact Nat.le_refl _ | with_reducible apply le_pl | with_reducible apply le_ext | with_reducible apply le_al))) _))
  have h2 : ¬ (fn : Int) < 1 := by omega
  have h3 : ¬ (fn : Int) > 5 := by omega
  have HZ : Hid (framesOkB ps fs = framesB ps fs) := Lib.hid (by rw [framesOkB, HL.out, decide_eq_true (p := 1 ≤ fn) (by omega), decide_eq_true (p := fn ≤ 5) (by omega), Bool.true_and, Bool.true_and])
  have h4 : fn ≤ 5 := by omega
  clear h1 h5 hfn
  go_enter Try.func109, Try.ntmps109
  go_wp2
  go_loopw [19] (fun i wr => ∃ k : Nat, k ≤ fn ∧ i = .int .i64 k ∧ (∃ x, wr = ext (w.alloc (.cells #[.slice a n cap] 49)) x) ∧ ∀ j, j < k → okAt ps fs j = true) (fun i _ => fn - (intOf i).toNat)
  case atStart => exact ⟨0, Nat.zero_le _, rfl, ext_of (Below.refl _ _), fun j hj => absurd hj (by omega)⟩
  case round =>
    obtain ⟨k, hk, rfl, ⟨x, rfl⟩, hall⟩ := hrel
    have HA := Lib.hid hall; clear hall
    by_cases hlt : k < fn
    · obtain ⟨b, off, fp, fpc, vs, cs, va, vc, ca, cc, rfl, hx, c0, c1, c2, c3, hb, hi1, hi2, hi3, hi4⟩ := rdF_at HF.out hlt
      obtain ⟨q0, q1, q2⟩ := lt3 hb
      have HX := Lib.hid hx; clear hx
      have D := fun W (h : Grew w W) => implNumbersOk va vs.length vc vs 4 W (hi1.grew h) (by unfold maxLen at hi3; omega)
      have D2 := fun W (h : Grew w W) => implNumbersOk ca cs.length cc cs 4 W (hi2.grew h) (by unfold maxLen at hi4; omega)
      clear hi1 hi2 hi3 hi4
      have E : ∀ W, Grew w W → Calls Try.prog 28 #[.agg #[.slice a n cap], .int .i64 fp, .int .i64 fpc] W fun e w' => e = .returned (.tuple #[(insOf (atO ps fp fpc)).v, .bool (atO ps fp fpc).isSome]) ∧ Grew W w' := fun W h => implPrgAt a n cap ps fp fpc W (HR.out.grew h) hn
      have HQ0 : Hid (okAt ps fs k = (frB ps ⟨fp, fpc, vs, cs⟩ && linkB ps ⟨fp, fpc, vs, cs⟩ fs[k + 1]?)) := Lib.hid (okAt_of HX.out)
      have HV0 : Hid (frB ps ⟨fp, fpc, vs, cs⟩ = ((atO ps fp fpc).isSome && numsB vs 4 && numsB cs 4)) := Lib.hid rfl
      obtain ⟨J, hJ⟩ : ∃ J, insOf (atO ps fp fpc) = J := ⟨_, rfl⟩
      obtain ⟨B, hB⟩ : ∃ B, (atO ps fp fpc).isSome = B := ⟨_, rfl⟩
      obtain ⟨B1, hB1⟩ : ∃ B, numsB vs 4 = B := ⟨_, rfl⟩
      obtain ⟨B2, hB2⟩ : ∃ B, numsB cs 4 = B := ⟨_, rfl⟩
      rw [hJ, hB] at E
      rw [hB1] at D
      rw [hB2] at D2
      have HQ : Hid (frB ps ⟨fp, fpc, vs, cs⟩ = (B && B1 && B2)) := Lib.hid (by rw [HV0.out, hB, hB1, hB2])
      have HJ := Lib.hid hJ; clear hJ hB hB1 hB2 HV0
      have HE2 := Lib.hid E; clear E
      have HD := Lib.hid D; clear D
      have HD2 := Lib.hid D2; clear D2
      obtain ⟨jo, jd, ja, jb, jr, jl, jh, jt⟩ := J
      go_wp2_with fail
      refine (HE2.out _ (by repeat (first | with_reducible exact Below.refl _ _ | with_reducible assumption | with_reducible apply grew_ext | with_reducible apply grew_al | with_reducible apply grew_dn | with_reducible apply grew_d | (with_reducible refine grew_set ?_ (by first | omega | (repeat (first | with_reducible exact Nat.le_refl _ | with_reducible apply le_pl | with_reducible apply le_ext | with_reducible apply le_al))) _)))).mono ?_
      rintro e w2 ⟨rfl, g2⟩
      have GW : Grew (w.alloc (.cells #[.slice (a) n cap] 49)) w2 := grew_tr (by repeat (first | with_reducible exact Below.refl _ _ | with_reducible assumption | with_reducible apply grew_ext | with_reducible apply grew_al | with_reducible apply grew_dn | with_reducible apply grew_d | (with_reducible refine grew_set ?_ (by first | omega | (repeat (first | with_reducible exact Nat.le_refl _ | with_reducible apply le_pl | with_reducible apply le_ext | with_reducible apply le_al))) _))) g2
      have hfb := (Boxd.new (ext (w.alloc (.cells #[.slice a n cap] 49)) x) 76 #[.int .i64 fp, .int .i64 fpc, .slice va vs.length vc, .slice ca cs.length cc]).grew g2
      generalize (ext (w.alloc (.cells #[.slice a n cap] 49)) x).heap.size = g at *
      have lg := hfb.1
      have r2 : w2.cell? ⟨g, 2, none⟩ = some (.slice va vs.length vc) := hfb.2 2 _ rfl
      have r3 : w2.cell? ⟨g, 3, none⟩ = some (.slice ca cs.length cc) := hfb.2 3 _ rfl
      have lb : b < w2.heap.size := Nat.lt_of_lt_of_le (by simp; omega) GW.size
      have lw : w.heap.size < w2.heap.size := Nat.lt_of_lt_of_le (by simp) GW.size
      have p0 : w2.cell? ⟨w.heap.size, 0, none⟩ = some (.slice a n cap) := (GW.cell (p := ⟨w.heap.size, 0, none⟩) (by simp)).trans (by simp [go_sem])
      have HGW := Lib.hid GW
      have HG0 := Lib.hid (grew_tr (grew_al (Below.refl _ w) _) GW)
      clear hfb g2 GW
      cases hbb : (B && B1 && B2)
      · have HB2 : Hid (framesOkB ps fs = false) := Lib.hid (by rw [HZ.out]; exact framesB_false (k := k) (by have := HL.out; omega) (by rw [HQ0.out, HQ.out, hbb, Bool.false_and]))
        cases B
        · clear hbb
          go_wp2
          go_ret
          refine ⟨by rw [HB2.out]; rfl, ?_⟩
          have h := HG0.out
          repeat (first | with_reducible exact Below.refl _ _ | with_reducible assumption | with_reducible apply grew_ext | with_reducible apply grew_al | with_reducible apply grew_dn | with_reducible apply grew_d | (with_reducible refine grew_set ?_ (by first | omega | (repeat (first | with_reducible exact Nat.le_refl _ | with_reducible apply le_pl | with_reducible apply le_ext | with_reducible apply le_al))) _))
        cases B1
        · clear hbb
          go_wp2_with (first | ((with_reducible refine (HD.out _ (by have h := HG0.out; repeat (first | with_reducible exact Below.refl _ _ | with_reducible assumption | with_reducible apply grew_ext | with_reducible apply grew_al | with_reducible apply grew_dn | with_reducible apply grew_d | (with_reducible refine grew_set ?_ (by first | omega | (repeat (first | with_reducible exact Nat.le_refl _ | with_reducible apply le_pl | with_reducible apply le_ext | with_reducible apply le_al))) _)))).mono ?_); rintro e w' ⟨rfl, rfl⟩) | ((with_reducible refine (HD2.out _ (by have h := HG0.out; repeat (first | with_reducible exact Below.refl _ _ | with_reducible assumption | with_reducible apply grew_ext | with_reducible apply grew_al | with_reducible apply grew_dn | with_reducible apply grew_d | (with_reducible refine grew_set ?_ (by first | omega | (repeat (first | with_reducible exact Nat.le_refl _ | with_reducible apply le_pl | with_reducible apply le_ext | with_reducible apply le_al))) _)))).mono ?_); rintro e w' ⟨rfl, rfl⟩))
          go_ret
          refine ⟨by rw [HB2.out]; rfl, ?_⟩
          have h := HG0.out
          repeat (first | with_reducible exact Below.refl _ _ | with_reducible assumption | with_reducible apply grew_ext | with_reducible apply grew_al | with_reducible apply grew_dn | with_reducible apply grew_d | (with_reducible refine grew_set ?_ (by first | omega | (repeat (first | with_reducible exact Nat.le_refl _ | with_reducible apply le_pl | with_reducible apply le_ext | with_reducible apply le_al))) _))
        cases B2
        · clear hbb
          go_wp2_with (first | ((with_reducible refine (HD.out _ (by have h := HG0.out; repeat (first | with_reducible exact Below.refl _ _ | with_reducible assumption | with_reducible apply grew_ext | with_reducible apply grew_al | with_reducible apply grew_dn | with_reducible apply grew_d | (with_reducible refine grew_set ?_ (by first | omega | (repeat (first | with_reducible exact Nat.le_refl _ | with_reducible apply le_pl | with_reducible apply le_ext | with_reducible apply le_al))) _)))).mono ?_); rintro e w' ⟨rfl, rfl⟩) | ((with_reducible refine (HD2.out _ (by have h := HG0.out; repeat (first | with_reducible exact Below.refl _ _ | with_reducible assumption | with_reducible apply grew_ext | with_reducible apply grew_al | with_reducible apply grew_dn | with_reducible apply grew_d | (with_reducible refine grew_set ?_ (by first | omega | (repeat (first | with_reducible exact Nat.le_refl _ | with_reducible apply le_pl | with_reducible apply le_ext | with_reducible apply le_al))) _)))).mono ?_); rintro e w' ⟨rfl, rfl⟩))
          go_ret
          refine ⟨by rw [HB2.out]; rfl, ?_⟩
          have h := HG0.out
          repeat (first | with_reducible exact Below.refl _ _ | with_reducible assumption | with_reducible apply grew_ext | with_reducible apply grew_al | with_reducible apply grew_dn | with_reducible apply grew_d | (with_reducible refine grew_set ?_ (by first | omega | (repeat (first | with_reducible exact Nat.le_refl _ | with_reducible apply le_pl | with_reducible apply le_ext | with_reducible apply le_al))) _))
        · cases hbb
      obtain ⟨rfl, rfl, rfl⟩ : B = true ∧ B1 = true ∧ B2 = true := by revert hbb; cases B <;> cases B1 <;> cases B2 <;> simp
      clear hbb
      go_wp2_with fail
      have hw5 : ∃ w5, w2.alloc (.cells #[.int .i64 jo, .int .i64 jd, .int .i64 ja, .int .i64 jb, .int .i64 jr, .int .i64 jl, .int .i64 jh, .int .i64 jt] 53) = w5 := ⟨_, rfl⟩
      obtain ⟨w5, hw5⟩ := hw5
      rw [hw5]
      have G5 : Grew w2 w5 := by rw [← hw5]; repeat (first | with_reducible exact Below.refl _ _ | with_reducible assumption | with_reducible apply grew_ext | with_reducible apply grew_al | with_reducible apply grew_dn | with_reducible apply grew_d | (with_reducible refine grew_set ?_ (by first | omega | (repeat (first | with_reducible exact Nat.le_refl _ | with_reducible apply le_pl | with_reducible apply le_ext | with_reducible apply le_al))) _))
      have B5 : Blk w5 w2.heap.size 53 #[.int .i64 jo, .int .i64 jd, .int .i64 ja, .int .i64 jb, .int .i64 jr, .int .i64 jl, .int .i64 jh, .int .i64 jt] := by rw [← hw5]; exact Blk.new _ _ _
      clear hw5
      have r2' : w5.cell? ⟨g, 2, none⟩ = some (.slice va vs.length vc) := (G5.cell (p := ⟨g, 2, none⟩) lg).trans r2
      have r3' : w5.cell? ⟨g, 3, none⟩ = some (.slice ca cs.length cc) := (G5.cell (p := ⟨g, 3, none⟩) lg).trans r3
      have p0' : w5.cell? ⟨w.heap.size, 0, none⟩ = some (.slice a n cap) := (G5.cell (p := ⟨w.heap.size, 0, none⟩) lw).trans p0
      have lg5 : g < w5.heap.size := Nat.lt_of_lt_of_le lg G5.size
      have lb5 : b < w5.heap.size := Nat.lt_of_lt_of_le lb G5.size
      have lw5 : w.heap.size < w5.heap.size := Nat.lt_of_lt_of_le lw G5.size
      have j0 : w5.cell? ⟨w2.heap.size, 0, none⟩ = some (.int .i64 jo) := B5.cell 0
      have j7 : w5.cell? ⟨w2.heap.size, 7, none⟩ = some (.int .i64 jt) := B5.cell 7
      have lj := B5.lt
      have HGW5 := Lib.hid (grew_tr HGW.out G5)
      have HG5 := Lib.hid (grew_tr HG0.out G5)
      generalize w2.heap.size = g2 at *
      clear r2 r3 p0 lg lb lw B5 G5 HGW HG0
      refine (HD.out _ HG5.out).mono ?_
      rintro e w' ⟨rfl, rfl⟩
      go_wp2_with fail
      refine (HD2.out _ HG5.out).mono ?_
      rintro e w' ⟨rfl, rfl⟩
      clear r2' r3' HE2
      by_cases hl2 : k + 1 < fn
      · obtain ⟨b', off', gp, gpc, gvs, gcs, gva, gvc, gca, gcc, hbb, hx', d0, -, -, -, hb', -, -, -, -⟩ := rdF_at HF.out hl2
        obtain ⟨rfl, rfl⟩ : b' = b ∧ off' = off := by simp only [Option.some.injEq, Addr.mk.injEq, and_true] at hbb; exact ⟨hbb.1.symm, hbb.2.symm⟩
        clear hbb hb'
        have HV : Hid (okAt ps fs k = (decide (jo = 10) && decide (jt = gp))) := Lib.hid (by rw [HQ0.out, HQ.out, hx']; simp only [linkB, HJ.out]; rfl)
        clear hx'
        obtain ⟨m, hm⟩ : ∃ m : Nat, m = k + 1 := ⟨_, rfl⟩
        rw [← hm] at d0 hl2
        have hm1 : IntKind.i64.wrap ((k : Int) + 1) = (m : Int) := by rw [show (k : Int) + 1 = (m : Int) from by omega]; first | exact IntWalk.i64_in (by omega) (by omega) | exact IntWalk.i64_in _ (by omega) (by omega) | go_unwrap
        have hl3 : (m : Int) < (fn : Int) := by omega
        have hl4 : decide ((m : Int) < (fn : Int)) = true := decide_eq_true hl3
        have d5 : w5.cell? ⟨b', off' + m * 4, none⟩ = some (.int .i64 gp) := (HG5.out.cell (p := ⟨b', off' + m * 4, none⟩) hb).trans d0
        have HM := Lib.hid hm; clear d0 hm
        by_cases e1 : jo = 10
        · subst e1
          by_cases e2 : jt = gp
          · subst e2
            have HV2 : Hid (okAt ps fs k = true) := Lib.hid (by rw [HV.out]; simp)
            go_wp2_with fail
            first | refine wp_region_ext2 (by kernel_rfl) (by kernel_rfl) ?_ | refine wp_region_ext (by kernel_rfl) (by kernel_rfl) ?_
            repeat (go_big_quiet_step ((first | fail)))
            refine wpQuiet_nil ?_
            intro _ hw'
            obtain ⟨x4, hw''⟩ := hw'
            subst hw''
            go_wp2
            go_roundw
            case rel => exact ⟨m, by omega, by first | rfl | go_num, ext_of (grew_tr HGW5.out (ext_grew _ x4)), fun j hj => by rw [HM.out] at hj; rcases Nat.lt_succ_iff_lt_or_eq.1 hj with h | rfl; exact HA.out j h; exact HV2.out⟩
            case measure => have := HM.out; simp [intOf]; omega
          · have HB2 : Hid (framesOkB ps fs = false) := Lib.hid (by rw [HZ.out]; exact framesB_false (k := k) (by have := HL.out; omega) (by rw [HV.out]; simp [e2]))
            have e3 : (jt != gp) = true := by simp [e2]
            go_wp2_with fail
            first | refine wp_region_ext2 (by kernel_rfl) (by kernel_rfl) ?_ | refine wp_region_ext (by kernel_rfl) (by kernel_rfl) ?_
            repeat (go_big_quiet_step ((first | fail)))
            refine wpQuiet_nil ?_
            intro _ hw'
            obtain ⟨x4, hw''⟩ := hw'
            subst hw''
            go_wp2
            go_ret
            refine ⟨by rw [HB2.out]; rfl, ?_⟩
            have h := HG5.out
            repeat (first | with_reducible exact Below.refl _ _ | with_reducible assumption | with_reducible apply grew_ext | with_reducible apply grew_al | with_reducible apply grew_dn | with_reducible apply grew_d | (with_reducible refine grew_set ?_ (by first | omega | (repeat (first | with_reducible exact Nat.le_refl _ | with_reducible apply le_pl | with_reducible apply le_ext | with_reducible apply le_al))) _))
        · have HB2 : Hid (framesOkB ps fs = false) := Lib.hid (by rw [HZ.out]; exact framesB_false (k := k) (by have := HL.out; omega) (by rw [HV.out]; simp [e1]))
          have e3 : (jo != 10) = true := by simp [e1]
          go_wp2_with fail
          first | refine wp_region_ext2 (by kernel_rfl) (by kernel_rfl) ?_ | refine wp_region_ext (by kernel_rfl) (by kernel_rfl) ?_
          repeat (go_big_quiet_step ((first | fail)))
          refine wpQuiet_nil ?_
          intro _ hw'
          obtain ⟨x4, hw''⟩ := hw'
          subst hw''
          go_wp2
          go_ret
          refine ⟨by rw [HB2.out]; rfl, ?_⟩
          have h := HG5.out
          repeat (first | with_reducible exact Below.refl _ _ | with_reducible assumption | with_reducible apply grew_ext | with_reducible apply grew_al | with_reducible apply grew_dn | with_reducible apply grew_d | (with_reducible refine grew_set ?_ (by first | omega | (repeat (first | with_reducible exact Nat.le_refl _ | with_reducible apply le_pl | with_reducible apply le_ext | with_reducible apply le_al))) _))
      · obtain ⟨m, hm⟩ : ∃ m : Nat, m = k + 1 := ⟨_, rfl⟩
        have hm1 : IntKind.i64.wrap ((k : Int) + 1) = (m : Int) := by rw [show (k : Int) + 1 = (m : Int) from by omega]; first | exact IntWalk.i64_in (by omega) (by omega) | exact IntWalk.i64_in _ (by omega) (by omega) | go_unwrap
        have hl3 : ¬ (m : Int) < (fn : Int) := by omega
        have hl4 : decide ((m : Int) < (fn : Int)) = false := decide_eq_false hl3
        have hl6 : ¬ m < fn := by omega
        have hl5 : decide (m < fn) = false := decide_eq_false hl6
        have HV : Hid (okAt ps fs k = true) := Lib.hid (by rw [HQ0.out, HQ.out, show fs[k + 1]? = none from List.getElem?_eq_none (by have := HL.out; omega)]; rfl)
        have HM := Lib.hid hm; clear hm
        go_wp2_with fail
        first | refine wp_region_ext2 (by kernel_rfl) (by kernel_rfl) ?_ | refine wp_region_ext (by kernel_rfl) (by kernel_rfl) ?_
        repeat (go_big_quiet_step ((first | fail)))
        refine wpQuiet_nil ?_
        intro _ hw'
        obtain ⟨x4, hw''⟩ := hw'
        subst hw''
        go_wp2
        go_roundw
        case rel => exact ⟨m, by have := HM.out; omega, by first | rfl | go_num, ext_of (grew_tr HGW5.out (ext_grew _ x4)), fun j hj => by rw [HM.out] at hj; rcases Nat.lt_succ_iff_lt_or_eq.1 hj with h | rfl; exact HA.out j h; exact HV.out⟩
        case measure => have := HM.out; simp [intOf]; omega
    · obtain rfl : k = fn := by omega
      have HV : Hid (framesOkB ps fs = true) := Lib.hid (by rw [HZ.out]; exact framesB_true (by rw [HL.out]; exact HA.out))
      go_wp2
      go_ret
      refine ⟨by rw [HV.out]; rfl, ?_⟩
      repeat (first | with_reducible exact Below.refl _ _ | with_reducible assumption | with_reducible apply grew_ext | with_reducible apply grew_al | with_reducible apply grew_dn | with_reducible apply grew_d | (with_reducible refine grew_set ?_ (by first | omega | (repeat (first | with_reducible exact Nat.le_refl _ | with_reducible apply le_pl | with_reducible apply le_ext | with_reducible apply le_al))) _))

theorem implNumB (x : Int) (w : World) : Calls Try.prog 74 #[.int .i64 x] w fun e w' => e = .returned (.bool (numB x)) ∧ w = w' := implNumOk x w
theorem runOkB_i {ps : List Prc} {st out proc pc : Int} {fs : List Fr} (h : (prgOkB ps && (decide (1 ≤ st) && decide (st ≤ 4)) && numB out && (decide (st = 2) || decide (out = 0))) = true) :
    runOkB ps ⟨st, fs, out, proc, pc⟩ = ((if st = 3 then (atO ps proc pc).isSome && risksB (insOf (atO ps proc pc)).op else decide (proc = 0) && decide (pc = 0)) && (if st = 1 then framesOkB ps fs else decide (fs.length = 0))) := by
  simp only [Bool.and_eq_true] at h
  obtain ⟨⟨⟨p1, p2⟩, p3⟩, p4⟩ := h
  unfold runOkB framesOkB
  rw [p1, p2.1, p2.2, p3, p4]
  by_cases h1 : st = 1
  · subst h1
    simp only [Bool.true_and, Bool.and_true, if_true, show ¬ (1 : Int) = 3 from by decide, if_false]
    rw [Bool.eq_iff_iff]
    simp only [Bool.and_eq_true, decide_eq_true_eq]
    constructor
    · rintro ⟨a1, ⟨⟨a2, a3⟩, a4⟩, a5⟩
      exact ⟨⟨a4, a5⟩, ⟨by omega, a1⟩, a2⟩
    · rintro ⟨⟨a4, a5⟩, ⟨a6, a1⟩, a2⟩
      exact ⟨a1, ⟨⟨a2, by omega⟩, a4⟩, a5⟩
  · by_cases h3 : st = 3
    · subst h3
      simp only [Bool.true_and, Bool.and_true, if_true, show ¬ (3 : Int) = 1 from by decide, if_false]
      rw [Bool.eq_iff_iff]
      simp only [Bool.and_eq_true, decide_eq_true_eq]
      constructor
      · rintro ⟨a1, ⟨a2, a3⟩, a4⟩
        exact ⟨⟨a3, a4⟩, a2⟩
      · rintro ⟨⟨a3, a4⟩, a2⟩
        exact ⟨by omega, ⟨a2, a3⟩, a4⟩
    · simp only [Bool.true_and, Bool.and_true, if_neg h1, if_neg h3]
      rw [Bool.eq_iff_iff]
      simp only [Bool.and_eq_true, decide_eq_true_eq]
      constructor
      · rintro ⟨a1, ⟨a2, a3⟩, a4⟩
        exact ⟨⟨a3, a4⟩, a2⟩
      · rintro ⟨⟨a3, a4⟩, a2⟩
        exact ⟨by omega, ⟨a2, a3⟩, a4⟩
theorem runOkB_n {ps : List Prc} {st out proc pc : Int} {fs : List Fr} (h : (prgOkB ps && (decide (1 ≤ st) && decide (st ≤ 4)) && numB out && (decide (st = 2) || decide (out = 0))) = false) : runOkB ps ⟨st, fs, out, proc, pc⟩ = false := by
  unfold runOkB
  rw [Bool.and_eq_false_iff]
  left
  rw [Bool.eq_false_iff] at h ⊢
  simp only [ne_eq, Bool.and_eq_true] at h ⊢
  exact fun k => h ⟨⟨⟨k.1.1.1.1, k.1.1.1.2⟩, k.1.1.2⟩, k.2⟩

set_option maxHeartbeats 4000000 in
theorem implRunOk (a : Option Addr) (n cap : Nat) (ps : List Prc) (st : Int) (fa : Option Addr) (fn fc : Nat) (fs : List Fr) (out proc pc : Int) (w : World) (hr : RdP w a n ps) (hn : n ≤ 9223372036854775807) (hf : RdF w fa fn fs) (hfn : fn ≤ 9223372036854775807) :
    Calls Try.prog 44 #[.agg #[.slice a n cap], .agg #[.int .i64 st, .slice fa fn fc, .int .i64 out, .int .i64 proc, .int .i64 pc]] w fun e w' => e = .returned (.bool (runOkB ps ⟨st, fs, out, proc, pc⟩)) ∧ Grew w w' := by
  have C := fun W (h : Grew w W) => implPrgOk a n cap ps W (hr.grew h) hn
  have E := fun w => implNumB out w
  have F : ∀ W, Grew w W → Calls Try.prog 28 #[.agg #[.slice a n cap], .int .i64 proc, .int .i64 pc] W fun e w' => e = .returned (.tuple #[(insOf (atO ps proc pc)).v, .bool (atO ps proc pc).isSome]) ∧ Grew W w' := fun W h => implPrgAt a n cap ps proc pc W (hr.grew h) hn
  have H := fun W (h : Grew w W) => implFramesOk a n cap ps fa fn fc fs W (hr.grew h) hn (hf.grew h) hfn
  have hl := hf.len
  clear hr hf
  have V := @runOkB_i ps st out proc pc fs
  have V0 := @runOkB_n ps st out proc pc fs
  generalize prgOkB ps = B1 at *
  generalize numB out = B3 at *
  generalize (atO ps proc pc).isSome = B at *
  generalize insOf (atO ps proc pc) = J at *
  generalize framesOkB ps fs = B4 at *
  rw [hl] at V
  obtain ⟨jo, jd, ja, jb, jr, jl, jh, jt⟩ := J
  simp only at V
  have G := fun w => implRisks jo w
  generalize risksB jo = R at *
  generalize runOkB ps ⟨st, fs, out, proc, pc⟩ = Z at *
  have HC := Lib.hid C; clear C
  have HE := Lib.hid E; clear E
  have HF := Lib.hid F; clear F
  have HG := Lib.hid G; clear G
  have HH := Lib.hid H; clear H
  cases hh : (B1 && (decide (1 ≤ st) && decide (st ≤ 4)) && B3 && (decide (st = 2) || decide (out = 0)))
  · obtain rfl := V0 hh
    clear V V0
    cases B1
    · clear hh
      go_enter Try.func44, Try.ntmps44
      go_wp2_with (first | ((with_reducible refine (HC.out _ (by repeat (first | with_reducible exact Below.refl _ _ | with_reducible assumption | with_reducible apply grew_ext | with_reducible apply grew_al | with_reducible apply grew_dn | with_reducible apply grew_d | (with_reducible refine grew_set ?_ (by first | omega | (repeat (first | with_reducible exact Nat.le_refl _ | with_reducible apply le_pl | with_reducible apply le_ext | with_reducible apply le_al))) _)))).mono ?_); rintro e w' ⟨rfl, g'⟩; (first | obtain ⟨y, rfl⟩ := ext_cold g' | obtain ⟨y, rfl⟩ := ext_col g' | obtain ⟨y, rfl⟩ := ext_of g'); clear g') | ((with_reducible refine (HE.out _).mono ?_); rintro e w' ⟨rfl, rfl⟩) | ((with_reducible refine (HF.out _ (by repeat (first | with_reducible exact Below.refl _ _ | with_reducible assumption | with_reducible apply grew_ext | with_reducible apply grew_al | with_reducible apply grew_dn | with_reducible apply grew_d | (with_reducible refine grew_set ?_ (by first | omega | (repeat (first | with_reducible exact Nat.le_refl _ | with_reducible apply le_pl | with_reducible apply le_ext | with_reducible apply le_al))) _)))).mono ?_); rintro e w' ⟨rfl, g'⟩; (first | obtain ⟨z, rfl⟩ := ext_cold g' | obtain ⟨z, rfl⟩ := ext_col g' | obtain ⟨z, rfl⟩ := ext_of g'); clear g') | ((with_reducible refine (HG.out _).mono ?_); rintro e w' ⟨rfl, rfl⟩) | ((with_reducible refine (HH.out _ (by repeat (first | with_reducible exact Below.refl _ _ | with_reducible assumption | with_reducible apply grew_ext | with_reducible apply grew_al | with_reducible apply grew_dn | with_reducible apply grew_d | (with_reducible refine grew_set ?_ (by first | omega | (repeat (first | with_reducible exact Nat.le_refl _ | with_reducible apply le_pl | with_reducible apply le_ext | with_reducible apply le_al))) _)))).mono ?_); rintro e w' ⟨rfl, g'⟩; (first | obtain ⟨u, rfl⟩ := ext_cold g' | obtain ⟨u, rfl⟩ := ext_col g' | obtain ⟨u, rfl⟩ := ext_of g'); clear g'))
      go_ret
      refine ⟨rfl, ?_⟩
      repeat (first | with_reducible exact Below.refl _ _ | with_reducible assumption | with_reducible apply grew_ext | with_reducible apply grew_al | with_reducible apply grew_dn | with_reducible apply grew_d | (with_reducible refine grew_set ?_ (by first | omega | (repeat (first | with_reducible exact Nat.le_refl _ | with_reducible apply le_pl | with_reducible apply le_ext | with_reducible apply le_al))) _))
    by_cases s1 : st < 1
    · clear hh
      go_enter Try.func44, Try.ntmps44
      go_wp2_with (first | ((with_reducible refine (HC.out _ (by repeat (first | with_reducible exact Below.refl _ _ | with_reducible assumption | with_reducible apply grew_ext | with_reducible apply grew_al | with_reducible apply grew_dn | with_reducible apply grew_d | (with_reducible refine grew_set ?_ (by first | omega | (repeat (first | with_reducible exact Nat.le_refl _ | with_reducible apply le_pl | with_reducible apply le_ext | with_reducible apply le_al))) _)))).mono ?_); rintro e w' ⟨rfl, g'⟩; (first | obtain ⟨y, rfl⟩ := ext_cold g' | obtain ⟨y, rfl⟩ := ext_col g' | obtain ⟨y, rfl⟩ := ext_of g'); clear g') | ((with_reducible refine (HE.out _).mono ?_); rintro e w' ⟨rfl, rfl⟩) | ((with_reducible refine (HF.out _ (by repeat (first | with_reducible exact Below.refl _ _ | with_reducible assumption | with_reducible apply grew_ext | with_reducible apply grew_al | with_reducible apply grew_dn | with_reducible apply grew_d | (with_reducible refine grew_set ?_ (by first | omega | (repeat (first | with_reducible exact Nat.le_refl _ | with_reducible apply le_pl | with_reducible apply le_ext | with_reducible apply le_al))) _)))).mono ?_); rintro e w' ⟨rfl, g'⟩; (first | obtain ⟨z, rfl⟩ := ext_cold g' | obtain ⟨z, rfl⟩ := ext_col g' | obtain ⟨z, rfl⟩ := ext_of g'); clear g') | ((with_reducible refine (HG.out _).mono ?_); rintro e w' ⟨rfl, rfl⟩) | ((with_reducible refine (HH.out _ (by repeat (first | with_reducible exact Below.refl _ _ | with_reducible assumption | with_reducible apply grew_ext | with_reducible apply grew_al | with_reducible apply grew_dn | with_reducible apply grew_d | (with_reducible refine grew_set ?_ (by first | omega | (repeat (first | with_reducible exact Nat.le_refl _ | with_reducible apply le_pl | with_reducible apply le_ext | with_reducible apply le_al))) _)))).mono ?_); rintro e w' ⟨rfl, g'⟩; (first | obtain ⟨u, rfl⟩ := ext_cold g' | obtain ⟨u, rfl⟩ := ext_col g' | obtain ⟨u, rfl⟩ := ext_of g'); clear g'))
      go_ret
      refine ⟨rfl, ?_⟩
      repeat (first | with_reducible exact Below.refl _ _ | with_reducible assumption | with_reducible apply grew_ext | with_reducible apply grew_al | with_reducible apply grew_dn | with_reducible apply grew_d | (with_reducible refine grew_set ?_ (by first | omega | (repeat (first | with_reducible exact Nat.le_refl _ | with_reducible apply le_pl | with_reducible apply le_ext | with_reducible apply le_al))) _))
    by_cases s4 : st > 4
    · clear hh
      go_enter Try.func44, Try.ntmps44
      go_wp2_with (first | ((with_reducible refine (HC.out _ (by repeat (first | with_reducible exact Below.refl _ _ | with_reducible assumption | with_reducible apply grew_ext | with_reducible apply grew_al | with_reducible apply grew_dn | with_reducible apply grew_d | (with_reducible refine grew_set ?_ (by first | omega | (repeat (first | with_reducible exact Nat.le_refl _ | with_reducible apply le_pl | with_reducible apply le_ext | with_reducible apply le_al))) _)))).mono ?_); rintro e w' ⟨rfl, g'⟩; (first | obtain ⟨y, rfl⟩ := ext_cold g' | obtain ⟨y, rfl⟩ := ext_col g' | obtain ⟨y, rfl⟩ := ext_of g'); clear g') | ((with_reducible refine (HE.out _).mono ?_); rintro e w' ⟨rfl, rfl⟩) | ((with_reducible refine (HF.out _ (by repeat (first | with_reducible exact Below.refl _ _ | with_reducible assumption | with_reducible apply grew_ext | with_reducible apply grew_al | with_reducible apply grew_dn | with_reducible apply grew_d | (with_reducible refine grew_set ?_ (by first | omega | (repeat (first | with_reducible exact Nat.le_refl _ | with_reducible apply le_pl | with_reducible apply le_ext | with_reducible apply le_al))) _)))).mono ?_); rintro e w' ⟨rfl, g'⟩; (first | obtain ⟨z, rfl⟩ := ext_cold g' | obtain ⟨z, rfl⟩ := ext_col g' | obtain ⟨z, rfl⟩ := ext_of g'); clear g') | ((with_reducible refine (HG.out _).mono ?_); rintro e w' ⟨rfl, rfl⟩) | ((with_reducible refine (HH.out _ (by repeat (first | with_reducible exact Below.refl _ _ | with_reducible assumption | with_reducible apply grew_ext | with_reducible apply grew_al | with_reducible apply grew_dn | with_reducible apply grew_d | (with_reducible refine grew_set ?_ (by first | omega | (repeat (first | with_reducible exact Nat.le_refl _ | with_reducible apply le_pl | with_reducible apply le_ext | with_reducible apply le_al))) _)))).mono ?_); rintro e w' ⟨rfl, g'⟩; (first | obtain ⟨u, rfl⟩ := ext_cold g' | obtain ⟨u, rfl⟩ := ext_col g' | obtain ⟨u, rfl⟩ := ext_of g'); clear g'))
      go_ret
      refine ⟨rfl, ?_⟩
      repeat (first | with_reducible exact Below.refl _ _ | with_reducible assumption | with_reducible apply grew_ext | with_reducible apply grew_al | with_reducible apply grew_dn | with_reducible apply grew_d | (with_reducible refine grew_set ?_ (by first | omega | (repeat (first | with_reducible exact Nat.le_refl _ | with_reducible apply le_pl | with_reducible apply le_ext | with_reducible apply le_al))) _))
    cases B3
    · clear hh
      go_enter Try.func44, Try.ntmps44
      go_wp2_with (first | ((with_reducible refine (HC.out _ (by repeat (first | with_reducible exact Below.refl _ _ | with_reducible assumption | with_reducible apply grew_ext | with_reducible apply grew_al | with_reducible apply grew_dn | with_reducible apply grew_d | (with_reducible refine grew_set ?_ (by first | omega | (repeat (first | with_reducible exact Nat.le_refl _ | with_reducible apply le_pl | with_reducible apply le_ext | with_reducible apply le_al))) _)))).mono ?_); rintro e w' ⟨rfl, g'⟩; (first | obtain ⟨y, rfl⟩ := ext_cold g' | obtain ⟨y, rfl⟩ := ext_col g' | obtain ⟨y, rfl⟩ := ext_of g'); clear g') | ((with_reducible refine (HE.out _).mono ?_); rintro e w' ⟨rfl, rfl⟩) | ((with_reducible refine (HF.out _ (by repeat (first | with_reducible exact Below.refl _ _ | with_reducible assumption | with_reducible apply grew_ext | with_reducible apply grew_al | with_reducible apply grew_dn | with_reducible apply grew_d | (with_reducible refine grew_set ?_ (by first | omega | (repeat (first | with_reducible exact Nat.le_refl _ | with_reducible apply le_pl | with_reducible apply le_ext | with_reducible apply le_al))) _)))).mono ?_); rintro e w' ⟨rfl, g'⟩; (first | obtain ⟨z, rfl⟩ := ext_cold g' | obtain ⟨z, rfl⟩ := ext_col g' | obtain ⟨z, rfl⟩ := ext_of g'); clear g') | ((with_reducible refine (HG.out _).mono ?_); rintro e w' ⟨rfl, rfl⟩) | ((with_reducible refine (HH.out _ (by repeat (first | with_reducible exact Below.refl _ _ | with_reducible assumption | with_reducible apply grew_ext | with_reducible apply grew_al | with_reducible apply grew_dn | with_reducible apply grew_d | (with_reducible refine grew_set ?_ (by first | omega | (repeat (first | with_reducible exact Nat.le_refl _ | with_reducible apply le_pl | with_reducible apply le_ext | with_reducible apply le_al))) _)))).mono ?_); rintro e w' ⟨rfl, g'⟩; (first | obtain ⟨u, rfl⟩ := ext_cold g' | obtain ⟨u, rfl⟩ := ext_col g' | obtain ⟨u, rfl⟩ := ext_of g'); clear g'))
      go_ret
      refine ⟨rfl, ?_⟩
      repeat (first | with_reducible exact Below.refl _ _ | with_reducible assumption | with_reducible apply grew_ext | with_reducible apply grew_al | with_reducible apply grew_dn | with_reducible apply grew_d | (with_reducible refine grew_set ?_ (by first | omega | (repeat (first | with_reducible exact Nat.le_refl _ | with_reducible apply le_pl | with_reducible apply le_ext | with_reducible apply le_al))) _))
    obtain ⟨s2, o0⟩ : st ≠ 2 ∧ out ≠ 0 := by
      rw [decide_eq_true (p := 1 ≤ st) (by omega), decide_eq_true (p := st ≤ 4) (by omega)] at hh
      simpa using hh
    have s3 : (st != 2) = true := by simp [s2]
    have o3 : (out != 0) = true := by simp [o0]
    clear hh s2 o0
    go_enter Try.func44, Try.ntmps44
    go_wp2_with (first | ((with_reducible refine (HC.out _ (by repeat (first | with_reducible exact Below.refl _ _ | with_reducible assumption | with_reducible apply grew_ext | with_reducible apply grew_al | with_reducible apply grew_dn | with_reducible apply grew_d | (with_reducible refine grew_set ?_ (by first | omega | (repeat (first | with_reducible exact Nat.le_refl _ | with_reducible apply le_pl | with_reducible apply le_ext | with_reducible apply le_al))) _)))).mono ?_); rintro e w' ⟨rfl, g'⟩; (first | obtain ⟨y, rfl⟩ := ext_cold g' | obtain ⟨y, rfl⟩ := ext_col g' | obtain ⟨y, rfl⟩ := ext_of g'); clear g') | ((with_reducible refine (HE.out _).mono ?_); rintro e w' ⟨rfl, rfl⟩) | ((with_reducible refine (HF.out _ (by repeat (first | with_reducible exact Below.refl _ _ | with_reducible assumption | with_reducible apply grew_ext | with_reducible apply grew_al | with_reducible apply grew_dn | with_reducible apply grew_d | (with_reducible refine grew_set ?_ (by first | omega | (repeat (first | with_reducible exact Nat.le_refl _ | with_reducible apply le_pl | with_reducible apply le_ext | with_reducible apply le_al))) _)))).mono ?_); rintro e w' ⟨rfl, g'⟩; (first | obtain ⟨z, rfl⟩ := ext_cold g' | obtain ⟨z, rfl⟩ := ext_col g' | obtain ⟨z, rfl⟩ := ext_of g'); clear g') | ((with_reducible refine (HG.out _).mono ?_); rintro e w' ⟨rfl, rfl⟩) | ((with_reducible refine (HH.out _ (by repeat (first | with_reducible exact Below.refl _ _ | with_reducible assumption | with_reducible apply grew_ext | with_reducible apply grew_al | with_reducible apply grew_dn | with_reducible apply grew_d | (with_reducible refine grew_set ?_ (by first | omega | (repeat (first | with_reducible exact Nat.le_refl _ | with_reducible apply le_pl | with_reducible apply le_ext | with_reducible apply le_al))) _)))).mono ?_); rintro e w' ⟨rfl, g'⟩; (first | obtain ⟨u, rfl⟩ := ext_cold g' | obtain ⟨u, rfl⟩ := ext_col g' | obtain ⟨u, rfl⟩ := ext_of g'); clear g'))
    go_ret
    refine ⟨rfl, ?_⟩
    repeat (first | with_reducible exact Below.refl _ _ | with_reducible assumption | with_reducible apply grew_ext | with_reducible apply grew_al | with_reducible apply grew_dn | with_reducible apply grew_d | (with_reducible refine grew_set ?_ (by first | omega | (repeat (first | with_reducible exact Nat.le_refl _ | with_reducible apply le_pl | with_reducible apply le_ext | with_reducible apply le_al))) _))
  replace V := V hh
  clear V0
  simp only [Bool.and_eq_true] at hh
  obtain ⟨⟨⟨rfl, p2⟩, rfl⟩, p4⟩ := hh
  have hst : (st = 1 ∧ out = 0) ∨ (st = 2) ∨ (st = 3 ∧ out = 0) ∨ (st = 4 ∧ out = 0) := by
    have e1 := of_decide_eq_true p2.1
    have e2 := of_decide_eq_true p2.2
    rcases (show st = 2 ∨ out = 0 by simpa using p4) with e3 | e3
    · exact .inr (.inl e3)
    · omega
  clear p2 p4
  by_cases h3 : st = 3
  · subst h3
    obtain rfl : out = 0 := by omega
    clear hst
    have V2 : Z = (B && R && decide (fn = 0)) := by simpa using V
    have HZ := Lib.hid V2; clear V V2
    cases B
    · go_enter Try.func44, Try.ntmps44
      go_wp2_with (first | ((with_reducible refine (HC.out _ (by repeat (first | with_reducible exact Below.refl _ _ | with_reducible assumption | with_reducible apply grew_ext | with_reducible apply grew_al | with_reducible apply grew_dn | with_reducible apply grew_d | (with_reducible refine grew_set ?_ (by first | omega | (repeat (first | with_reducible exact Nat.le_refl _ | with_reducible apply le_pl | with_reducible apply le_ext | with_reducible apply le_al))) _)))).mono ?_); rintro e w' ⟨rfl, g'⟩; (first | obtain ⟨y, rfl⟩ := ext_cold g' | obtain ⟨y, rfl⟩ := ext_col g' | obtain ⟨y, rfl⟩ := ext_of g'); clear g') | ((with_reducible refine (HE.out _).mono ?_); rintro e w' ⟨rfl, rfl⟩) | ((with_reducible refine (HF.out _ (by repeat (first | with_reducible exact Below.refl _ _ | with_reducible assumption | with_reducible apply grew_ext | with_reducible apply grew_al | with_reducible apply grew_dn | with_reducible apply grew_d | (with_reducible refine grew_set ?_ (by first | omega | (repeat (first | with_reducible exact Nat.le_refl _ | with_reducible apply le_pl | with_reducible apply le_ext | with_reducible apply le_al))) _)))).mono ?_); rintro e w' ⟨rfl, g'⟩; (first | obtain ⟨z, rfl⟩ := ext_cold g' | obtain ⟨z, rfl⟩ := ext_col g' | obtain ⟨z, rfl⟩ := ext_of g'); clear g') | ((with_reducible refine (HG.out _).mono ?_); rintro e w' ⟨rfl, rfl⟩) | ((with_reducible refine (HH.out _ (by repeat (first | with_reducible exact Below.refl _ _ | with_reducible assumption | with_reducible apply grew_ext | with_reducible apply grew_al | with_reducible apply grew_dn | with_reducible apply grew_d | (with_reducible refine grew_set ?_ (by first | omega | (repeat (first | with_reducible exact Nat.le_refl _ | with_reducible apply le_pl | with_reducible apply le_ext | with_reducible apply le_al))) _)))).mono ?_); rintro e w' ⟨rfl, g'⟩; (first | obtain ⟨u, rfl⟩ := ext_cold g' | obtain ⟨u, rfl⟩ := ext_col g' | obtain ⟨u, rfl⟩ := ext_of g'); clear g'))
      go_ret
      refine ⟨by rw [HZ.out]; rfl, ?_⟩
      repeat (first | with_reducible exact Below.refl _ _ | with_reducible assumption | with_reducible apply grew_ext | with_reducible apply grew_al | with_reducible apply grew_dn | with_reducible apply grew_d | (with_reducible refine grew_set ?_ (by first | omega | (repeat (first | with_reducible exact Nat.le_refl _ | with_reducible apply le_pl | with_reducible apply le_ext | with_reducible apply le_al))) _))
    cases R
    · go_enter Try.func44, Try.ntmps44
      go_wp2_with (first | ((with_reducible refine (HC.out _ (by repeat (first | with_reducible exact Below.refl _ _ | with_reducible assumption | with_reducible apply grew_ext | with_reducible apply grew_al | with_reducible apply grew_dn | with_reducible apply grew_d | (with_reducible refine grew_set ?_ (by first | omega | (repeat (first | with_reducible exact Nat.le_refl _ | with_reducible apply le_pl | with_reducible apply le_ext | with_reducible apply le_al))) _)))).mono ?_); rintro e w' ⟨rfl, g'⟩; (first | obtain ⟨y, rfl⟩ := ext_cold g' | obtain ⟨y, rfl⟩ := ext_col g' | obtain ⟨y, rfl⟩ := ext_of g'); clear g') | ((with_reducible refine (HE.out _).mono ?_); rintro e w' ⟨rfl, rfl⟩) | ((with_reducible refine (HF.out _ (by repeat (first | with_reducible exact Below.refl _ _ | with_reducible assumption | with_reducible apply grew_ext | with_reducible apply grew_al | with_reducible apply grew_dn | with_reducible apply grew_d | (with_reducible refine grew_set ?_ (by first | omega | (repeat (first | with_reducible exact Nat.le_refl _ | with_reducible apply le_pl | with_reducible apply le_ext | with_reducible apply le_al))) _)))).mono ?_); rintro e w' ⟨rfl, g'⟩; (first | obtain ⟨z, rfl⟩ := ext_cold g' | obtain ⟨z, rfl⟩ := ext_col g' | obtain ⟨z, rfl⟩ := ext_of g'); clear g') | ((with_reducible refine (HG.out _).mono ?_); rintro e w' ⟨rfl, rfl⟩) | ((with_reducible refine (HH.out _ (by repeat (first | with_reducible exact Below.refl _ _ | with_reducible assumption | with_reducible apply grew_ext | with_reducible apply grew_al | with_reducible apply grew_dn | with_reducible apply grew_d | (with_reducible refine grew_set ?_ (by first | omega | (repeat (first | with_reducible exact Nat.le_refl _ | with_reducible apply le_pl | with_reducible apply le_ext | with_reducible apply le_al))) _)))).mono ?_); rintro e w' ⟨rfl, g'⟩; (first | obtain ⟨u, rfl⟩ := ext_cold g' | obtain ⟨u, rfl⟩ := ext_col g' | obtain ⟨u, rfl⟩ := ext_of g'); clear g'))
      go_ret
      refine ⟨by rw [HZ.out]; rfl, ?_⟩
      repeat (first | with_reducible exact Below.refl _ _ | with_reducible assumption | with_reducible apply grew_ext | with_reducible apply grew_al | with_reducible apply grew_dn | with_reducible apply grew_d | (with_reducible refine grew_set ?_ (by first | omega | (repeat (first | with_reducible exact Nat.le_refl _ | with_reducible apply le_pl | with_reducible apply le_ext | with_reducible apply le_al))) _))
    · by_cases hf : fn = 0
      · have hf2 : ((fn : Int) == 0) = true := by simp [hf]
        have HQ := Lib.hid (decide_eq_true hf)
        clear hf
        go_enter Try.func44, Try.ntmps44
        go_wp2_with (first | ((with_reducible refine (HC.out _ (by repeat (first | with_reducible exact Below.refl _ _ | with_reducible assumption | with_reducible apply grew_ext | with_reducible apply grew_al | with_reducible apply grew_dn | with_reducible apply grew_d | (with_reducible refine grew_set ?_ (by first | omega | (repeat (first | with_reducible exact Nat.le_refl _ | with_reducible apply le_pl | with_reducible apply le_ext | with_reducible apply le_al))) _)))).mono ?_); rintro e w' ⟨rfl, g'⟩; (first | obtain ⟨y, rfl⟩ := ext_cold g' | obtain ⟨y, rfl⟩ := ext_col g' | obtain ⟨y, rfl⟩ := ext_of g'); clear g') | ((with_reducible refine (HE.out _).mono ?_); rintro e w' ⟨rfl, rfl⟩) | ((with_reducible refine (HF.out _ (by repeat (first | with_reducible exact Below.refl _ _ | with_reducible assumption | with_reducible apply grew_ext | with_reducible apply grew_al | with_reducible apply grew_dn | with_reducible apply grew_d | (with_reducible refine grew_set ?_ (by first | omega | (repeat (first | with_reducible exact Nat.le_refl _ | with_reducible apply le_pl | with_reducible apply le_ext | with_reducible apply le_al))) _)))).mono ?_); rintro e w' ⟨rfl, g'⟩; (first | obtain ⟨z, rfl⟩ := ext_cold g' | obtain ⟨z, rfl⟩ := ext_col g' | obtain ⟨z, rfl⟩ := ext_of g'); clear g') | ((with_reducible refine (HG.out _).mono ?_); rintro e w' ⟨rfl, rfl⟩) | ((with_reducible refine (HH.out _ (by repeat (first | with_reducible exact Below.refl _ _ | with_reducible assumption | with_reducible apply grew_ext | with_reducible apply grew_al | with_reducible apply grew_dn | with_reducible apply grew_d | (with_reducible refine grew_set ?_ (by first | omega | (repeat (first | with_reducible exact Nat.le_refl _ | with_reducible apply le_pl | with_reducible apply le_ext | with_reducible apply le_al))) _)))).mono ?_); rintro e w' ⟨rfl, g'⟩; (first | obtain ⟨u, rfl⟩ := ext_cold g' | obtain ⟨u, rfl⟩ := ext_col g' | obtain ⟨u, rfl⟩ := ext_of g'); clear g'))
        go_ret
        refine ⟨by rw [HZ.out, HQ.out]; rfl, ?_⟩
        repeat (first | with_reducible exact Below.refl _ _ | with_reducible assumption | with_reducible apply grew_ext | with_reducible apply grew_al | with_reducible apply grew_dn | with_reducible apply grew_d | (with_reducible refine grew_set ?_ (by first | omega | (repeat (first | with_reducible exact Nat.le_refl _ | with_reducible apply le_pl | with_reducible apply le_ext | with_reducible apply le_al))) _))
      · have hf2 : ((fn : Int) == 0) = false := by simp [hf]
        have HQ := Lib.hid (decide_eq_false hf)
        clear hf
        go_enter Try.func44, Try.ntmps44
        go_wp2_with (first | ((with_reducible refine (HC.out _ (by repeat (first | with_reducible exact Below.refl _ _ | with_reducible assumption | with_reducible apply grew_ext | with_reducible apply grew_al | with_reducible apply grew_dn | with_reducible apply grew_d | (with_reducible refine grew_set ?_ (by first | omega | (repeat (first | with_reducible exact Nat.le_refl _ | with_reducible apply le_pl | with_reducible apply le_ext | with_reducible apply le_al))) _)))).mono ?_); rintro e w' ⟨rfl, g'⟩; (first | obtain ⟨y, rfl⟩ := ext_cold g' | obtain ⟨y, rfl⟩ := ext_col g' | obtain ⟨y, rfl⟩ := ext_of g'); clear g') | ((with_reducible refine (HE.out _).mono ?_); rintro e w' ⟨rfl, rfl⟩) | ((with_reducible refine (HF.out _ (by repeat (first | with_reducible exact Below.refl _ _ | with_reducible assumption | with_reducible apply grew_ext | with_reducible apply grew_al | with_reducible apply grew_dn | with_reducible apply grew_d | (with_reducible refine grew_set ?_ (by first | omega | (repeat (first | with_reducible exact Nat.le_refl _ | with_reducible apply le_pl | with_reducible apply le_ext | with_reducible apply le_al))) _)))).mono ?_); rintro e w' ⟨rfl, g'⟩; (first | obtain ⟨z, rfl⟩ := ext_cold g' | obtain ⟨z, rfl⟩ := ext_col g' | obtain ⟨z, rfl⟩ := ext_of g'); clear g') | ((with_reducible refine (HG.out _).mono ?_); rintro e w' ⟨rfl, rfl⟩) | ((with_reducible refine (HH.out _ (by repeat (first | with_reducible exact Below.refl _ _ | with_reducible assumption | with_reducible apply grew_ext | with_reducible apply grew_al | with_reducible apply grew_dn | with_reducible apply grew_d | (with_reducible refine grew_set ?_ (by first | omega | (repeat (first | with_reducible exact Nat.le_refl _ | with_reducible apply le_pl | with_reducible apply le_ext | with_reducible apply le_al))) _)))).mono ?_); rintro e w' ⟨rfl, g'⟩; (first | obtain ⟨u, rfl⟩ := ext_cold g' | obtain ⟨u, rfl⟩ := ext_col g' | obtain ⟨u, rfl⟩ := ext_of g'); clear g'))
        go_ret
        refine ⟨by rw [HZ.out, HQ.out]; rfl, ?_⟩
        repeat (first | with_reducible exact Below.refl _ _ | with_reducible assumption | with_reducible apply grew_ext | with_reducible apply grew_al | with_reducible apply grew_dn | with_reducible apply grew_d | (with_reducible refine grew_set ?_ (by first | omega | (repeat (first | with_reducible exact Nat.le_refl _ | with_reducible apply le_pl | with_reducible apply le_ext | with_reducible apply le_al))) _))
  · by_cases hp : proc = 0
    · by_cases hc : pc = 0
      · subst hp hc
        by_cases h1 : st = 1
        · subst h1
          obtain rfl : out = 0 := by omega
          clear hst
          have V2 : Z = B4 := by simpa using V
          have HZ := Lib.hid V2; clear V V2
          go_enter Try.func44, Try.ntmps44
          go_wp2_with (first | ((with_reducible refine (HC.out _ (by repeat (first | with_reducible exact Below.refl _ _ | with_reducible assumption | with_reducible apply grew_ext | with_reducible apply grew_al | with_reducible apply grew_dn | with_reducible apply grew_d | (with_reducible refine grew_set ?_ (by first | omega | (repeat (first | with_reducible exact Nat.le_refl _ | with_reducible apply le_pl | with_reducible apply le_ext | with_reducible apply le_al))) _)))).mono ?_); rintro e w' ⟨rfl, g'⟩; (first | obtain ⟨y, rfl⟩ := ext_cold g' | obtain ⟨y, rfl⟩ := ext_col g' | obtain ⟨y, rfl⟩ := ext_of g'); clear g') | ((with_reducible refine (HE.out _).mono ?_); rintro e w' ⟨rfl, rfl⟩) | ((with_reducible refine (HF.out _ (by repeat (first | with_reducible exact Below.refl _ _ | with_reducible assumption | with_reducible apply grew_ext | with_reducible apply grew_al | with_reducible apply grew_dn | with_reducible apply grew_d | (with_reducible refine grew_set ?_ (by first | omega | (repeat (first | with_reducible exact Nat.le_refl _ | with_reducible apply le_pl | with_reducible apply le_ext | with_reducible apply le_al))) _)))).mono ?_); rintro e w' ⟨rfl, g'⟩; (first | obtain ⟨z, rfl⟩ := ext_cold g' | obtain ⟨z, rfl⟩ := ext_col g' | obtain ⟨z, rfl⟩ := ext_of g'); clear g') | ((with_reducible refine (HG.out _).mono ?_); rintro e w' ⟨rfl, rfl⟩) | ((with_reducible refine (HH.out _ (by repeat (first | with_reducible exact Below.refl _ _ | with_reducible assumption | with_reducible apply grew_ext | with_reducible apply grew_al | with_reducible apply grew_dn | with_reducible apply grew_d | (with_reducible refine grew_set ?_ (by first | omega | (repeat (first | with_reducible exact Nat.le_refl _ | with_reducible apply le_pl | with_reducible apply le_ext | with_reducible apply le_al))) _)))).mono ?_); rintro e w' ⟨rfl, g'⟩; (first | obtain ⟨u, rfl⟩ := ext_cold g' | obtain ⟨u, rfl⟩ := ext_col g' | obtain ⟨u, rfl⟩ := ext_of g'); clear g'))
          go_ret
          refine ⟨by rw [HZ.out]; rfl, ?_⟩
          repeat (first | with_reducible exact Below.refl _ _ | with_reducible assumption | with_reducible apply grew_ext | with_reducible apply grew_al | with_reducible apply grew_dn | with_reducible apply grew_d | (with_reducible refine grew_set ?_ (by first | omega | (repeat (first | with_reducible exact Nat.le_refl _ | with_reducible apply le_pl | with_reducible apply le_ext | with_reducible apply le_al))) _))
        · have V2 : Z = decide (fn = 0) := by simpa [h1, h3] using V
          have HZ := Lib.hid V2; clear V V2
          have hs : st = 2 ∨ (st = 4 ∧ out = 0) := by omega
          clear hst h1 h3
          by_cases hf : fn = 0
          · have hf2 : ((fn : Int) == 0) = true := by simp [hf]
            have HQ := Lib.hid (decide_eq_true hf)
            clear hf
            rcases hs with rfl | ⟨rfl, rfl⟩
            all_goals
              go_enter Try.func44, Try.ntmps44
              go_wp2_with (first | ((with_reducible refine (HC.out _ (by repeat (first | with_reducible exact Below.refl _ _ | with_reducible assumption | with_reducible apply grew_ext | with_reducible apply grew_al | with_reducible apply grew_dn | with_reducible apply grew_d | (with_reducible refine grew_set ?_ (by first | omega | (repeat (first | with_reducible exact Nat.le_refl _ | with_reducible apply le_pl | with_reducible apply le_ext | with_reducible apply le_al))) _)))).mono ?_); rintro e w' ⟨rfl, g'⟩; (first | obtain ⟨y, rfl⟩ := ext_cold g' | obtain ⟨y, rfl⟩ := ext_col g' | obtain ⟨y, rfl⟩ := ext_of g'); clear g') | ((with_reducible refine (HE.out _).mono ?_); rintro e w' ⟨rfl, rfl⟩) | ((with_reducible refine (HF.out _ (by repeat (first | with_reducible exact Below.refl _ _ | with_reducible assumption | with_reducible apply grew_ext | with_reducible apply grew_al | with_reducible apply grew_dn | with_reducible apply grew_d | (with_reducible refine grew_set ?_ (by first | omega | (repeat (first | with_reducible exact Nat.le_refl _ | with_reducible apply le_pl | with_reducible apply le_ext | with_reducible apply le_al))) _)))).mono ?_); rintro e w' ⟨rfl, g'⟩; (first | obtain ⟨z, rfl⟩ := ext_cold g' | obtain ⟨z, rfl⟩ := ext_col g' | obtain ⟨z, rfl⟩ := ext_of g'); clear g') | ((with_reducible refine (HG.out _).mono ?_); rintro e w' ⟨rfl, rfl⟩) | ((with_reducible refine (HH.out _ (by repeat (first | with_reducible exact Below.refl _ _ | with_reducible assumption | with_reducible apply grew_ext | with_reducible apply grew_al | with_reducible apply grew_dn | with_reducible apply grew_d | (with_reducible refine grew_set ?_ (by first | omega | (repeat (first | with_reducible exact Nat.le_refl _ | with_reducible apply le_pl | with_reducible apply le_ext | with_reducible apply le_al))) _)))).mono ?_); rintro e w' ⟨rfl, g'⟩; (first | obtain ⟨u, rfl⟩ := ext_cold g' | obtain ⟨u, rfl⟩ := ext_col g' | obtain ⟨u, rfl⟩ := ext_of g'); clear g'))
              go_ret
              refine ⟨by rw [HZ.out, HQ.out]; rfl, ?_⟩
              repeat (first | with_reducible exact Below.refl _ _ | with_reducible assumption | with_reducible apply grew_ext | with_reducible apply grew_al | with_reducible apply grew_dn | with_reducible apply grew_d | (with_reducible refine grew_set ?_ (by first | omega | (repeat (first | with_reducible exact Nat.le_refl _ | with_reducible apply le_pl | with_reducible apply le_ext | with_reducible apply le_al))) _))
          · have hf2 : ((fn : Int) == 0) = false := by simp [hf]
            have HQ := Lib.hid (decide_eq_false hf)
            clear hf
            rcases hs with rfl | ⟨rfl, rfl⟩
            all_goals
              go_enter Try.func44, Try.ntmps44
              go_wp2_with (first | ((with_reducible refine (HC.out _ (by repeat (first | with_reducible exact Below.refl _ _ | with_reducible assumption | with_reducible apply grew_ext | with_reducible apply grew_al | with_reducible apply grew_dn | with_reducible apply grew_d | (with_reducible refine grew_set ?_ (by first | omega | (repeat (first | with_reducible exact Nat.le_refl _ | with_reducible apply le_pl | with_reducible apply le_ext | with_reducible apply le_al))) _)))).mono ?_); rintro e w' ⟨rfl, g'⟩; (first | obtain ⟨y, rfl⟩ := ext_cold g' | obtain ⟨y, rfl⟩ := ext_col g' | obtain ⟨y, rfl⟩ := ext_of g'); clear g') | ((with_reducible refine (HE.out _).mono ?_); rintro e w' ⟨rfl, rfl⟩) | ((with_reducible refine (HF.out _ (by repeat (first | with_reducible exact Below.refl _ _ | with_reducible assumption | with_reducible apply grew_ext | with_reducible apply grew_al | with_reducible apply grew_dn | with_reducible apply grew_d | (with_reducible refine grew_set ?_ (by first | omega | (repeat (first | with_reducible exact Nat.le_refl _ | with_reducible apply le_pl | with_reducible apply le_ext | with_reducible apply le_al))) _)))).mono ?_); rintro e w' ⟨rfl, g'⟩; (first | obtain ⟨z, rfl⟩ := ext_cold g' | obtain ⟨z, rfl⟩ := ext_col g' | obtain ⟨z, rfl⟩ := ext_of g'); clear g') | ((with_reducible refine (HG.out _).mono ?_); rintro e w' ⟨rfl, rfl⟩) | ((with_reducible refine (HH.out _ (by repeat (first | with_reducible exact Below.refl _ _ | with_reducible assumption | with_reducible apply grew_ext | with_reducible apply grew_al | with_reducible apply grew_dn | with_reducible apply grew_d | (with_reducible refine grew_set ?_ (by first | omega | (repeat (first | with_reducible exact Nat.le_refl _ | with_reducible apply le_pl | with_reducible apply le_ext | with_reducible apply le_al))) _)))).mono ?_); rintro e w' ⟨rfl, g'⟩; (first | obtain ⟨u, rfl⟩ := ext_cold g' | obtain ⟨u, rfl⟩ := ext_col g' | obtain ⟨u, rfl⟩ := ext_of g'); clear g'))
              go_ret
              refine ⟨by rw [HZ.out, HQ.out]; rfl, ?_⟩
              repeat (first | with_reducible exact Below.refl _ _ | with_reducible assumption | with_reducible apply grew_ext | with_reducible apply grew_al | with_reducible apply grew_dn | with_reducible apply grew_d | (with_reducible refine grew_set ?_ (by first | omega | (repeat (first | with_reducible exact Nat.le_refl _ | with_reducible apply le_pl | with_reducible apply le_ext | with_reducible apply le_al))) _))
      · have V2 : Z = false := by simpa [h3, hc] using V
        subst V2
        subst hp
        have hc2 : (pc != 0) = true := by simp [hc]
        clear V hc
        have hs : (st = 1 ∧ out = 0) ∨ st = 2 ∨ (st = 4 ∧ out = 0) := by omega
        clear hst h3
        rcases hs with ⟨rfl, rfl⟩ | rfl | ⟨rfl, rfl⟩
        all_goals
          go_enter Try.func44, Try.ntmps44
          go_wp2_with (first | ((with_reducible refine (HC.out _ (by repeat (first | with_reducible exact Below.refl _ _ | with_reducible assumption | with_reducible apply grew_ext | with_reducible apply grew_al | with_reducible apply grew_dn | with_reducible apply grew_d | (with_reducible refine grew_set ?_ (by first | omega | (repeat (first | with_reducible exact Nat.le_refl _ | with_reducible apply le_pl | with_reducible apply le_ext | with_reducible apply le_al))) _)))).mono ?_); rintro e w' ⟨rfl, g'⟩; (first | obtain ⟨y, rfl⟩ := ext_cold g' | obtain ⟨y, rfl⟩ := ext_col g' | obtain ⟨y, rfl⟩ := ext_of g'); clear g') | ((with_reducible refine (HE.out _).mono ?_); rintro e w' ⟨rfl, rfl⟩) | ((with_reducible refine (HF.out _ (by repeat (first | with_reducible exact Below.refl _ _ | with_reducible assumption | with_reducible apply grew_ext | with_reducible apply grew_al | with_reducible apply grew_dn | with_reducible apply grew_d | (with_reducible refine grew_set ?_ (by first | omega | (repeat (first | with_reducible exact Nat.le_refl _ | with_reducible apply le_pl | with_reducible apply le_ext | with_reducible apply le_al))) _)))).mono ?_); rintro e w' ⟨rfl, g'⟩; (first | obtain ⟨z, rfl⟩ := ext_cold g' | obtain ⟨z, rfl⟩ := ext_col g' | obtain ⟨z, rfl⟩ := ext_of g'); clear g') | ((with_reducible refine (HG.out _).mono ?_); rintro e w' ⟨rfl, rfl⟩) | ((with_reducible refine (HH.out _ (by repeat (first | with_reducible exact Below.refl _ _ | with_reducible assumption | with_reducible apply grew_ext | with_reducible apply grew_al | with_reducible apply grew_dn | with_reducible apply grew_d | (with_reducible refine grew_set ?_ (by first | omega | (repeat (first | with_reducible exact Nat.le_refl _ | with_reducible apply le_pl | with_reducible apply le_ext | with_reducible apply le_al))) _)))).mono ?_); rintro e w' ⟨rfl, g'⟩; (first | obtain ⟨u, rfl⟩ := ext_cold g' | obtain ⟨u, rfl⟩ := ext_col g' | obtain ⟨u, rfl⟩ := ext_of g'); clear g'))
          go_ret
          refine ⟨rfl, ?_⟩
          repeat (first | with_reducible exact Below.refl _ _ | with_reducible assumption | with_reducible apply grew_ext | with_reducible apply grew_al | with_reducible apply grew_dn | with_reducible apply grew_d | (with_reducible refine grew_set ?_ (by first | omega | (repeat (first | with_reducible exact Nat.le_refl _ | with_reducible apply le_pl | with_reducible apply le_ext | with_reducible apply le_al))) _))
    · have V2 : Z = false := by simpa [h3, hp] using V
      subst V2
      have hp2 : (proc != 0) = true := by simp [hp]
      clear V hp
      have hs : (st = 1 ∧ out = 0) ∨ st = 2 ∨ (st = 4 ∧ out = 0) := by omega
      clear hst h3
      rcases hs with ⟨rfl, rfl⟩ | rfl | ⟨rfl, rfl⟩
      all_goals
        go_enter Try.func44, Try.ntmps44
        go_wp2_with (first | ((with_reducible refine (HC.out _ (by repeat (first | with_reducible exact Below.refl _ _ | with_reducible assumption | with_reducible apply grew_ext | with_reducible apply grew_al | with_reducible apply grew_dn | with_reducible apply grew_d | (with_reducible refine grew_set ?_ (by first | omega | (repeat (first | with_reducible exact Nat.le_refl _ | with_reducible apply le_pl | with_reducible apply le_ext | with_reducible apply le_al))) _)))).mono ?_); rintro e w' ⟨rfl, g'⟩; (first | obtain ⟨y, rfl⟩ := ext_cold g' | obtain ⟨y, rfl⟩ := ext_col g' | obtain ⟨y, rfl⟩ := ext_of g'); clear g') | ((with_reducible refine (HE.out _).mono ?_); rintro e w' ⟨rfl, rfl⟩) | ((with_reducible refine (HF.out _ (by repeat (first | with_reducible exact Below.refl _ _ | with_reducible assumption | with_reducible apply grew_ext | with_reducible apply grew_al | with_reducible apply grew_dn | with_reducible apply grew_d | (with_reducible refine grew_set ?_ (by first | omega | (repeat (first | with_reducible exact Nat.le_refl _ | with_reducible apply le_pl | with_reducible apply le_ext | with_reducible apply le_al))) _)))).mono ?_); rintro e w' ⟨rfl, g'⟩; (first | obtain ⟨z, rfl⟩ := ext_cold g' | obtain ⟨z, rfl⟩ := ext_col g' | obtain ⟨z, rfl⟩ := ext_of g'); clear g') | ((with_reducible refine (HG.out _).mono ?_); rintro e w' ⟨rfl, rfl⟩) | ((with_reducible refine (HH.out _ (by repeat (first | with_reducible exact Below.refl _ _ | with_reducible assumption | with_reducible apply grew_ext | with_reducible apply grew_al | with_reducible apply grew_dn | with_reducible apply grew_d | (with_reducible refine grew_set ?_ (by first | omega | (repeat (first | with_reducible exact Nat.le_refl _ | with_reducible apply le_pl | with_reducible apply le_ext | with_reducible apply le_al))) _)))).mono ?_); rintro e w' ⟨rfl, g'⟩; (first | obtain ⟨u, rfl⟩ := ext_cold g' | obtain ⟨u, rfl⟩ := ext_col g' | obtain ⟨u, rfl⟩ := ext_of g'); clear g'))
        go_ret
        refine ⟨rfl, ?_⟩
        repeat (first | with_reducible exact Below.refl _ _ | with_reducible assumption | with_reducible apply grew_ext | with_reducible apply grew_al | with_reducible apply grew_dn | with_reducible apply grew_d | (with_reducible refine grew_set ?_ (by first | omega | (repeat (first | with_reducible exact Nat.le_refl _ | with_reducible apply le_pl | with_reducible apply le_ext | with_reducible apply le_al))) _))

theorem implRunDepth (a : Option Addr) (n cap : Nat) (ps : List Prc) (st : Int) (fa : Option Addr) (fn fc : Nat) (fs : List Fr) (out proc pc : Int) (w : World) (hr : RdP w a n ps) (hn : n ≤ 9223372036854775807) (hf : RdF w fa fn fs) (hfn : fn ≤ 9223372036854775807) :
    Calls Try.prog 45 #[.agg #[.slice a n cap], .agg #[.int .i64 st, .slice fa fn fc, .int .i64 out, .int .i64 proc, .int .i64 pc]] w fun e w' => e = .returned (.int .i64 (if runOkB ps ⟨st, fs, out, proc, pc⟩ then (fn : Int) else 0)) ∧ Grew w w' := by
  have C := fun W (h : Grew w W) => implRunOk a n cap ps st fa fn fc fs out proc pc W (hr.grew h) hn (hf.grew h) hfn
  clear hr hf
  generalize runOkB ps ⟨st, fs, out, proc, pc⟩ = B at *
  have HC := Lib.hid C; clear C
  cases B
  all_goals
    go_enter Try.func45, Try.ntmps45
    go_wp2_with (first | ((with_reducible refine (HC.out _ (by repeat (first | with_reducible exact Below.refl _ _ | with_reducible assumption | with_reducible apply grew_ext | with_reducible apply grew_al | with_reducible apply grew_dn | with_reducible apply grew_d | (with_reducible refine grew_set ?_ (by first | omega | (repeat (first | with_reducible exact Nat.le_refl _ | with_reducible apply le_pl | with_reducible apply le_ext | with_reducible apply le_al))) _)))).mono ?_); rintro e w' ⟨rfl, g'⟩; (first | obtain ⟨y, rfl⟩ := ext_cold g' | obtain ⟨y, rfl⟩ := ext_col g' | obtain ⟨y, rfl⟩ := ext_of g'); clear g'))
    go_ret
    refine ⟨rfl, ?_⟩
    repeat (first | with_reducible exact Below.refl _ _ | with_reducible assumption | with_reducible apply grew_ext | with_reducible apply grew_al | with_reducible apply grew_dn | with_reducible apply grew_d | (with_reducible refine grew_set ?_ (by first | omega | (repeat (first | with_reducible exact Nat.le_refl _ | with_reducible apply le_pl | with_reducible apply le_ext | with_reducible apply le_al))) _))
end Go.Proofs.Ytnjoofpllhbccaa
