/- The verdict of certificates: the reference, all. No condition. -/
import Derived.Test.YtdddhnepanjmfaaGreatWa
import Derived.Test.YtdddhnepanjmfaaGreatRgS
import Derived.Test.YtdddhnepanjmfaaGreatLS
namespace Go.Proofs.YtdddhnepanjmfaaGreat
open Go.RowKit
set_option linter.unusedVariables false
set_option linter.unusedSimpArgs false
attribute [local go_sem] ext_cell ext_frozen ext_lt ext_le ext_le1 lt_s2 lt_s3 lt_s4 lt_s5 lt_s6 ext_lt1 ext_lt2 ext_lt3

theorem putsL_app (X Y : List Site) : putsL [] (X ++ Y) = putsL (putsL [] X) Y := List.foldl_append
theorem putsL_one {X A : List Site} {j : Nat} {y : Site} (h : A[j]? = some y) : putsL [] (X ++ A.take (j + 1)) = putL (putsL [] (X ++ A.take j)) y := by
  rw [List.take_add_one, h, ← List.append_assoc]
  show putsL [] ((X ++ A.take j) ++ [y]) = _
  rw [putsL_app _ [y]]
  rfl
theorem putsL_len (X : List Site) : (putsL [] X).length = X.length := by
  have := (putsL_perm X []).length_eq
  simpa using this
theorem allF_len {ps : List Prc} (hB : prgOkB ps = true) (xs : List Crt) : ∀ k, (allF ps (ptOf ps) xs k).length ≤ 40 * k
  | 0 => by simp [allF]
  | k + 1 => by
    have h := allF_len hB xs k
    cases hp : (ptOf ps)[k]? with
    | none => rw [allF, hp]; simp; omega
    | some part =>
      cases hx : xs[k]? with
      | none => rw [allF, hp, hx]; simp; omega
      | some x =>
        rw [allF_succ hp hx, List.length_append]
        have := alarmsL_len hB (ptOf_facts hB (List.mem_of_getElem? hp)).n4 x
        omega
theorem chg_w (w : World) (g o : Nat) (u : Value) : Chg (fun b => b = g) w (w.setCell ⟨g, o, none⟩ u) := ⟨rfl, rfl, rfl, by simp, fun k hk hn => Below.heap_setCell w ⟨g, o, none⟩ u k hn⟩
theorem chg_w3 (W : World) (z : Nat) (u v x : Value) : Chg (fun t => t = z) W (((W.setCell ⟨z, 0, none⟩ u).setCell ⟨z, 1, none⟩ v).setCell ⟨z, 2, none⟩ x) :=
  ((chg_w W z 0 u).trans (chg_w _ z 1 v) (fun _ _ e => e) (fun _ _ e => e)).trans (chg_w _ z 2 x) (fun _ _ e => e) (fun _ _ e => e)
theorem vrdP_end {ps : List Prc} {xs : List Crt} (hB : prgOkB ps = true) (hl : xs.length = (ptOf ps).length) (h : ∀ (k : Nat) (part : List Int) (x : Crt), (ptOf ps)[k]? = some part → xs[k]? = some x → certB ps part x = true) {PL : List Site} (hPL : putsL [] (allF ps (ptOf ps) xs xs.length) = PL) :
    vrdP ps xs = (if PL.length = 0 then 2 else 3, PL) := by
  rw [vrdP_ok hB hl h]
  have hlen := putsL_len (allF ps (ptOf ps) xs xs.length)
  rw [hPL] at hlen ⊢
  by_cases h0 : allF ps (ptOf ps) xs xs.length = []
  · rw [h0] at hlen ⊢
    have hlen : PL.length = 0 := hlen
    rw [if_pos rfl, if_pos hlen, List.eq_nil_of_length_eq_zero hlen]
  · rw [if_neg h0, if_neg (fun e => h0 (List.eq_nil_of_length_eq_zero (by omega)))]

set_option maxRecDepth 100000 in
set_option maxHeartbeats 8000000 in
theorem specVrdOf (a : Option Addr) (n cap : Nat) (ps : List Prc) (va : Option Addr) (vn vc : Nat) (xs : List Crt) (w : World) (hr : RdP w a n ps) (hn : n ≤ 9223372036854775807) (hx : RdL ECrt 2 w va vn xs) (hvn : vn ≤ 9223372036854775807) :
    Calls Tryz.prog 6 #[.agg #[.slice a n cap], .slice va vn vc] w (RetVrd (vrdP ps xs).1 (vrdP ps xs).2 w) := by
  generalize hvp : vrdP ps xs = vp
  have HV := Lib.hid hvp
  have HX := Lib.hid hx
  have HR := Lib.hid hr
  have hxl := hx.len
  have HB0 := Lib.hid ((Blk.new w 34 #[.slice a n cap]).alloc (.cells #[.int .i64 0, .int .i64 0, .slice none 0 0] 30))
  have HB1 := Lib.hid (Blk.new (w.alloc (.cells #[.slice a n cap] 34)) 30 #[.int .i64 0, .int .i64 0, .slice none 0 0])
  have HG0 := Lib.hid (grew_al (grew_al (Below.refl _ w) (.cells #[.slice a n cap] 34)) (.cells #[.int .i64 0, .int .i64 0, .slice none 0 0] 30))
  simp only [World.size_alloc] at HB1
  have HC := Lib.hid fun W (g : Grew w W) => specGrfParts a n cap ps W (HR.out.grew g) hn
  clear hvp hx hr
  cases hB : prgOkB ps with
  | false =>
    rw [show grfParts ps = [] by simp [grfParts, hB]] at HC
    obtain rfl : (0, []) = vp := by rw [← HV.out, vrdP_no hB]
    clear hB
    go_enter Tryz.func6, Tryz.ntmps6
    go_wp2_with fail
    refine (HC.out _ HG0.out).mono ?_
    rintro e w1 ⟨pa, pc, pms, rfl, -, -, g1⟩
    have HW := Lib.hid (HB1.out.grew g1)
    have HG1 := Lib.hid (grew_tr HG0.out g1)
    have z0 := HW.out.cell 0
    have z1 := HW.out.cell 1
    have z2 := HW.out.cell 2
    have zf := fun q => HW.out.frozen q
    have zl := HW.out.lt
    simp only [List.getElem?_toArray, List.getElem?_cons_zero, List.getElem?_cons_succ] at z0 z1 z2
    clear g1 HC HB0 HB1 HG0
    go_wp2
    refine body_letV ?_
    intro F hF
    have HF := (show Blk F (w.heap.size + 1) 30 #[.int .i64 0, .int .i64 0, .slice none 0 0] by
      rw [hF]
      exact ((HW.out.set_ 0 (.int .i64 0)).set_ 1 (.int .i64 0)).set_ 2 (.slice none 0 0))
    have HGF := (show Grew w F by
      rw [hF]
      iterate 3 refine grew_set ?_ (by omega) _
      exact HG1.out)
    clear hF
    have k0 := HF.cell 0
    have k1 := HF.cell 1
    have k2 := HF.cell 2
    simp only [List.getElem?_toArray, List.getElem?_cons_zero, List.getElem?_cons_succ] at k0 k1 k2
    have kl := HF.lt
    refine bodyPost_ret (by simp [results, Tryz.results6, go_sem, k0, k1, k2, kl]; try rfl) rfl ?_
    exact ⟨none, 0, rfl, World.ownsRow_nil _ _ _ _, HGF⟩
  | true =>
    rw [show grfParts ps = ptOf ps by simp only [grfParts, hB, if_true]] at HC
    have HOk := Lib.hid hB
    clear hB
    go_enter Tryz.func6, Tryz.ntmps6
    go_wp2_with fail
    refine (HC.out _ HG0.out).mono ?_
    rintro e w1 ⟨A, pc, pms, rfl, hpm, hpt, g1⟩
    have hpl := ll_len hpt
    obtain ⟨N, hN⟩ : ∃ N, (ptOf ps).length = N := ⟨_, rfl⟩
    have hN1 : 1 ≤ N := by rw [← hN]; exact List.length_pos_iff.2 (ptOf_ne HOk.out)
    have hN4 : N ≤ 4 := by rw [← hN]; exact (ptOf_bd HOk.out).1
    rw [hN] at hpm
    simp only [hN]
    have HPm := Lib.hid hpm
    have HPt := Lib.hid hpt
    have HN := Lib.hid hN
    have HP := Lib.hid (HB0.out.grew g1)
    have HW := Lib.hid (HB1.out.grew g1)
    have HG1 := Lib.hid (grew_tr HG0.out g1)
    have hN0 : ((N : Int) == 0) = false := by simp; omega
    clear hpm hpt hpl hN HC HB0 HB1 HG0 g1
    by_cases e1 : vn = N
    case neg =>
      have e2 : ((vn : Int) != (N : Int)) = true := by simp; omega
      obtain rfl : (0, []) = vp := by rw [← HV.out, vrdP_len (by rw [hxl, HN.out]; exact e1)]
      have z0 := HW.out.cell 0
      have z1 := HW.out.cell 1
      have z2 := HW.out.cell 2
      have zf := fun q => HW.out.frozen q
      have zl := HW.out.lt
      simp only [List.getElem?_toArray, List.getElem?_cons_zero, List.getElem?_cons_succ] at z0 z1 z2
      clear e1
      go_wp2
      refine body_letV ?_
      intro F hF
      have HF := (show Blk F (w.heap.size + 1) 30 #[.int .i64 0, .int .i64 0, .slice none 0 0] by
        rw [hF]
        exact ((HW.out.set_ 0 (.int .i64 0)).set_ 1 (.int .i64 0)).set_ 2 (.slice none 0 0))
      have HGF := (show Grew w F by
        rw [hF]
        iterate 3 refine grew_set ?_ (by omega) _
        exact HG1.out)
      clear hF
      have k0 := HF.cell 0
      have k1 := HF.cell 1
      have k2 := HF.cell 2
      simp only [List.getElem?_toArray, List.getElem?_cons_zero, List.getElem?_cons_succ] at k0 k1 k2
      have kl := HF.lt
      refine bodyPost_ret (by simp [results, Tryz.results6, go_sem, k0, k1, k2, kl]; try rfl) rfl ?_
      exact ⟨none, 0, rfl, World.ownsRow_nil _ _ _ _, HGF⟩
    case pos =>
      subst e1
      have e2 : ((vn : Int) != (vn : Int)) = false := by simp
      go_upto_region 5 with fail
      refine wp_letV ?_
      intro E2 hE2
      obtain ⟨B6, hB6⟩ : ∃ b, w1.heap.size = b := ⟨_, rfl⟩
      have HV6 := Lib.hid (show Blk E2 B6 30 #[.int .i64 2, .int .i64 0, .slice none 0 0] by rw [hE2, ← hB6]; exact Blk.new _ _ _)
      have HGE := Lib.hid (show Grew w1 E2 by rw [hE2]; exact grew_al (Below.refl _ _) _)
      have HB6 := Lib.hid hB6
      have HS6 := Lib.hid (show B6 < E2.heap.size by rw [hE2, ← hB6]; simp)
      have HW6 := Lib.hid (show w.heap.size + 1 < B6 by rw [← hB6]; exact HW.out.lt)
      simp only [hB6]
      obtain ⟨B0, hB0⟩ : ∃ b, E2.heap.size = b := ⟨_, rfl⟩
      have HZ0 := Lib.hid hB0
      rw [hB0] at HS6
      clear hE2 hB6 hB0
      go_wp2
      go_loopw [7] (fun i wr => ∃ k : Nat, k ≤ vn ∧ i = .int .i64 k ∧ Grew w1 wr ∧ ∃ (PL : List Site) (sn : Nat) (sa : Option Addr) (sc : Nat), Hid (sn = PL.length) ∧ Hid (PL = putsL [] (allF ps (ptOf ps) xs k)) ∧ Blk wr B6 30 #[.int .i64 2, .int .i64 0, .slice sa sn sc] ∧ wr.ownsRow B0 62 2 (.slice sa sn sc) sn (PL.flatMap sitC) ∧ Hid (B0 ≤ wr.heap.size) ∧ Hid (∀ (i : Nat) (part : List Int) (x : Crt), i < k → (ptOf ps)[i]? = some part → xs[i]? = some x → certB ps part x = true)) (fun i _ => vn - (Go.RowKit.intOf i).toNat)
      case atStart => exact ⟨0, Nat.zero_le _, rfl, HGE.out, [], 0, none, 0, Lib.hid rfl, Lib.hid rfl, HV6.out, World.ownsRow_nil _ _ _ _, Lib.hid (Nat.le_of_eq HZ0.out.symm), Lib.hid (fun i part x h => by omega)⟩
      case round =>
        clear HGE HV6 HZ0
        obtain ⟨k, hk, rfl, hg, PL, sn, sa, sc, HSn, HPL, hv6, hO, HB, HCk⟩ := hrel
        have HG := Lib.hid hg
        have HV6 := Lib.hid hv6
        have HO := Lib.hid hO
        have hsn : sn ≤ 1000 := by
          rw [HSn.out, HPL.out, putsL_len]
          have := allF_len HOk.out xs k
          omega
        clear hg hv6 hO
        by_cases hlt : k < vn
        · obtain ⟨bx, ox, va1, ss, vc1, oa1, os, oc1, rfl, hx, x0, x1, hbx, hr1, hr2, ⟨hv1, hv2⟩, hv3, hv4⟩ := rdCrt_at (HX.out.grew staysCrt (grew_tr HG1.out HG.out)) hlt
          obtain ⟨m, hmk⟩ : ∃ m, pms[k]? = some m := ⟨_, List.getElem?_eq_getElem (by have := congrArg List.length HPt.out; rw [List.length_map, HN.out] at this; omega)⟩
          obtain ⟨bt, ot, la, lc, rfl, hmv, p0, hpo⟩ := HPm.out.at_ hmk
          obtain ⟨part, hpart⟩ : ∃ p, m.1 = p := ⟨_, rfl⟩
          have hpk : (ptOf ps)[k]? = some part := by rw [← HPt.out, List.getElem?_map, hmk, ← hpart]; rfl
          rw [hpart] at p0 hpo
          have PF := Lib.hid (ptOf_facts HOk.out (List.mem_of_getElem? hpk))
          have HPR := Lib.hid (owns_rd hpo)
          obtain ⟨tn, htn⟩ : ∃ t, part.length = t := ⟨_, rfl⟩
          have HTn := Lib.hid htn
          rw [htn] at p0 HPR
          have HPk := Lib.hid hpk
          have HXk := Lib.hid hx
          have ht1 : 1 ≤ tn := by have := PF.out.n1; omega
          have ht4 : tn ≤ 4 := by have := PF.out.n4; omega
          have HRc := Lib.hid (show RcH wr a n ps la tn part va1 ss oa1 os from ⟨HR.out.grew (grew_tr HG1.out HG.out), HOk.out, HPR.out.grew HG.out, HTn.out, PF.out.s, fun y hy => by have := PF.out.b y hy; have h2 := HR.out.len; omega, hr1, hr2⟩)
          have hsl : ss.length ≤ 9223372036854775807 := by unfold maxLen at hv2; omega
          have hol : os.length ≤ 9223372036854775807 := by unfold maxLen at hv4; omega
          have CRO := Lib.hid fun W (g : Grew wr W) => crtOkS a n cap ps la tn lc part va1 vc1 oa1 oc1 ss os W (HRc.out.grew g) hn ht1 (by omega) hsl hol
          have CRA := Lib.hid fun W (g : Grew wr W) (hc : certB ps part ⟨ss, os⟩ = true) => crtAlarmsS a n cap ps la tn lc part va1 vc1 oa1 oc1 ss os W (HRc.out.grew g) hn ht1 (by omega) hsl hol hc
          obtain ⟨n1, hn1⟩ : ∃ t, ss.length = t := ⟨_, rfl⟩
          obtain ⟨n2, hn2⟩ : ∃ t, os.length = t := ⟨_, rfl⟩
          rw [hn1] at x0 CRO CRA
          rw [hn2] at x1 CRO CRA
          have q0 := (HP.out.grew HG.out).cell 0
          have ql := (HP.out.grew HG.out).lt
          have q3 := gk HG.out p0
          have l3 := World.block_lt_of_cell? wr _ q3
          simp only [List.getElem?_toArray, List.getElem?_cons_zero] at q0 l3
          clear hx hmk hmv hpo hpart hpk htn hr1 hr2 hv1 hv2 hv3 hv4 hsl hol hn1 hn2 p0
          cases hcb : certB ps part ⟨ss, os⟩ with
          | false =>
            rw [hcb] at CRO
            obtain rfl : (0, []) = vp := by rw [← HV.out, vrdP_bad HPk.out HXk.out hcb]
            clear hcb CRA
            go_wp2_with fail
            first | refine wp_region_ext2 (by kernel_rfl) (by kernel_rfl) ?_ | refine wp_region_ext (by kernel_rfl) (by kernel_rfl) ?_
            repeat (go_big_quiet_step ((first | (with_reducible exact ext_grow (CRO.out _ (gr))))))
            refine wpQuiet_nil ?_
            intro _ hw'
            obtain ⟨u, hw''⟩ := hw'
            subst hw''
            clear CRO ql l3 q0 q3
            have HGu := Lib.hid (ext_grew wr u)
            generalize ext wr u = E3 at *
            have HW2 := Lib.hid (HW.out.grew (grew_tr HG.out HGu.out))
            have HGw2 := Lib.hid (grew_tr HG1.out (grew_tr HG.out HGu.out))
            have z0 := HW2.out.cell 0
            have z1 := HW2.out.cell 1
            have z2 := HW2.out.cell 2
            have zf := fun q => HW2.out.frozen q
            have zl := HW2.out.lt
            simp only [List.getElem?_toArray, List.getElem?_cons_zero, List.getElem?_cons_succ] at z0 z1 z2
            go_wp2
            refine body_letV ?_
            intro F hF
            have HF := (show Blk F (w.heap.size + 1) 30 #[.int .i64 0, .int .i64 0, .slice none 0 0] by
              rw [hF]
              exact ((HW2.out.set_ 0 (.int .i64 0)).set_ 1 (.int .i64 0)).set_ 2 (.slice none 0 0))
            have HGF := (show Grew w F by
              rw [hF]
              iterate 3 refine grew_set ?_ (by omega) _
              exact HGw2.out)
            clear hF
            have k0 := HF.cell 0
            have k1 := HF.cell 1
            have k2 := HF.cell 2
            simp only [List.getElem?_toArray, List.getElem?_cons_zero, List.getElem?_cons_succ] at k0 k1 k2
            have kl := HF.lt
            refine bodyPost_ret (by simp [results, Tryz.results6, go_sem, k0, k1, k2, kl]; try rfl) rfl ?_
            exact ⟨none, 0, rfl, World.ownsRow_nil _ _ _ _, HGF⟩
          | true =>
            rw [hcb] at CRO
            have CRB := Lib.hid fun W (g : Grew wr W) => CRA.out W g hcb
            have HCb := Lib.hid hcb
            clear hcb CRA
            go_wp2_with fail
            first | refine wp_region_ext2 (by kernel_rfl) (by kernel_rfl) ?_ | refine wp_region_ext (by kernel_rfl) (by kernel_rfl) ?_
            repeat (go_big_quiet_step ((first | (with_reducible exact ext_grow (CRO.out _ (gr))))))
            refine wpQuiet_nil ?_
            intro _ hw'
            obtain ⟨u, hw''⟩ := hw'
            subst hw''
            have HGu := Lib.hid (ext_grew wr u)
            have q0 := gk HGu.out q0
            have q3 := gk HGu.out q3
            have x0 := gk HGu.out x0
            have x1 := gk HGu.out x1
            clear CRO ql l3
            have ql3 := (HP.out.grew (grew_tr HG.out HGu.out)).lt
            have m3 := World.block_lt_of_cell? _ _ q3
            have m5 := World.block_lt_of_cell? _ _ x0
            generalize ext wr u = E3 at *
            simp only at m3 m5
            have HBE := Lib.hid (show B0 ≤ E3.heap.size from Nat.le_trans HB.out HGu.out.size)
            obtain ⟨AL, hAL⟩ : ∃ AL, alarmsL ps part ⟨ss, os⟩ = AL := ⟨_, rfl⟩
            rw [hAL] at CRB
            obtain ⟨ln, hln⟩ : ∃ n, AL.length = n := ⟨_, rfl⟩
            have HAL := Lib.hid hAL
            have HLn := Lib.hid hln
            have hln4 : ln ≤ 100000 := by
              have := alarmsL_len HOk.out PF.out.n4 ⟨ss, os⟩
              rw [hAL, hln] at this
              omega
            clear hAL hln
            go_wp2_with fail
            refine region_w 72 [pgV (.agg #[.slice a n cap]), pgV (.slice (some ⟨bt, ot, none⟩) vn pc), pgV (.int .i64 (k : Int)), pgV (.pointer (some ⟨bt, ot + k, none⟩)), pgV (.slice la tn lc), pgV (.slice (some ⟨bx, ox, none⟩) vn vc), pgV (.int .i64 (k : Int)), pgV (.pointer (some ⟨bx, ox + k * 2, none⟩)), pgV (.agg #[.slice va1 n1 vc1, .slice oa1 n2 oc1]), ⟨fun W v => ∃ a c, v = .slice a ln c ∧ W.ownsRow B0 62 2 (.slice a ln c) ln (AL.flatMap sitC), fun _ _ _ k ⟨a, c, h1, h2⟩ => ⟨a, c, h1, owns_grew h2 k⟩⟩, ⟨fun W v => ∃ a c, v = .slice a ln c ∧ W.ownsRow B0 62 2 (.slice a ln c) ln (AL.flatMap sitC), fun _ _ _ k ⟨a, c, h1, h2⟩ => ⟨a, c, h1, owns_grew h2 k⟩⟩] (by kernel_rfl) rfl (by kernel_rfl) ⟨?_, ?_, ?_, ?_, ?_, ?_, ?_, ?_, ?_, ?_, ?_, trivial⟩ ?_
            · exact w_vx (v := .agg #[.slice a n cap]) rfl (fun A W h => by
              have e2 : A.eval (.tmp 2) = .pointer (some ⟨w.heap.size, 0, none⟩) := (h.slot 2).trans rfl
              have k0 := gk h.grew q0
              simp only [execOp, e2]
              simp [go_sem, k0])
            · exact w_vx (v := .slice (some ⟨bt, ot, none⟩) vn pc) rfl (fun A W h => by
              have e5 : A.eval (.tmp 5) = .slice (some ⟨bt, ot, none⟩) vn pc := (h.slot 5).trans rfl
              simp only [execOp, e5]
              first | (simp [go_sem]; done) | rfl | kernel_rfl)
            · exact w_vx (v := .int .i64 (k : Int)) rfl (fun A W h => by
              have e7 : A.eval (.tmp 7) = .int .i64 (k : Int) := (h.slot 7).trans rfl
              simp only [execOp, e7]
              first | (simp [go_sem]; done) | rfl | kernel_rfl)
            · exact w_vx (v := .pointer (some ⟨bt, ot + k, none⟩)) rfl (fun A W h => by
              have e43 : A.eval (.tmp 43) = .slice (some ⟨bt, ot, none⟩) vn pc := h.vb 1 43
              have e44 : A.eval (.tmp 44) = .int .i64 (k : Int) := h.vb 2 44
              simp only [execOp, e43, e44]
              simp [go_sem] <;> (intros; omega))
            · exact w_vx (v := .slice la tn lc) rfl (fun A W h => by
              have e45 : A.eval (.tmp 45) = .pointer (some ⟨bt, ot + k, none⟩) := h.vb 3 45
              have k0 := gk h.grew q3
              simp only [execOp, e45]
              simp [go_sem, k0])
            · exact w_vx (v := .slice (some ⟨bx, ox, none⟩) vn vc) rfl (fun A W h => by
              have e1 : A.eval (.tmp 1) = .slice (some ⟨bx, ox, none⟩) vn vc := (h.slot 1).trans rfl
              simp only [execOp, e1]
              first | (simp [go_sem]; done) | rfl | kernel_rfl)
            · exact w_vx (v := .int .i64 (k : Int)) rfl (fun A W h => by
              have e7 : A.eval (.tmp 7) = .int .i64 (k : Int) := (h.slot 7).trans rfl
              simp only [execOp, e7]
              first | (simp [go_sem]; done) | rfl | kernel_rfl)
            · exact w_vx (v := .pointer (some ⟨bx, ox + k * 2, none⟩)) rfl (fun A W h => by
              have e47 : A.eval (.tmp 47) = .slice (some ⟨bx, ox, none⟩) vn vc := h.vb 5 47
              have e48 : A.eval (.tmp 48) = .int .i64 (k : Int) := h.vb 6 48
              simp only [execOp, e47, e48]
              simp [go_sem] <;> (intros; omega))
            · exact w_vx (v := .agg #[.slice va1 n1 vc1, .slice oa1 n2 oc1]) rfl (fun A W h => by
              have e49 : A.eval (.tmp 49) = .pointer (some ⟨bx, ox + k * 2, none⟩) := h.vb 7 49
              have k0 := gk h.grew x0
              have k1 := gk h.grew x1
              simp only [execOp, e49]
              simp [go_sem, k0, k1])
            · exact w_callX (fun A W h => by
              have e42 : A.eval (.tmp 42) = .agg #[.slice a n cap] := h.vb 0 42
              have e46 : A.eval (.tmp 46) = .slice la tn lc := h.vb 4 46
              have e50 : A.eval (.tmp 50) = .agg #[.slice va1 n1 vc1, .slice oa1 n2 oc1] := h.vb 8 50
              refine Eq.trans (b := .ok (.enter 21 #[A.eval (.tmp 42), A.eval (.tmp 46), A.eval (.tmp 50)]) W) (by kernel_rfl) ?_
              rw [e42, e46, e50]) (fun W hW => (CRB.out W (grew_tr HGu.out hW)).mono fun e w' ⟨a, c, h1, h2, h3⟩ => ⟨_, h1, ⟨a, c, by rw [HLn.out], by rw [HLn.out] at h2; exact owns_mono h2 (Nat.le_trans HBE.out hW.size)⟩, h3⟩)
            · exact w_ex (fun A W h => by
              obtain ⟨a5, c5, e51, hP⟩ := h.vb 9 51
              exact ⟨_, W, by simp only [execOp, e51]; rfl, ⟨a5, c5, rfl, hP⟩, Below.refl _ _⟩)
            intro vs w9 g9 hR
            have x0 : vs 0 = .agg #[.slice a n cap] := hR 0 42 (by kernel_rfl)
            have x1 : vs 1 = .slice (some ⟨bt, ot, none⟩) vn pc := hR 1 43 (by kernel_rfl)
            have x2 : vs 2 = .int .i64 (k : Int) := hR 2 44 (by kernel_rfl)
            have x3 : vs 3 = .pointer (some ⟨bt, ot + k, none⟩) := hR 3 45 (by kernel_rfl)
            have x4 : vs 4 = .slice la tn lc := hR 4 46 (by kernel_rfl)
            have x5 : vs 5 = .slice (some ⟨bx, ox, none⟩) vn vc := hR 5 47 (by kernel_rfl)
            have x6 : vs 6 = .int .i64 (k : Int) := hR 6 48 (by kernel_rfl)
            have x7 : vs 7 = .pointer (some ⟨bx, ox + k * 2, none⟩) := hR 7 49 (by kernel_rfl)
            have x8 : vs 8 = .agg #[.slice va1 n1 vc1, .slice oa1 n2 oc1] := hR 8 50 (by kernel_rfl)
            obtain ⟨a9, c9, x9, -⟩ := hR 9 51 (by kernel_rfl)
            have hP10 := hR 10 8 (by kernel_rfl)
            simp only [putAll, Act.put, List.setIfInBounds_toArray, List.set_cons_zero, List.set_cons_succ, Nat.zero_add, Nat.reduceAdd, x0, x1, x2, x3, x4, x5, x6, x7, x8, x9]
            clear hR x0 x1 x2 x3 x4 x5 x6 x7 x8 x9
            clear q0 q3 x0 x1 ql3 m3 m5 CRB
            obtain ⟨la2, lc2, x10, hRA⟩ := hP10
            simp only [x10]
            clear x10
            have HG9 := Lib.hid (grew_tr HGu.out g9)
            have HV9 := Lib.hid (HV6.out.grew HG9.out)
            have HO9 := Lib.hid (owns_grew HO.out HG9.out)
            have HB9 := Lib.hid (show B0 ≤ w9.heap.size from Nat.le_trans HB.out HG9.out.size)
            have HGw9 := Lib.hid (grew_tr HG.out HG9.out)
            have HAF := Lib.hid (show allF ps (ptOf ps) xs (k + 1) = allF ps (ptOf ps) xs k ++ AL by rw [allF_succ HPk.out HXk.out, HAL.out])
            have hafl : (allF ps (ptOf ps) xs (k + 1)).length ≤ 40 * (k + 1) := allF_len HOk.out xs (k + 1)
            have HafL := Lib.hid hafl
            have HAO9 := Lib.hid hRA
            clear hRA g9 HGu HV6 HO HB hafl HBE
            go_wp2
            go_loopw [9] (fun jv wq => ∃ j : Nat, j ≤ ln ∧ jv = .int .i64 j ∧ wq.ownsRow B0 62 2 (.slice la2 ln lc2) ln (AL.flatMap sitC) ∧ Grew w1 wq ∧ ∃ (QL : List Site) (sn : Nat) (sa : Option Addr) (sc : Nat), Hid (sn = QL.length) ∧ Hid (QL = putsL [] (allF ps (ptOf ps) xs k ++ AL.take j)) ∧ Blk wq B6 30 #[.int .i64 2, .int .i64 0, .slice sa sn sc] ∧ wq.ownsRow B0 62 2 (.slice sa sn sc) sn (QL.flatMap sitC) ∧ Hid (B0 ≤ wq.heap.size)) (fun i _ => ln - (Go.RowKit.intOf i).toNat)
            case atStart => exact ⟨0, Nat.zero_le _, rfl, HAO9.out, HGw9.out, PL, sn, sa, sc, HSn, by rw [List.take_zero, List.append_nil]; exact HPL, HV9.out, HO9.out, HB9⟩
            case round =>
              clear HSn HPL HV9 HO9 HB9 HGw9 HAO9 hsn
              obtain ⟨j, hj, rfl, hAO, hg1, QL, sn, sa, sc, HSn, HQL, hv6, hO, HB0⟩ := hrel
              have HAO := Lib.hid hAO
              have HG1j := Lib.hid hg1
              have HV6 := Lib.hid hv6
              have HO := Lib.hid hO
              have hsn : sn ≤ 1000 := by
                rw [HSn.out, HQL.out, putsL_len, List.length_append, List.length_take]
                have h1 := HafL.out
                rw [HAF.out, List.length_append] at h1
                omega
              clear hAO hg1 hv6 hO
              by_cases hlj : j < ln
              · obtain ⟨y, hy⟩ : ∃ y, AL[j]? = some y := ⟨_, List.getElem?_eq_getElem (by rw [HLn.out]; exact hlj)⟩
                obtain ⟨bl, ol, rfl, x0, x1⟩ := site_get (owns_rd HAO.out) hy
                have xl := World.block_lt_of_cell? wr _ x0
                simp only at xl
                obtain ⟨PL, hPL⟩ : ∃ P, putL QL y = P := ⟨_, rfl⟩
                obtain ⟨N2, hN2⟩ : ∃ n, PL.length = n := ⟨_, rfl⟩
                have HN2 := Lib.hid hN2
                have HPQ := Lib.hid (show PL = putsL [] (allF ps (ptOf ps) xs k ++ AL.take (j + 1)) by rw [putsL_one hy, ← HQL.out, hPL])
                have CP := Lib.hid fun W (g : Grew wr W) => l10PutS sa sn sc QL y W (owns_rd (owns_grew HO.out g)) HSn.out.symm (by omega)
                rw [hPL] at CP
                have q2 := HV6.out.cell 2
                have ql := HV6.out.lt
                simp only [List.getElem?_toArray, List.getElem?_cons_zero, List.getElem?_cons_succ] at q2
                clear hy hPL hN2
                generalize hJ : (fun W => Grew w1 W ∧ Hid (B0 ≤ W.heap.size) ∧ W.ownsRow B0 62 2 (.slice (some ⟨bl, ol, none⟩) ln lc2) ln (AL.flatMap sitC) ∧ ∃ a' c', Blk W B6 30 #[.int .i64 2, .int .i64 0, .slice a' N2 c'] ∧ W.ownsRow B0 62 2 (.slice a' N2 c') N2 (PL.flatMap sitC)) = J
                have HJ := Lib.hid hJ
                clear hJ
                go_wp2_with fail
                refine region_wS 72 8 20 [pgV (.pointer (some ⟨B6, 2, none⟩)), pgV (.slice sa sn sc), pgV (.slice (some ⟨bl, ol, none⟩) ln lc2), pgV (.int .i64 (j : Int)), pgV (.pointer (some ⟨bl, ol + j * 2, none⟩)), pgV (.agg #[.int .i64 y.proc, .int .i64 y.pc]), ⟨fun W v => ∃ a c, v = .slice a N2 c ∧ W.ownsRow B0 62 2 (.slice a N2 c) N2 (PL.flatMap sitC), fun _ _ _ k ⟨a, c, h1, h2⟩ => ⟨a, c, h1, owns_grew h2 k⟩⟩, pgV (.pointer (some ⟨B6, 2, none⟩))] J (by kernel_rfl) rfl (by kernel_rfl) rfl (by kernel_rfl) ⟨?_, ?_, ?_, ?_, ?_, ?_, ?_, ?_, trivial⟩ ?_ ?_
                · exact w_vx (v := .pointer (some ⟨B6, 2, none⟩)) rfl (fun A W h => by
                  have e6 : A.eval (.tmp 6) = .pointer (some ⟨B6, 0, none⟩) := (h.slot 6).trans rfl
                  simp only [execOp, e6]
                  first | (simp [go_sem]; done) | rfl | kernel_rfl)
                · exact w_vx (v := .slice sa sn sc) rfl (fun A W h => by
                  have e58 : A.eval (.tmp 58) = .pointer (some ⟨B6, 2, none⟩) := h.vb 0 58
                  have k0 := gk h.grew q2
                  simp only [execOp, e58]
                  simp [go_sem, k0])
                · exact w_vx (v := .slice (some ⟨bl, ol, none⟩) ln lc2) rfl (fun A W h => by
                  have e8 : A.eval (.tmp 8) = .slice (some ⟨bl, ol, none⟩) ln lc2 := (h.slot 8).trans rfl
                  simp only [execOp, e8]
                  first | (simp [go_sem]; done) | rfl | kernel_rfl)
                · exact w_vx (v := .int .i64 (j : Int)) rfl (fun A W h => by
                  have e9 : A.eval (.tmp 9) = .int .i64 (j : Int) := (h.slot 9).trans rfl
                  simp only [execOp, e9]
                  first | (simp [go_sem]; done) | rfl | kernel_rfl)
                · exact w_vx (v := .pointer (some ⟨bl, ol + j * 2, none⟩)) rfl (fun A W h => by
                  have e60 : A.eval (.tmp 60) = .slice (some ⟨bl, ol, none⟩) ln lc2 := h.vb 2 60
                  have e61 : A.eval (.tmp 61) = .int .i64 (j : Int) := h.vb 3 61
                  simp only [execOp, e60, e61]
                  simp [go_sem] <;> (intros; omega))
                · exact w_vx (v := .agg #[.int .i64 y.proc, .int .i64 y.pc]) rfl (fun A W h => by
                  have e62 : A.eval (.tmp 62) = .pointer (some ⟨bl, ol + j * 2, none⟩) := h.vb 4 62
                  have k0 := gk h.grew x0
                  have k1 := gk h.grew x1
                  simp only [execOp, e62]
                  simp [go_sem, k0, k1])
                · exact w_callX (fun A W h => by
                  have e59 : A.eval (.tmp 59) = .slice sa sn sc := h.vb 1 59
                  have e63 : A.eval (.tmp 63) = .agg #[.int .i64 y.proc, .int .i64 y.pc] := h.vb 5 63
                  refine Eq.trans (b := .ok (.enter 22 #[A.eval (.tmp 59), A.eval (.tmp 63)]) W) (by kernel_rfl) ?_
                  rw [e59, e63]) (fun W hW => (CP.out W hW).mono fun e w' ⟨a, c, h1, h2, h3⟩ => ⟨_, h1, ⟨a, c, by rw [HN2.out], by rw [HN2.out] at h2; exact owns_mono h2 (Nat.le_trans HB0.out hW.size)⟩, h3⟩)
                · exact w_vx (v := .pointer (some ⟨B6, 2, none⟩)) rfl (fun A W h => by
                  have e6 : A.eval (.tmp 6) = .pointer (some ⟨B6, 0, none⟩) := (h.slot 6).trans rfl
                  simp only [execOp, e6]
                  first | (simp [go_sem]; done) | rfl | kernel_rfl)
                · intro o ho A W h
                  simp only [List.getElem?_toArray, List.getElem?_cons_zero, List.getElem?_cons_succ, Option.some.injEq] at ho
                  subst ho
                  have e65 : A.eval (.tmp 65) = .pointer (some ⟨B6, 2, none⟩) := h.vb 7 65
                  obtain ⟨a6, c6, e64, hP6⟩ := h.vb 6 64
                  have hb := HV6.out.grew h.grew
                  have hc2 := hb.cell 2
                  have hf2 := hb.frozen 2
                  simp only [List.getElem?_toArray, List.getElem?_cons_zero, List.getElem?_cons_succ] at hc2
                  unfold Oper.wp
                  refine Eq.mpr (congrArg _ (show _ = Result.ok .skip (W.setCell ⟨B6, 2, none⟩ (.slice a6 N2 c6)) by simp only [execOp, e65, e64]; simp [go_sem, hc2, hf2])) ?_
                  refine ⟨undef, rfl, ?_⟩
                  rw [← HJ.out]
                  have hch := chg_w W B6 2 (.slice a6 N2 c6)
                  have h6 := HS6.out
                  have h7 := HB6.out
                  refine ⟨grew_set (grew_tr HG1j.out h.grew) (by omega) _, Lib.hid (by have h8 := HB0.out; have h9 := h.grew.size; simp only [World.size_setCell]; omega), owns_chg (owns_grew HAO.out h.grew) hch (fun b hb e => by have := (HAO.out.lt b hb).1; omega), a6, c6, hb.set_ 2 _, owns_chg hP6 hch (fun b hb e => by have := (hP6.lt b hb).1; omega)⟩
                · intro vs w9' hj9
                  rw [← HJ.out] at hj9
                  obtain ⟨hj1, hj2, hj3, a6, c6, hj4, hj5⟩ := hj9
                  simp only [putAll, Act.put, List.setIfInBounds_toArray, List.set_cons_zero, List.set_cons_succ, Nat.zero_add, Nat.reduceAdd]
                  have HJ1 := Lib.hid hj1
                  have HJ3 := Lib.hid hj3
                  have HJ4 := Lib.hid hj4
                  have HJ5 := Lib.hid hj5
                  clear hj1 hj3 hj4 hj5 HJ HV6 HO HAO HSn q2 x0 x1 CP HG1j
                  go_wp2
                  go_roundw
                  case rel => exact ⟨j + 1, by omega, by go_num, HJ3.out, HJ1.out, PL, N2, a6, c6, Lib.hid HN2.out.symm, HPQ, HJ4.out, HJ5.out, hj2⟩
                  case measure => simp [Go.RowKit.intOf]; omega
              · obtain rfl : j = ln := by omega
                have HPQ := Lib.hid (show QL = putsL [] (allF ps (ptOf ps) xs (k + 1)) by rw [HAF.out, HQL.out, List.take_of_length_le (by rw [HLn.out]; exact Nat.le_refl _)])
                clear HQL
                go_wp2
                go_roundw
                case rel => exact ⟨k + 1, by omega, by go_num, HG1j.out, QL, sn, sa, sc, HSn, HPQ, HV6.out, HO.out, HB0, Lib.hid (fun i part' x h1 h2 h3 => by
                  by_cases hik : i < k
                  · exact HCk.out i part' x hik h2 h3
                  · obtain rfl : i = k := by omega
                    rw [HPk.out] at h2
                    rw [HXk.out] at h3
                    obtain rfl := Option.some.inj h2
                    obtain rfl := Option.some.inj h3
                    exact HCb.out)⟩
                case measure => simp [Go.RowKit.intOf]; omega
        · obtain rfl : k = vn := by omega
          have HVP := Lib.hid (vrdP_end HOk.out (show xs.length = (ptOf ps).length by rw [hxl, HN.out]) (fun i part x h1 h2 => HCk.out i part x (by have := (List.getElem?_eq_some_iff.1 h2).1; omega) h1 h2) (PL := PL) (by rw [HPL.out, hxl]))
          have hgwr := grew_tr HG1.out HG.out
          by_cases hz : sn = 0
          · have hg0 : ¬ ((sn : Int) > 0) := by omega
            have HK := Lib.hid (show (if PL.length = 0 then (2 : Int) else 3) = 2 from if_pos (by rw [← HSn.out]; exact hz))
            obtain rfl : ((2 : Int), PL) = vp := by rw [← HV.out, HVP.out, HK.out]
            have hwr := HW.out.grew HG.out
            have z0 := hwr.cell 0
            have z1 := hwr.cell 1
            have z2 := hwr.cell 2
            have zf := fun q => hwr.frozen q
            have zl := hwr.lt
            have v0 := HV6.out.cell 0
            have v1 := HV6.out.cell 1
            have v2 := HV6.out.cell 2
            have vf := fun q => HV6.out.frozen q
            have vl := HV6.out.lt
            simp only [List.getElem?_toArray, List.getElem?_cons_zero, List.getElem?_cons_succ] at z0 z1 z2 v0 v1 v2
            have hne6 : ¬ B6 = w.heap.size + 1 := by have := HW6.out; omega
            have hne7 : ¬ w.heap.size + 1 = B6 := by have := HW6.out; omega
            have HWR := Lib.hid hwr
            clear hwr HVP HV hz HK
            go_wp2
            refine body_letV ?_
            intro F hF
            have HF := (show Blk F (w.heap.size + 1) 30 #[.int .i64 2, .int .i64 0, .slice sa sn sc] by
              rw [hF]
              exact ((HWR.out.set_ 0 (.int .i64 2)).set_ 1 (.int .i64 0)).set_ 2 (.slice sa sn sc))
            have HGF := (show Grew w F by
              rw [hF]
              iterate 3 refine grew_set ?_ (by omega) _
              exact grew_tr HG1.out HG.out)
            have HCF := (show Chg (fun b => b = w.heap.size + 1 ∨ b = B6) wr F by
              rw [hF]
              exact (chg_w3 wr (w.heap.size + 1) _ _ _).trans (Chg.refl (fun _ => False) _) (fun _ _ e => Or.inl e) (fun _ _ e => e.elim))
            clear hF
            have k0 := HF.cell 0
            have k1 := HF.cell 1
            have k2 := HF.cell 2
            simp only [List.getElem?_toArray, List.getElem?_cons_zero, List.getElem?_cons_succ] at k0 k1 k2
            have kl := HF.lt
            refine bodyPost_ret (by simp [results, Tryz.results6, go_sem, k0, k1, k2, kl]; try rfl) rfl ?_
            refine ⟨sa, sc, ?_, ?_, HGF⟩
            · show _ = Ending.returned (.agg #[.int .i64 2, .int .i64 0, .slice sa PL.length sc])
              rw [← HSn.out]
            · show F.ownsRow w.heap.size _ 2 (.slice sa PL.length sc) PL.length (PL.flatMap sitC)
              rw [← HSn.out]
              have h6 := HS6.out
              have h7 := HW6.out
              exact owns_mono (owns_chg HO.out HCF (fun b hb e => by have := (HO.out.lt b hb).1; omega)) (by omega)

          · have hg0 : (sn : Int) > 0 := by omega
            have HK := Lib.hid (show (if PL.length = 0 then (2 : Int) else 3) = 3 from if_neg (by rw [← HSn.out]; exact hz))
            obtain rfl : ((3 : Int), PL) = vp := by rw [← HV.out, HVP.out, HK.out]
            have hwr := HW.out.grew HG.out
            have z0 := hwr.cell 0
            have z1 := hwr.cell 1
            have z2 := hwr.cell 2
            have zf := fun q => hwr.frozen q
            have zl := hwr.lt
            have v0 := HV6.out.cell 0
            have v1 := HV6.out.cell 1
            have v2 := HV6.out.cell 2
            have vf := fun q => HV6.out.frozen q
            have vl := HV6.out.lt
            simp only [List.getElem?_toArray, List.getElem?_cons_zero, List.getElem?_cons_succ] at z0 z1 z2 v0 v1 v2
            have hne6 : ¬ B6 = w.heap.size + 1 := by have := HW6.out; omega
            have hne7 : ¬ w.heap.size + 1 = B6 := by have := HW6.out; omega
            have HWR := Lib.hid hwr
            clear hwr HVP HV hz HK
            go_wp2
            refine body_letV ?_
            intro F hF
            have HF := (show Blk F (w.heap.size + 1) 30 #[.int .i64 3, .int .i64 0, .slice sa sn sc] by
              rw [hF]
              exact (((HWR.out.chg (chg_w wr B6 0 (.int .i64 3)) hne7).set_ 0 (.int .i64 3)).set_ 1 (.int .i64 0)).set_ 2 (.slice sa sn sc))
            have HGF := (show Grew w F by
              rw [hF]
              iterate 3 refine grew_set ?_ (by omega) _
              refine grew_tr HG1.out (grew_set HG.out (by have := HB6.out; omega) _))
            have HCF := (show Chg (fun b => b = w.heap.size + 1 ∨ b = B6) wr F by
              rw [hF]
              exact (chg_w wr B6 0 (.int .i64 3)).trans (chg_w3 _ (w.heap.size + 1) _ _ _) (fun _ _ e => Or.inr e) (fun _ _ e => Or.inl e))
            clear hF
            have k0 := HF.cell 0
            have k1 := HF.cell 1
            have k2 := HF.cell 2
            simp only [List.getElem?_toArray, List.getElem?_cons_zero, List.getElem?_cons_succ] at k0 k1 k2
            have kl := HF.lt
            refine bodyPost_ret (by simp [results, Tryz.results6, go_sem, k0, k1, k2, kl]; try rfl) rfl ?_
            refine ⟨sa, sc, ?_, ?_, HGF⟩
            · show _ = Ending.returned (.agg #[.int .i64 3, .int .i64 0, .slice sa PL.length sc])
              rw [← HSn.out]
            · show F.ownsRow w.heap.size _ 2 (.slice sa PL.length sc) PL.length (PL.flatMap sitC)
              rw [← HSn.out]
              have h6 := HS6.out
              have h7 := HW6.out
              exact owns_mono (owns_chg HO.out HCF (fun b hb e => by have := (HO.out.lt b hb).1; omega)) (by omega)

end Go.Proofs.YtdddhnepanjmfaaGreat
