/- The reference's alarms of a certificate. No condition. -/
import Derived.Test.YtdddhnepanjmfaaGreatVy
import Derived.Test.YtdddhnepanjmfaaGreatVw
namespace Go.Proofs.YtdddhnepanjmfaaGreat
open Go.RowKit
set_option linter.unusedVariables false
set_option linter.unusedSimpArgs false
attribute [local go_sem] ext_cell ext_frozen ext_lt ext_le ext_le1 lt_s2 lt_s3 lt_s4 lt_s5 lt_s6 ext_lt1 ext_lt2 ext_lt3

theorem absFailsB_eq {ps : List Prc} {i : Ins} {on : Bool} {xs : List Itv} {lo hi : Int} (h1 : stOkB on xs lo hi = true) (h2 : prgOkB ps = true) (h3 : insOkB i ps.length 10 = true) : absFailsB ps i on xs lo hi = (on && failsB ps i xs) := by
  unfold absFailsB
  rw [h1, h2, h3]
  simp

set_option maxRecDepth 100000 in
set_option maxHeartbeats 8000000 in
theorem crtAlarmsS (a : Option Addr) (n cap : Nat) (ps : List Prc) (ta : Option Addr) (tn tc : Nat) (part : List Int) (va : Option Addr) (vc : Nat) (oa : Option Addr) (oc : Nat) (ss : List (List St)) (os : List Sum) (w : World) (h : RcH w a n ps ta tn part va ss oa os)
    (hn : n ≤ 9223372036854775807) (ht1 : 1 ≤ tn) (htn : tn ≤ 1000) (hsl : ss.length ≤ 9223372036854775807) (hol : os.length ≤ 9223372036854775807) (hc : certB ps part ⟨ss, os⟩ = true) :
    Calls Tryz.prog 21 #[.agg #[.slice a n cap], .slice ta tn tc, .agg #[.slice va ss.length vc, .slice oa os.length oc]] w (RetSit (alarmsL ps part ⟨ss, os⟩) w) := by
  have CI := Lib.hid fun W (g : Grew w W) => crtOkS a n cap ps ta tn tc part va vc oa oc ss os W (h.grew g) hn ht1 htn hsl hol
  rw [hc] at CI
  have HH := Lib.hid h
  obtain ⟨hc1, -, hc3, -⟩ := certB_inv hc
  have HC1 := Lib.hid hc1
  have HC3 := Lib.hid hc3
  clear h hc hc1 hc3
  obtain ⟨S, hS⟩ : ∃ S, alarmsL ps part ⟨ss, os⟩ = S := ⟨_, rfl⟩
  have HS := Lib.hid (show certF ps part ss tn = S by rw [← hS, ← HH.out.tl]; rfl)
  rw [hS]
  clear hS
  obtain ⟨n1, hn1⟩ : ∃ k, ss.length = k := ⟨_, rfl⟩
  obtain ⟨n2, hn2⟩ : ∃ k, os.length = k := ⟨_, rfl⟩
  have HN1 := Lib.hid hn1
  rw [hn1] at hsl CI ⊢
  rw [hn2] at hol CI ⊢
  clear hn1 hn2
  obtain ⟨E0, hE0⟩ : ∃ E0, (w.alloc (.cells #[.slice a n cap] 34)).alloc (.cells #[.slice va n1 vc, .slice oa n2 oc] 58) = E0 := ⟨_, rfl⟩
  have HB3 := Lib.hid (show Blk E0 w.heap.size 34 #[.slice a n cap] by rw [← hE0]; exact (Blk.new w 34 #[.slice a n cap]).alloc _)
  have HB5 := Lib.hid (show Blk E0 (w.heap.size + 1) 58 #[.slice va n1 vc, .slice oa n2 oc] by
    rw [← hE0]
    have := Blk.new (w.alloc (.cells #[.slice a n cap] 34)) 58 #[.slice va n1 vc, .slice oa n2 oc]
    simpa only [World.size_alloc] using this)
  have HG0 := Lib.hid (show Grew w E0 by rw [← hE0]; exact grew_al (grew_al (Below.refl _ w) _) _)
  have HZ0 := Lib.hid (show E0.heap.size = w.heap.size + 1 + 1 by rw [← hE0]; simp)
  have HO0 := Lib.hid (World.ownsRow_lit E0 (e := 62) (size := 2) #[] 0 (base := E0.heap.size) (by simp) (Nat.zero_le _) rfl)
  have HE0 := Lib.hid hE0
  clear hE0
  go_enter Tryz.func21, Tryz.ntmps21
  go_wp2_with fail
  refine (CI.out _ (grew_al (grew_al (grew_al (Below.refl _ w) _) _) _)).mono ?_
  rintro e w1 ⟨rfl, g1⟩
  rw [HE0.out] at g1
  have HG1 := Lib.hid (show Grew E0 w1 from grew_tr (grew_al (Below.refl _ E0) _) g1)
  have HO1 := Lib.hid (owns_grew HO0.out g1)
  rw [HZ0.out] at HO1
  have HZ := Lib.hid (show w.heap.size + 1 + 1 ≤ E0.heap.size by rw [HZ0.out]; exact Nat.le_refl _)
  clear HE0 g1 HO0 CI
  go_wp2
  go_loopw [7, 8] (fun out i wr => ∃ k : Nat, k ≤ tn ∧ i = .int .i64 k ∧ Grew E0 wr ∧ ∃ (M : Nat) (a1 : Option Addr) (cp : Nat), out = .slice a1 M cp ∧ M = (certF ps part ss k).length ∧ wr.ownsRow E0.heap.size 62 2 (.slice a1 M cp) M ((certF ps part ss k).flatMap sitC)) (fun _ i _ => tn - (Go.RowKit.intOf i).toNat)
  case atStart => exact ⟨0, Nat.zero_le _, rfl, HG1.out, 0, _, 0, rfl, rfl, by have h := HO1.out; rw [← HZ0.out] at h; simpa [HZ0.out, certF] using h⟩
  case round =>
    obtain ⟨k, hk, rfl, hg, M, a1, cp, rfl, hM, hO⟩ := hrel
    have HG := Lib.hid hg
    have HO := Lib.hid hO
    have HM := Lib.hid hM
    have hMs : M ≤ 10000 := by have := certF_len HH.out.ok part ss k; omega
    clear hg hO hM
    by_cases hlt : k < tn
    · obtain ⟨bt, ot, p, rfl, hp, t0⟩ := part_at HH.out.rt hlt
      obtain ⟨br, of, ra, row, rc, rfl, hrow, r0, hbr, hr1, hr2, hr3⟩ := rdRow_at HH.out.rs (show k < ss.length by have := HN1.out; have := HC1.out; have := HH.out.tl; omega)
      obtain ⟨hp0, hp1⟩ := HH.out.bd p (List.mem_of_getElem? hp)
      obtain ⟨P, rfl⟩ : ∃ P : Nat, p = P := ⟨p.toNat, by omega⟩
      obtain ⟨bp, op, plo, phi, is, ia, ic, rfl, hps, p0, p1, p2, hbp, hi1, hi2, hi3⟩ := rdP_at HH.out.rp (show P < n by omega)
      have hcode : codeOfP ps P = is := by unfold codeOfP; rw [Int.toNat_natCast, hps]
      obtain ⟨hrl0, hrst⟩ := rowB_inv (HC3.out k P row hp hrow)
      rw [hcode] at hrl0
      have HRst := Lib.hid hrst
      have HCd := Lib.hid hcode
      have HRw := Lib.hid hrow
      have HR1 := Lib.hid hr1
      have HIs := Lib.hid hi1
      have hPn : (P : Int) < n := hp1
      have hil10 := codeOfP_le HH.out.ok P
      rw [hcode] at hil10
      have HFs := Lib.hid (show certF ps part ss (k + 1) = certF ps part ss k ++ rowF ps P row is.length by rw [certF_succ hp hrow, hcode])
      obtain ⟨il, hil⟩ : ∃ x, is.length = x := ⟨_, rfl⟩
      have HIl := Lib.hid hil
      rw [hil] at p2 hil10 HFs hrl0
      have gwr := grew_tr HG0.out HG.out
      have q0 := gk gwr t0
      have q1 := gk gwr r0
      have q5 := gk gwr p2
      have HQ0 := Lib.hid t0
      have HQ1 := Lib.hid r0
      have m0 := World.block_lt_of_cell? wr _ q0
      have m5 := World.block_lt_of_cell? wr _ q5
      simp only at m0 m5
      have z3 := (HB3.out.grew HG.out).cell 0
      have l3 := (HB3.out.grew HG.out).lt
      simp only [List.getElem?_toArray, List.getElem?_cons_zero, List.getElem?_cons_succ] at z3
      obtain ⟨rl, hrl⟩ : ∃ x, row.length = x := ⟨_, rfl⟩
      rw [hrl] at q1 HQ1
      clear hp hrow t0 r0 hbr hr1 hr2 hr3 hps p0 p1 p2 hbp hi1 hi2 hi3 hcode gwr hrst hp0 hp1 hil
      go_wp2_with fail
      first | refine wp_region_ext2 (by kernel_rfl) (by kernel_rfl) ?_ | refine wp_region_ext (by kernel_rfl) (by kernel_rfl) ?_
      repeat (go_big_quiet_step ((first | fail)))
      refine wpQuiet_nil ?_
      intro _ hw'
      obtain ⟨u, hw''⟩ := hw'
      subst hw''
      have HGu := Lib.hid (grew_ext HG.out u)
      have HOu := Lib.hid (owns_grew HO.out (ext_grew _ u))
      clear q0 q1 q5 m0 m5 z3 l3 HO
      generalize ext wr u = wu at *
      go_wp2
      go_loopw [7, 10] (fun out i wq => ∃ j : Nat, j ≤ il ∧ i = .int .i64 j ∧ Grew E0 wq ∧ ∃ (M : Nat) (a1 : Option Addr) (cp : Nat), out = .slice a1 M cp ∧ M = (certF ps part ss k ++ rowF ps P row j).length ∧ wq.ownsRow E0.heap.size 62 2 (.slice a1 M cp) M ((certF ps part ss k ++ rowF ps P row j).flatMap sitC)) (fun _ i _ => il - (Go.RowKit.intOf i).toNat)
      case atStart => exact ⟨0, Nat.zero_le _, rfl, HGu.out, M, a1, cp, rfl, by simpa [rowF] using HM.out, by simpa [rowF] using HOu.out⟩
      case round =>
        clear HOu HGu HM
        obtain ⟨j, hj, rfl, hg, M2, a2, cp2, rfl, hM2, hO2⟩ := hrel
        have HG2 := Lib.hid hg
        have HO2 := Lib.hid hO2
        have HM2 := Lib.hid hM2
        have hM2s : M2 ≤ 20000 := by
          have h1 := certF_len HH.out.ok part ss k
          have h2 := rowF_len ps P row j
          rw [hM2, List.length_append]
          omega
        clear hg hO2 hM2
        by_cases hlj : j < il
        · obtain ⟨d, of2, o, dd, ja, jb, rel, lo2, hi2', tv, rfl, hy, e0, e1, e2, e3, e4, e5, e6, e7, he⟩ := rdI_at HIs.out (show j < is.length by have := HIl.out; omega)
          obtain ⟨bs, ofs, son, xa, xs, xc, slo, shi, rfl, hs, s0, s1, s2, s3, hbs, hx1, hx2, hx3⟩ := rdSt_at HR1.out (show j < row.length by omega)
          have hxl63 : xs.length ≤ 9223372036854775807 := by unfold maxLen at hx3; omega
          have hci : (codeOfP ps P)[j]? = some ⟨o, dd, ja, jb, rel, lo2, hi2', tv⟩ := by rw [HCd.out]; exact hy
          have hsk : stOkB son xs slo shi = true := HRst.out _ (List.mem_of_getElem? hs)
          have CAF := Lib.hid fun W (g : Grew w W) => specAbsFails (some ⟨bp, op, none⟩) n cap ps ⟨o, dd, ja, jb, rel, lo2, hi2', tv⟩ son xa xs.length xc xs slo shi W (HH.out.rp.grew g) hn (hx1.grew staysItv g) hxl63
          rw [absFailsB_eq hsk HH.out.ok (code_ok HH.out.ok hci)] at CAF
          have HRF := Lib.hid (rowF_succ hci hs)
          obtain ⟨xn, hxn⟩ : ∃ x, xs.length = x := ⟨_, rfl⟩
          rw [hxn] at CAF s1
          have gwq := grew_tr HG0.out HG2.out
          have q0 := gk gwq HQ0.out
          have q1 := gk gwq HQ1.out
          have b0 := gk gwq e0
          have b1 := gk gwq e1
          have b2 := gk gwq e2
          have b3 := gk gwq e3
          have b4 := gk gwq e4
          have b5 := gk gwq e5
          have b6 := gk gwq e6
          have b7 := gk gwq e7
          have c0 := gk gwq s0
          have c1 := gk gwq s1
          have c2 := gk gwq s2
          have c3 := gk gwq s3
          have m0 := World.block_lt_of_cell? wr _ q0
          have m1 := World.block_lt_of_cell? wr _ q1
          have m2 := World.block_lt_of_cell? wr _ b0
          have m3 := World.block_lt_of_cell? wr _ c0
          simp only at m0 m1 m2 m3
          have z3 := (HB3.out.grew HG2.out).cell 0
          have l3 := (HB3.out.grew HG2.out).lt
          have z5 := (HB5.out.grew HG2.out).cell 0
          have l5 := (HB5.out.grew HG2.out).lt
          simp only [List.getElem?_toArray, List.getElem?_cons_zero, List.getElem?_cons_succ] at z3 z5
          have hrlj : j < rl := by omega
          have hkn1 : k < n1 := by have := HN1.out; have := HC1.out; have := HH.out.tl; omega
          have hrl63 : rl ≤ 10 := by omega
          clear hy hs e0 e1 e2 e3 e4 e5 e6 e7 he s0 s1 s2 s3 hbs hx1 hx2 hx3 hxl63 hci hsk hxn
          cases hF : (son && failsB ps ⟨o, dd, ja, jb, rel, lo2, hi2', tv⟩ xs) with
          | false =>
            rw [hF] at CAF
            have HRL := Lib.hid (show rowF ps P row (j + 1) = rowF ps P row j by rw [HRF.out, hF]; simp)
            clear hF HRF
            go_wp2_with fail
            first | refine wp_region_ext2 (by kernel_rfl) (by kernel_rfl) ?_ | refine wp_region_ext (by kernel_rfl) (by kernel_rfl) ?_
            repeat (go_big_quiet_step ((first | (with_reducible exact ext_grow (CAF.out _ (gr))))))
            refine wpQuiet_nil ?_
            intro _ hw'
            obtain ⟨u, hw''⟩ := hw'
            subst hw''
            clear CAF q0 q1 b0 b1 b2 b3 b4 b5 b6 b7 c0 c1 c2 c3 m0 m1 m2 m3 z3 l3 z5 l5 gwq
            go_wp2
            go_roundw
            case rel => exact ⟨j + 1, by omega, by go_num, grew_ext HG2.out _, M2, a2, cp2, rfl, by rw [HRL.out]; exact HM2.out, by rw [HRL.out]; exact owns_grew HO2.out (ext_grew _ _)⟩
            case measure => simp [Go.RowKit.intOf]; omega
          | true =>
            rw [hF] at CAF
            have HRL := Lib.hid (show rowF ps P row (j + 1) = rowF ps P row j ++ [⟨P, j⟩] by rw [HRF.out, hF]; simp)
            clear hF HRF
            go_wp2_with fail
            first | refine wp_region_ext2 (by kernel_rfl) (by kernel_rfl) ?_ | refine wp_region_ext (by kernel_rfl) (by kernel_rfl) ?_
            repeat (go_big_quiet_step ((first | (with_reducible exact ext_grow (CAF.out _ (gr))))))
            refine wpQuiet_nil ?_
            intro _ hw'
            obtain ⟨u, hw''⟩ := hw'
            subst hw''
            clear CAF b0 b1 b2 b3 b4 b5 b6 b7 c0 c1 c2 c3 m1 m2 m3 z3 l3 z5 l5 gwq q1
            go_upto_region 12 with fail
            refine wp_letV ?_
            intro E hE
            have HE := Lib.hid (show Grew wr E by rw [hE]; exact ext_grew _ _)
            have q0 := gk HE.out q0
            obtain ⟨a3, cp3, W, hrun, o3, g3⟩ := site_more (owns_grew HO2.out HE.out) (by omega) (grew_tr HG2.out HE.out) P j
            have HRU := Lib.hid hrun
            have HO3 := Lib.hid o3
            have HG3 := Lib.hid g3
            clear hrun o3 g3 hE
            go_wp2_with (at_builtin; refine wpList_append_run rfl _ _ rfl rfl rfl rfl HRU.out ?_)
            clear HRU
            go_roundw
            case rel => exact ⟨j + 1, by omega, by go_num, HG3.out, M2 + 1, a3, cp3, rfl, by rw [HRL.out, ← List.append_assoc, List.length_append, ← HM2.out]; rfl, by rw [HRL.out, ← List.append_assoc]; exact HO3.out⟩
            case measure => simp [Go.RowKit.intOf]; omega
        · obtain rfl : j = il := by omega
          go_wp2
          go_roundw
          case rel => exact ⟨k + 1, by omega, by go_num, HG2.out, M2, a2, cp2, rfl, by rw [HFs.out]; exact HM2.out, by rw [HFs.out]; exact HO2.out⟩
          case measure => simp [Go.RowKit.intOf]; omega
    · obtain rfl : k = tn := by omega
      go_wp2
      go_ret
      rw [HS.out] at HM HO
      exact ⟨a1, cp, by rw [← HM.out]; rfl, by rw [← HM.out]; exact owns_mono HO.out HG0.out.size, grew_tr HG0.out HG.out⟩
end Go.Proofs.YtdddhnepanjmfaaGreat
