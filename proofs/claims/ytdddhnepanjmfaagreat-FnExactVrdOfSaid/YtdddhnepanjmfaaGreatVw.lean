/- The verdict of certificates: the program's walk, all. No condition. -/
import Derived.Test.YtdddhnepanjmfaaGreatVq
import Derived.Test.YtdddhnepanjmfaaGreatRgw
namespace Go.Proofs.YtdddhnepanjmfaaGreat
open Go.RowKit
set_option linter.unusedVariables false
set_option linter.unusedSimpArgs false
attribute [local go_sem] ext_cell ext_frozen ext_lt ext_le ext_le1 lt_s2 lt_s3 lt_s4 lt_s5 lt_s6 ext_lt1 ext_lt2 ext_lt3

/-- A certificate that was read. -/
def CtR (a : Option Addr) (n cap : Nat) (ta : Option Addr) (tn tc : Nat) (L : List (Site × St)) (W : World) (v : Value) : Prop := ∃ gc, v = .pointer (some ⟨gc, 0, none⟩) ∧ CertI a n cap ta tn tc L gc W
theorem CtR.grew {a : Option Addr} {n cap : Nat} {ta : Option Addr} {tn tc : Nat} {L : List (Site × St)} {W W' : World} {v : Value} (h : CtR a n cap ta tn tc L W v) (g : Grew W W') : CtR a n cap ta tn tc L W' v := by
  obtain ⟨gc, h1, h2⟩ := h
  exact ⟨gc, h1, h2.grew g⟩
theorem blk_ne {W : World} {b g : Nat} {t : TypeId} {cs cur : Array Value} {fr : Nat × Nat} (h : Blk W b t cs) (hg : W.heap[g]? = some (.cells cur 71 fr)) (ht : t ≠ 71) : b ≠ g := by
  rintro rfl
  have h4 : W.heap[b]? = _ := h
  rw [hg] at h4
  simp only [Option.some.injEq, Obj.cells.injEq] at h4
  exact ht h4.2.1.symm
theorem CertI.row {a : Option Addr} {n cap : Nat} {ta : Option Addr} {tn tc : Nat} {L : List (Site × St)} {gc : Nat} {W W' : World} (h : CertI a n cap ta tn tc L gc W) {F : Nat → Prop} (c : Chg F W W') (hF : ∀ g, F g → ∃ cur fr, W.heap[g]? = some (.cells cur 71 fr)) : CertI a n cap ta tn tc L gc W' := by
  obtain ⟨gs, go, ks, h1, h2, h3⟩ := h
  refine ⟨gs, go, ks, h1.chg c (fun e => ?_), h2.chg c (fun e => ?_), h3.turn fun v s hs => ?_⟩
  · obtain ⟨cur, fr, hg⟩ := hF _ e
    exact blk_ne h1 hg (by decide) rfl
  · obtain ⟨cur, fr, hg⟩ := hF _ e
    obtain ⟨es, clock, h4, -⟩ := h2
    rw [hg] at h4
    cases h4
  · obtain ⟨sb, e1, h4⟩ := hs
    refine ⟨sb, e1, h4.chg c (fun e => ?_)⟩
    obtain ⟨cur, fr, hg⟩ := hF _ e
    exact blk_ne h4 hg (by decide) rfl
theorem RcH.grew {w W : World} {a : Option Addr} {n : Nat} {ps : List Prc} {ta : Option Addr} {tn : Nat} {part : List Int} {va : Option Addr} {ss : List (List St)} {oa : Option Addr} {os : List Sum} (h : RcH w a n ps ta tn part va ss oa os) (g : Grew w W) : RcH W a n ps ta tn part va ss oa os :=
  ⟨h.rp.grew g, h.ok, h.rt.grew g, h.tl, h.sr, h.bd, h.rs.grew staysRow g, h.ro.grew staysSum g⟩
theorem readCertY (a : Option Addr) (n cap : Nat) (ps : List Prc) (ta : Option Addr) (tn tc : Nat) (part : List Int) (va : Option Addr) (vc : Nat) (oa : Option Addr) (oc : Nat) (ss : List (List St)) (os : List Sum) (w : World) (h : RcH w a n ps ta tn part va ss oa os)
    (hn : n ≤ 9223372036854775807) (ht1 : 1 ≤ tn) (htn : tn ≤ 1000) (hsl : ss.length ≤ 9223372036854775807) (hol : os.length ≤ 9223372036854775807) (hc : certB ps part ⟨ss, os⟩ = true) :
    Calls Tryz.prog 26 #[.agg #[.slice a n cap], .slice ta tn tc, .agg #[.slice va ss.length vc, .slice oa os.length oc]] w fun e w' => ∃ u, e = .returned (.tuple #[u, .bool true]) ∧ CtR a n cap ta tn tc (certL part ss tn) w' u ∧ Grew w w' := by
  refine (readCertT a n cap ps ta tn tc part va vc oa oc ss os w h hn ht1 htn hsl hol).mono ?_
  rintro e w' ⟨g, ⟨h1, -⟩ | ⟨-, gc, rfl, hci⟩⟩
  · rw [hc] at h1; cases h1
  · exact ⟨_, rfl, ⟨gc, rfl, hci⟩, g⟩
theorem readCertN (a : Option Addr) (n cap : Nat) (ps : List Prc) (ta : Option Addr) (tn tc : Nat) (part : List Int) (va : Option Addr) (vc : Nat) (oa : Option Addr) (oc : Nat) (ss : List (List St)) (os : List Sum) (w : World) (h : RcH w a n ps ta tn part va ss oa os)
    (hn : n ≤ 9223372036854775807) (ht1 : 1 ≤ tn) (htn : tn ≤ 1000) (hsl : ss.length ≤ 9223372036854775807) (hol : os.length ≤ 9223372036854775807) (hc : certB ps part ⟨ss, os⟩ = false) :
    Calls Tryz.prog 26 #[.agg #[.slice a n cap], .slice ta tn tc, .agg #[.slice va ss.length vc, .slice oa os.length oc]] w fun e w' => e = .returned (.tuple #[.pointer none, .bool false]) ∧ Grew w w' := by
  refine (readCertT a n cap ps ta tn tc part va vc oa oc ss os w h hn ht1 htn hsl hol).mono ?_
  rintro e w' ⟨g, ⟨-, rfl⟩ | ⟨h1, -⟩⟩
  · exact ⟨rfl, g⟩
  · rw [hc] at h1; cases h1
theorem cpInfo : (Tryz.prog.info? 71).map (fun i => (i.zero, i.size, i.bytes)) = some (some (.pointer none), 1, 8) := by kernel_rfl
theorem cpEl : El Tryz.prog 70 71 (.pointer none) 1 8 := El.mk' cpInfo Tryz.underlying70 rfl (by omega)
abbrev ptrs (gl : List Nat) : List Value := gl.map fun g => .pointer (some ⟨g, 0, none⟩)
theorem ptr_more {w wr : World} {gl : List Nat} {a : Option Addr} {M cp : Nat} (ho : wr.ownsRow w.heap.size 71 1 (.slice a M cp) M (ptrs gl)) (hM : M ≤ 1000000) (hg : Grew w wr) (g : Nat) :
    ∃ (a2 : Option Addr) (cp2 : Nat) (W : World), (Builtin.append_ #[70, 70] 70 #[.slice a M cp, .slice (some ⟨wr.heap.size, 0, none⟩) 1 1]).run Tryz.prog (wr.alloc (.cells #[.pointer (some ⟨g, 0, none⟩)] 71)) = .ok (.slice a2 (M + 1) cp2) W ∧
      W.ownsRow w.heap.size 71 1 (.slice a2 (M + 1) cp2) (M + 1) (ptrs (gl ++ [g])) ∧ Grew w W ∧ ∀ (A : Option Addr) (n cap : Nat) (ta : Option Addr) (tn tc : Nat) (L : List (Site × St)) (gc : Nat), CertI A n cap ta tn tc L gc wr → CertI A n cap ta tn tc L gc W := by
  obtain ⟨v', W, hrun, o5, g5, -⟩ := owns_append_lit (P := Tryz.prog) wr cpEl ho 1 [.pointer (some ⟨g, 0, none⟩)] rfl (by simp [Value.oneCell']) (by omega) (by omega) hg.size
  obtain ⟨a2, cp2, rfl⟩ := owns_slice o5
  refine ⟨a2, cp2, W, hrun, by rw [ptrs, List.map_append]; exact o5, hg.trans ((Chg.of_grownBy g5).belowB hg.size (fun b hb => (ho.lt b hb).1)), fun A n cap ta tn tc L gc hc => hc.row (Chg.of_grownBy g5) fun b hb => ?_⟩
  rcases ho.2 with ⟨e1, -⟩ | ⟨g', cap', cur, e1, -, hh, -⟩
  · rw [e1] at hb; cases hb
  · rw [e1] at hb
    obtain rfl := Option.some.inj hb
    exact ⟨cur, _, hh⟩
/-- What stands while the certificates are read. -/
structure VrI (E : World) (a : Option Addr) (n cap : Nat) (ps : List Prc) (xs : List Crt) (k : Nat) (gl : List Nat) (W : World) : Prop where
  g : Grew E W
  l : gl.length = k
  e : ∀ (i : Nat) (g : Nat) (part : List Int) (x : Crt), gl[i]? = some g → (ptOf ps)[i]? = some part → xs[i]? = some x → certB ps part x = true ∧ ∃ ta tc, CertI a n cap ta part.length tc (certL part x.states part.length) g W ∧ Rd E ta part.length 1 (ints .i64 part)
theorem VrI.grew {E : World} {a : Option Addr} {n cap : Nat} {ps : List Prc} {xs : List Crt} {k : Nat} {gl : List Nat} {W W' : World} (h : VrI E a n cap ps xs k gl W) (g : Grew W W') : VrI E a n cap ps xs k gl W' :=
  ⟨grew_tr h.g g, h.l, fun i q part x h1 h2 h3 => by
    obtain ⟨h4, ta, tc, h5, h6⟩ := h.e i q part x h1 h2 h3
    exact ⟨h4, ta, tc, h5.grew g, h6⟩⟩

set_option maxRecDepth 100000 in
set_option maxHeartbeats 8000000 in
theorem implVrdOf (a : Option Addr) (n cap : Nat) (ps : List Prc) (va : Option Addr) (vn vc : Nat) (xs : List Crt) (w : World) (hr : RdP w a n ps) (hn : n ≤ 9223372036854775807) (hx : RdL ECrt 2 w va vn xs) (hvn : vn ≤ 9223372036854775807) :
    Calls Tryz.prog 9 #[.agg #[.slice a n cap], .slice va vn vc] w (RetVrd (vrdP ps xs).1 (vrdP ps xs).2 w) := by
  generalize hvp : vrdP ps xs = vp
  have HV := Lib.hid hvp
  have HX := Lib.hid hx
  have HR := Lib.hid hr
  have hxl := hx.len
  have HB0 := Lib.hid ((Blk.new w 34 #[.slice a n cap]).alloc (.cells #[.int .i64 0, .int .i64 0, .slice none 0 0] 30))
  have HB1 := Lib.hid (Blk.new (w.alloc (.cells #[.slice a n cap] 34)) 30 #[.int .i64 0, .int .i64 0, .slice none 0 0])
  have HG0 := Lib.hid (grew_al (grew_al (Below.refl _ w) (.cells #[.slice a n cap] 34)) (.cells #[.int .i64 0, .int .i64 0, .slice none 0 0] 30))
  simp only [World.size_alloc] at HB1
  clear hvp hx hr
  cases hB : prgOkB ps with
  | false =>
    have HC := Lib.hid fun W (g : Grew w W) => readGraphNo a n cap ps W (HR.out.grew g) hn hB
    obtain rfl : (0, []) = vp := by rw [← HV.out, vrdP_no hB]
    clear hB
    go_enter Tryz.func9, Tryz.ntmps9
    go_wp2_with fail
    refine (HC.out _ HG0.out).mono ?_
    rintro e w1 ⟨rfl, g1⟩
    have HW := Lib.hid (HB1.out.grew g1)
    have HG1 := Lib.hid (grew_tr HG0.out g1)
    have z0 := HW.out.cell 0
    have z1 := HW.out.cell 1
    have z2 := HW.out.cell 2
    have zf := fun q => HW.out.frozen q
    have zl := HW.out.lt
    simp only [List.getElem?_toArray, List.getElem?_cons_zero, List.getElem?_cons_succ] at z0 z1 z2
    clear g1 HC HB0 HB1 HG0
    go_wp2
    refine body_letV ?_
    intro F hF
    have HF := (show Blk F (w.heap.size + 1) 30 #[.int .i64 0, .int .i64 0, .slice none 0 0] by
      rw [hF]
      exact ((HW.out.set_ 0 (.int .i64 0)).set_ 1 (.int .i64 0)).set_ 2 (.slice none 0 0))
    have HGF := (show Grew w F by
      rw [hF]
      iterate 3 refine grew_set ?_ (by omega) _
      exact HG1.out)
    clear hF
    have k0 := HF.cell 0
    have k1 := HF.cell 1
    have k2 := HF.cell 2
    simp only [List.getElem?_toArray, List.getElem?_cons_zero, List.getElem?_cons_succ] at k0 k1 k2
    have kl := HF.lt
    refine bodyPost_ret (by simp [results, Tryz.results9, go_sem, k0, k1, k2, kl]; try rfl) rfl ?_
    exact ⟨none, 0, rfl, World.ownsRow_nil _ _ _ _, HGF⟩
  | true =>
    have HC := Lib.hid fun W (g : Grew w W) => readGraphYes a n cap ps W (HR.out.grew g) hn hB
    have HOk := Lib.hid hB
    clear hB
    go_enter Tryz.func9, Tryz.ntmps9
    go_wp2_with fail
    refine (HC.out _ HG0.out).mono ?_
    rintro e w1 ⟨gb, rfl, hg, g1⟩
    obtain ⟨⟨x, cv, pv, cms, pms, hgb, -, -, hpm, hpt⟩, -, -, -⟩ := hg
    obtain ⟨A, pc, rfl⟩ := owns_slice hpm.row
    have hpl := ll_len hpt
    rw [hpl] at hgb hpm
    obtain ⟨N, hN⟩ : ∃ N, (ptOf ps).length = N := ⟨_, rfl⟩
    rw [hN] at hgb hpm
    have HGb := Lib.hid hgb
    have HPm := Lib.hid hpm
    have HPt := Lib.hid hpt
    have HN := Lib.hid hN
    have HP := Lib.hid (HB0.out.grew g1)
    have HW := Lib.hid (HB1.out.grew g1)
    have HG1 := Lib.hid (grew_tr HG0.out g1)
    have q2 := hgb.cell 2
    have ql := hgb.lt
    simp only [List.getElem?_toArray, List.getElem?_cons_zero, List.getElem?_cons_succ] at q2
    have hN4 : N ≤ 4 := by rw [← HN.out]; exact (ptOf_bd HOk.out).1
    clear hgb hpm hpt hpl hN HC HB0 HB1 HG0 g1
    by_cases e1 : vn = N
    case neg =>
      have e2 : ((vn : Int) != (N : Int)) = true := by simp; omega
      obtain rfl : (0, []) = vp := by rw [← HV.out, vrdP_len (by rw [hxl, HN.out]; exact e1)]
      have z0 := HW.out.cell 0
      have z1 := HW.out.cell 1
      have z2 := HW.out.cell 2
      have zf := fun q => HW.out.frozen q
      have zl := HW.out.lt
      simp only [List.getElem?_toArray, List.getElem?_cons_zero, List.getElem?_cons_succ] at z0 z1 z2
      clear e1
      go_wp2
      refine body_letV ?_
      intro F hF
      have HF := (show Blk F (w.heap.size + 1) 30 #[.int .i64 0, .int .i64 0, .slice none 0 0] by
        rw [hF]
        exact ((HW.out.set_ 0 (.int .i64 0)).set_ 1 (.int .i64 0)).set_ 2 (.slice none 0 0))
      have HGF := (show Grew w F by
        rw [hF]
        iterate 3 refine grew_set ?_ (by omega) _
        exact HG1.out)
      clear hF
      have k0 := HF.cell 0
      have k1 := HF.cell 1
      have k2 := HF.cell 2
      simp only [List.getElem?_toArray, List.getElem?_cons_zero, List.getElem?_cons_succ] at k0 k1 k2
      have kl := HF.lt
      refine bodyPost_ret (by simp [results, Tryz.results9, go_sem, k0, k1, k2, kl]; try rfl) rfl ?_
      exact ⟨none, 0, rfl, World.ownsRow_nil _ _ _ _, HGF⟩
    case pos =>
      subst e1
      have e2 : ((vn : Int) != (vn : Int)) = false := by simp
      go_wp2
      go_loopw [7, 32] (fun out i wr => ∃ k : Nat, k ≤ vn ∧ i = .int .i64 k ∧ ∃ (gl : List Nat) (a1 : Option Addr) (cp : Nat), out = .slice a1 k cp ∧ wr.ownsRow w1.heap.size 71 1 (.slice a1 k cp) k (ptrs gl) ∧ Hid (VrI w1 a n cap ps xs k gl wr)) (fun _ i _ => vn - (Go.RowKit.intOf i).toNat)
      case atStart => exact ⟨0, Nat.zero_le _, rfl, [], none, 0, rfl, World.ownsRow_nil _ _ _ _, Lib.hid ⟨Below.refl _ _, rfl, fun i g part x h => by simp at h⟩⟩
      case round =>
        obtain ⟨k, hk, rfl, gl, a1, cp, rfl, hO, hI⟩ := hrel
        have HO := Lib.hid hO
        have HI := Lib.hid hI.out
        clear hO hI
        by_cases hlt : k < vn
        · obtain ⟨bx, ox, va1, ss, vc1, oa1, os, oc1, rfl, hx, x0, x1, hbx, hr1, hr2, ⟨hv1, hv2⟩, hv3, hv4⟩ := rdCrt_at (HX.out.grew staysCrt (grew_tr HG1.out HI.out.g)) hlt
          obtain ⟨m, hmk⟩ : ∃ m, pms[k]? = some m := ⟨_, List.getElem?_eq_getElem (by have := congrArg List.length HPt.out; rw [List.length_map, HN.out] at this; omega)⟩
          obtain ⟨bt, ot, la, lc, rfl, hmv, p0, hpo⟩ := HPm.out.at_ hmk
          obtain ⟨part, hpart⟩ : ∃ p, m.1 = p := ⟨_, rfl⟩
          have hpk : (ptOf ps)[k]? = some part := by rw [← HPt.out, List.getElem?_map, hmk, ← hpart]; rfl
          rw [hpart] at p0 hpo
          have PF := Lib.hid (ptOf_facts HOk.out (List.mem_of_getElem? hpk))
          have HPR := Lib.hid (owns_rd hpo)
          obtain ⟨tn, htn⟩ : ∃ t, part.length = t := ⟨_, rfl⟩
          have HTn := Lib.hid htn
          rw [htn] at p0 HPR
          have HPk := Lib.hid hpk
          have HXk := Lib.hid hx
          have ht1 : 1 ≤ tn := by have := PF.out.n1; omega
          have ht4 : tn ≤ 4 := by have := PF.out.n4; omega
          have HRc := Lib.hid (show RcH wr a n ps la tn part va1 ss oa1 os from ⟨HR.out.grew (grew_tr HG1.out HI.out.g), HOk.out, HPR.out.grew HI.out.g, HTn.out, PF.out.s, fun y hy => by have := PF.out.b y hy; have h2 := HR.out.len; omega, hr1, hr2⟩)
          have hsl : ss.length ≤ 9223372036854775807 := by unfold maxLen at hv2; omega
          have hol : os.length ≤ 9223372036854775807 := by unfold maxLen at hv4; omega
          have CRN := Lib.hid fun W (g : Grew wr W) (hc : certB ps part ⟨ss, os⟩ = false) => readCertN a n cap ps la tn lc part va1 vc1 oa1 oc1 ss os W (HRc.out.grew g) hn ht1 (by omega) hsl hol hc
          have CRY := Lib.hid fun W (g : Grew wr W) (hc : certB ps part ⟨ss, os⟩ = true) => readCertY a n cap ps la tn lc part va1 vc1 oa1 oc1 ss os W (HRc.out.grew g) hn ht1 (by omega) hsl hol hc
          obtain ⟨n1, hn1⟩ : ∃ t, ss.length = t := ⟨_, rfl⟩
          obtain ⟨n2, hn2⟩ : ∃ t, os.length = t := ⟨_, rfl⟩
          rw [hn1] at x0 CRN CRY
          rw [hn2] at x1 CRN CRY
          clear hx hmk hmv hpo hpart hpk htn hr1 hr2 hv1 hv2 hv3 hv4 hsl hol hn1 hn2
          go_upto_region 8 with fail
          refine wp_letV ?_
          intro E hE
          have HGE := Lib.hid (show Grew wr E by rw [hE]; exact grew_al (Below.refl _ _) _)
          have HG1E := Lib.hid (grew_tr HI.out.g HGE.out)
          have HGwE := Lib.hid (grew_tr HG1.out HG1E.out)
          obtain ⟨bq, hbq⟩ : ∃ b, wr.heap.size = b := ⟨_, rfl⟩
          have HBq := Lib.hid (show Blk E bq 58 #[.slice va1 n1 vc1, .slice oa1 n2 oc1] by rw [hE, ← hbq]; exact Blk.new _ _ _)
          simp only [hbq]
          have q0 := (HP.out.grew HG1E.out).cell 0
          have q2 := (HGb.out.grew HG1E.out).cell 2
          have q3 := gk HG1E.out p0
          have q4 := HBq.out.cell 0
          have q5 := HBq.out.cell 1
          simp only [List.getElem?_toArray, List.getElem?_cons_zero, List.getElem?_cons_succ] at q0 q2 q4 q5
          have HOE := Lib.hid (owns_grew HO.out HGE.out)
          have HIE := Lib.hid (HI.out.grew HGE.out)
          clear hE hbq x0 x1 p0 HO HI
          cases hcb : certB ps part ⟨ss, os⟩ with
          | false =>
            have CR := Lib.hid fun W (g : Grew E W) => CRN.out W (grew_tr HGE.out g) hcb
            obtain rfl : (0, []) = vp := by rw [← HV.out, vrdP_bad HPk.out HXk.out hcb]
            clear hcb CRN CRY
            have l0 := (HP.out.grew HG1E.out).lt
            have l2 := (HGb.out.grew HG1E.out).lt
            have l3 := World.block_lt_of_cell? E _ q3
            have l4 := HBq.out.lt
            simp only at l3
            first | refine wp_region_ext2 (by kernel_rfl) (by kernel_rfl) ?_ | refine wp_region_ext (by kernel_rfl) (by kernel_rfl) ?_
            repeat (go_big_quiet_step ((first | (with_reducible exact ext_grow (CR.out _ (gr))))))
            refine wpQuiet_nil ?_
            intro _ hw'
            obtain ⟨u, hw''⟩ := hw'
            subst hw''
            clear CR l0 l2 l3 l4 q0 q2 q3 q4 q5
            have HGu := Lib.hid (ext_grew E u)
            generalize ext E u = E2 at *
            have HW2 := Lib.hid (HW.out.grew (grew_tr HG1E.out HGu.out))
            have HGw2 := Lib.hid (grew_tr HGwE.out HGu.out)
            have z0 := HW2.out.cell 0
            have z1 := HW2.out.cell 1
            have z2 := HW2.out.cell 2
            have zf := fun q => HW2.out.frozen q
            have zl := HW2.out.lt
            simp only [List.getElem?_toArray, List.getElem?_cons_zero, List.getElem?_cons_succ] at z0 z1 z2
            go_wp2
            refine body_letV ?_
            intro F hF
            have HF := (show Blk F (w.heap.size + 1) 30 #[.int .i64 0, .int .i64 0, .slice none 0 0] by
              rw [hF]
              exact ((HW2.out.set_ 0 (.int .i64 0)).set_ 1 (.int .i64 0)).set_ 2 (.slice none 0 0))
            have HGF := (show Grew w F by
              rw [hF]
              iterate 3 refine grew_set ?_ (by omega) _
              exact HGw2.out)
            clear hF
            have k0 := HF.cell 0
            have k1 := HF.cell 1
            have k2 := HF.cell 2
            simp only [List.getElem?_toArray, List.getElem?_cons_zero, List.getElem?_cons_succ] at k0 k1 k2
            have kl := HF.lt
            refine bodyPost_ret (by simp [results, Tryz.results9, go_sem, k0, k1, k2, kl]; try rfl) rfl ?_
            exact ⟨none, 0, rfl, World.ownsRow_nil _ _ _ _, HGF⟩
          | true =>
            have CR := Lib.hid fun W (g : Grew wr W) => CRY.out W g hcb
            have HCb := Lib.hid hcb
            clear hcb CRN CRY
            refine region_w 60 [pgV (.agg #[.slice a n cap]), pgV (.pointer (some ⟨gb, 0, none⟩)), pgV (.pointer (some ⟨gb, 0, none⟩)), pgV (.pointer (some ⟨gb, 2, none⟩)), pgV (.slice (some ⟨bt, ot, none⟩) vn pc), pgV (.int .i64 (k : Int)), pgV (.pointer (some ⟨bt, ot + k, none⟩)), pgV (.slice la tn lc), pgV (.agg #[.slice va1 n1 vc1, .slice oa1 n2 oc1]), ⟨fun W v => ∃ u, v = .tuple #[u, .bool true] ∧ CtR a n cap la tn lc (certL part ss tn) W u, fun _ _ _ k ⟨u, h1, h2⟩ => ⟨u, h1, h2.grew k⟩⟩, ⟨fun W v => ∃ u, v = .tuple #[u, .bool true] ∧ CtR a n cap la tn lc (certL part ss tn) W u, fun _ _ _ k ⟨u, h1, h2⟩ => ⟨u, h1, h2.grew k⟩⟩, ⟨CtR a n cap la tn lc (certL part ss tn), fun _ _ _ k h2 => h2.grew k⟩, pgV (.bool true), ⟨CtR a n cap la tn lc (certL part ss tn), fun _ _ _ k h2 => h2.grew k⟩, pgV (.bool true)] (by kernel_rfl) rfl (by kernel_rfl) ⟨?_, ?_, ?_, ?_, ?_, ?_, ?_, ?_, ?_, ?_, ?_, ?_, ?_, ?_, ?_, trivial⟩ ?_
            · exact w_vx (v := .agg #[.slice a n cap]) rfl (fun A W h => by
              have e2 : A.eval (.tmp 2) = .pointer (some ⟨w.heap.size, 0, none⟩) := (h.slot 2).trans rfl
              have k0 := gk h.grew q0
              simp only [execOp, e2]
              simp [go_sem, k0])
            · exact w_vx (v := .pointer (some ⟨gb, 0, none⟩)) rfl (fun A W h => by
              have e5 : A.eval (.tmp 5) = .pointer (some ⟨gb, 0, none⟩) := (h.slot 5).trans rfl
              simp only [execOp, e5]
              first | (simp [go_sem]; done) | rfl | kernel_rfl)
            · exact w_vx (v := .pointer (some ⟨gb, 0, none⟩)) rfl (fun A W h => by
              have e39 : A.eval (.tmp 39) = .pointer (some ⟨gb, 0, none⟩) := h.vb 1 39
              
              simp only [execOp, e39]
              simp [go_sem])
            · exact w_vx (v := .pointer (some ⟨gb, 2, none⟩)) rfl (fun A W h => by
              have e40 : A.eval (.tmp 40) = .pointer (some ⟨gb, 0, none⟩) := h.vb 2 40
              simp only [execOp, e40]
              first | (simp [go_sem]; done) | rfl | kernel_rfl)
            · exact w_vx (v := .slice (some ⟨bt, ot, none⟩) vn pc) rfl (fun A W h => by
              have e41 : A.eval (.tmp 41) = .pointer (some ⟨gb, 2, none⟩) := h.vb 3 41
              have k0 := gk h.grew q2
              simp only [execOp, e41]
              simp [go_sem, k0])
            · exact w_vx (v := .int .i64 (k : Int)) rfl (fun A W h => by
              have e8 : A.eval (.tmp 8) = .int .i64 (k : Int) := (h.slot 8).trans rfl
              simp only [execOp, e8]
              first | (simp [go_sem]; done) | rfl | kernel_rfl)
            · exact w_vx (v := .pointer (some ⟨bt, ot + k, none⟩)) rfl (fun A W h => by
              have e42 : A.eval (.tmp 42) = .slice (some ⟨bt, ot, none⟩) vn pc := h.vb 4 42
              have e43 : A.eval (.tmp 43) = .int .i64 (k : Int) := h.vb 5 43
              simp only [execOp, e42, e43]
              simp [go_sem] <;> (intros; omega))
            · exact w_vx (v := .slice la tn lc) rfl (fun A W h => by
              have e44 : A.eval (.tmp 44) = .pointer (some ⟨bt, ot + k, none⟩) := h.vb 6 44
              have k0 := gk h.grew q3
              simp only [execOp, e44]
              simp [go_sem, k0])
            · exact w_vx (v := .agg #[.slice va1 n1 vc1, .slice oa1 n2 oc1]) rfl (fun A W h => by
              have e9 : A.eval (.tmp 9) = .pointer (some ⟨bq, 0, none⟩) := (h.slot 9).trans rfl
              have k0 := gk h.grew q4
              have k1 := gk h.grew q5
              simp only [execOp, e9]
              simp [go_sem, k0, k1])
            · exact w_callX (fun A W h => by
              have e38 : A.eval (.tmp 38) = .agg #[.slice a n cap] := h.vb 0 38
              have e45 : A.eval (.tmp 45) = .slice la tn lc := h.vb 7 45
              have e46 : A.eval (.tmp 46) = .agg #[.slice va1 n1 vc1, .slice oa1 n2 oc1] := h.vb 8 46
              refine Eq.trans (b := .ok (.enter 26 #[A.eval (.tmp 38), A.eval (.tmp 45), A.eval (.tmp 46)]) W) (by kernel_rfl) ?_
              rw [e38, e45, e46]) (fun W hW => (CR.out W (grew_tr HGE.out hW)).mono fun e w' ⟨u, h1, h2, h3⟩ => ⟨_, h1, ⟨u, rfl, h2⟩, h3⟩)
            · exact w_ex (fun A W h => by
              obtain ⟨u, e47, hP⟩ := h.vb 9 47
              exact ⟨_, W, by simp only [execOp, e47]; rfl, ⟨u, rfl, hP⟩, Below.refl _ _⟩)
            · exact w_ex (fun A W h => by
              obtain ⟨u, e37, hP⟩ := h.vb 10 37
              exact ⟨u, W, by simp only [execOp, e37]; simp [go_sem], hP, Below.refl _ _⟩)
            · exact w_vx (v := .bool true) rfl (fun A W h => by
              obtain ⟨u, e37, hP⟩ := h.vb 10 37
              simp only [execOp, e37]
              simp [go_sem])
            · exact w_ex (fun A W h => ⟨_, W, by simp only [execOp]; rfl, h.vb 11 48, Below.refl _ _⟩)
            · exact w_vx (v := .bool true) rfl (fun A W h => by
              have e49 : A.eval (.tmp 49) = .bool true := h.vb 12 49
              simp only [execOp, e49]
              rfl)
            intro vs w9 g9 hR
            have x0 : vs 0 = .agg #[.slice a n cap] := hR 0 38 (by kernel_rfl)
            have x1 : vs 1 = .pointer (some ⟨gb, 0, none⟩) := hR 1 39 (by kernel_rfl)
            have x2 : vs 2 = .pointer (some ⟨gb, 0, none⟩) := hR 2 40 (by kernel_rfl)
            have x3 : vs 3 = .pointer (some ⟨gb, 2, none⟩) := hR 3 41 (by kernel_rfl)
            have x4 : vs 4 = .slice (some ⟨bt, ot, none⟩) vn pc := hR 4 42 (by kernel_rfl)
            have x5 : vs 5 = .int .i64 (k : Int) := hR 5 43 (by kernel_rfl)
            have x6 : vs 6 = .pointer (some ⟨bt, ot + k, none⟩) := hR 6 44 (by kernel_rfl)
            have x7 : vs 7 = .slice la tn lc := hR 7 45 (by kernel_rfl)
            have x8 : vs 8 = .agg #[.slice va1 n1 vc1, .slice oa1 n2 oc1] := hR 8 46 (by kernel_rfl)
            obtain ⟨u9, x9, -⟩ := hR 9 47 (by kernel_rfl)
            obtain ⟨u10, x10, -⟩ := hR 10 37 (by kernel_rfl)
            skip
            have x12 : vs 12 = .bool true := hR 12 49 (by kernel_rfl)
            have hP13 := hR 13 10 (by kernel_rfl)
            have x14 : vs 14 = .bool true := hR 14 11 (by kernel_rfl)
            simp only [putAll, Act.put, List.setIfInBounds_toArray, List.set_cons_zero, List.set_cons_succ, Nat.zero_add, Nat.reduceAdd, x0, x1, x2, x3, x4, x5, x6, x7, x8, x9, x10, x12, x14]
            clear hR x0 x1 x2 x3 x4 x5 x6 x7 x8 x9 x10 x12 x14
            obtain ⟨gc, x13, hci⟩ := hP13
            simp only [x13]
            clear x13 q0 q2 q3 q4 q5
            have HI9 := Lib.hid (HIE.out.grew g9)
            obtain ⟨a3, cp3, W, hrun, o3, g3, hci3⟩ := ptr_more (w := w1) (owns_grew HOE.out g9) (by omega) HI9.out.g gc
            have HRU := Lib.hid hrun
            have HO3 := Lib.hid o3
            have HI3 := Lib.hid (show VrI w1 a n cap ps xs (k + 1) (gl ++ [gc]) W from ⟨g3, by rw [List.length_append, HI9.out.l]; rfl, fun i g part' x h1 h2 h3 => by
              by_cases hik : i < k
              · rw [List.getElem?_append_left (by rw [HI9.out.l]; exact hik)] at h1
                obtain ⟨h4, ta, tc, h5, h6⟩ := HI9.out.e i g part' x h1 h2 h3
                exact ⟨h4, ta, tc, hci3 _ _ _ _ _ _ _ _ h5, h6⟩
              · have hil := (List.getElem?_eq_some_iff.1 h1).1
                rw [List.length_append, HI9.out.l, List.length_singleton] at hil
                obtain rfl : i = k := by omega
                rw [List.getElem?_append_right (by rw [HI9.out.l]; exact Nat.le_refl _), HI9.out.l, Nat.sub_self] at h1
                simp only [List.getElem?_cons_zero, Option.some.injEq] at h1
                subst h1
                rw [HPk.out] at h2
                rw [HXk.out] at h3
                obtain rfl := Option.some.inj h2
                obtain rfl := Option.some.inj h3
                rw [HTn.out]
                exact ⟨HCb.out, la, lc, hci3 _ _ _ _ _ _ _ _ hci, HPR.out⟩⟩)
            clear hrun o3 g3 hci3 hci HIE HOE HI9 HCb
            go_wp2_with (at_builtin; refine wpList_append_run rfl _ _ rfl rfl rfl rfl HRU.out ?_)
            clear HRU
            go_roundw
            case rel => exact ⟨k + 1, by omega, by go_num, gl ++ [gc], a3, cp3, rfl, HO3.out, HI3⟩
            case measure => simp [Go.RowKit.intOf]; omega
        · obtain rfl : k = vn := by omega
          have HNl := Lib.hid (show xs.length = (ptOf ps).length by rw [hxl, HN.out])
          have HAl := Lib.hid (show (alS ps (ptOf ps) xs).length = k by unfold alS; rw [List.length_map, List.length_zip, HN.out, hxl, Nat.min_self])
          have HGl := Lib.hid HI.out.l
          have HE := Lib.hid (HI.out.e)
          have HVP := Lib.hid (vrdP_ok' HOk.out HNl.out fun i part x h1 h2 => by
            have hi := (List.getElem?_eq_some_iff.1 h2).1
            exact (HE.out i _ part x (List.getElem?_eq_getElem (by have := HGl.out; omega)) h1 h2).1)
          have CV := Lib.hid (verdictT a1 k cp gl (alS ps (ptOf ps) xs) wr (owns_rd HO.out) (by omega) HAl.out (fun A hA => by
            obtain ⟨i, hi⟩ := List.getElem?_of_mem hA
            obtain ⟨part, x, h1, h2, rfl⟩ := alS_get hi
            have := alarmsL_len HOk.out (ptOf_facts HOk.out (List.mem_of_getElem? h1)).n4 x
            omega) (fun i g A h1 h2 W hW => by
            obtain ⟨part, x, h3, h4, rfl⟩ := alS_get h2
            obtain ⟨hcb, ta, tc, hci, hrt⟩ := HE.out i g part x h1 h3 h4
            have pf := ptOf_facts HOk.out (List.mem_of_getElem? h3)
            have hgW := grew_tr HG1.out (grew_tr HI.out.g hW)
            exact alarmsT a n cap ps ta part.length tc part x.states x.outs g W (hci.grew hW) (HR.out.grew hgW) HR.out.len HOk.out (hrt.grew (grew_tr HI.out.g hW)) (by have := pf.n4; omega) (fun y hy => by have := pf.b y hy; have := HR.out.len; omega) pf.nd hcb))
          have HWr := Lib.hid (HW.out.grew HI.out.g)
          have HGr := Lib.hid (grew_tr HG1.out HI.out.g)
          clear HE HO HI HGl HAl
          go_wp2_with fail
          refine CV.out.mono ?_
          rintro e w2 ⟨sa, sc, rfl, hso, g2⟩
          obtain ⟨kd, hkd⟩ : ∃ kd : Int, (if (alS ps (ptOf ps) xs).flatten = [] then (2 : Int) else 3) = kd := ⟨_, rfl⟩
          obtain ⟨SS, hSS⟩ : ∃ SS, sortS (alS ps (ptOf ps) xs).flatten = SS := ⟨_, rfl⟩
          rw [hkd, hSS] at HVP
          rw [hSS] at hso
          simp only [hkd, hSS]
          obtain rfl : (kd, SS) = vp := by rw [← HV.out, HVP.out]
          obtain ⟨sn, hsn⟩ : ∃ sn, SS.length = sn := ⟨_, rfl⟩
          rw [hsn] at hso
          simp only [hsn]
          have HSn := Lib.hid hsn
          have HSo := Lib.hid hso
          have HLt := Lib.hid HWr.out.lt
          have HW2 := Lib.hid (HWr.out.grew g2)
          have HG2 := Lib.hid (grew_tr HGr.out g2)
          have HSz := Lib.hid HGr.out.size
          have z0 := HW2.out.cell 0
          have z1 := HW2.out.cell 1
          have z2 := HW2.out.cell 2
          have zf := fun q => HW2.out.frozen q
          have zl := HW2.out.lt
          simp only [List.getElem?_toArray, List.getElem?_cons_zero, List.getElem?_cons_succ] at z0 z1 z2
          clear hkd hSS hsn hso g2 CV HVP HV HWr HGr
          go_wp2
          refine body_letV ?_
          intro F hF
          have HF := (show Blk F (w.heap.size + 1) 30 #[.int .i64 kd, .int .i64 0, .slice sa sn sc] by
            rw [hF]
            exact ((HW2.out.set_ 0 (.int .i64 kd)).set_ 1 (.int .i64 0)).set_ 2 (.slice sa sn sc))
          have HGF := (show Grew w F by
            rw [hF]
            iterate 3 refine grew_set ?_ (by omega) _
            exact HG2.out)
          have HOF := (show F.ownsRow w.heap.size 62 2 (.slice sa sn sc) sn (SS.flatMap sitC) by
            rw [hF]
            exact owns_mono (owns_set (owns_set (owns_set HSo.out HLt.out _) HLt.out _) HLt.out _) HSz.out)
          clear hF
          have k0 := HF.cell 0
          have k1 := HF.cell 1
          have k2 := HF.cell 2
          simp only [List.getElem?_toArray, List.getElem?_cons_zero, List.getElem?_cons_succ] at k0 k1 k2
          have kl := HF.lt
          refine bodyPost_ret (by simp [results, Tryz.results9, go_sem, k0, k1, k2, kl]; try rfl) rfl ?_
          exact ⟨sa, sc, by rw [HSn.out], by rw [HSn.out]; exact HOF, HGF⟩
end Go.Proofs.YtdddhnepanjmfaaGreat
