/- The program's reader of a step: a keyword and words behind it. -/
import Derived.Test.YtcdfomoglkhboaaGreatDoorTir
namespace Go.Proofs.YtcdfomoglkhboaaGreatDoor
open Go.RowKit Go.Lib
set_option linter.unusedVariables false
set_option linter.unusedSimpArgs false
attribute [local go_sem] ext_cell ext_frozen ext_lt ext_le ext_le1 lt_s2 lt_s3 lt_s4 lt_s5 lt_s6 ext_lt1 ext_lt2 ext_lt3
theorem wp_letK {P : Program} {c : Code} {Q : Exit → Act → World → Prop} {a : Act} {W : World} (h : ∀ E, E = W → c.wp P Q a E) : c.wp P Q a W := h W rfl

set_option maxRecDepth 100000 in
set_option maxHeartbeats 20000000 in
theorem insReadF1 (s x : List UInt8) (r : List (List UInt8)) (procs size : Int) (w : World) (hl : s.length ≤ 60) (hsp : split s [32] = x :: r) (hsr : ShortW r) (En : Env w) (ML : MaxL w) (hx : x ≠ []) (f : Sc → Ins × Sc) (hrf : readerP x = some f) (op d a bI rel lo hi tv : Int) (s2 : Sc) (hf : f ⟨r, false⟩ = (⟨op, d, a, bI, rel, lo, hi, tv⟩, s2)) (hto : tv ≤ 9223372036854775807) (hrm : r.length ≤ maxLen) (hr0 : ¬ r = []) :
    Calls Tryz.prog 16 #[.string ⟨s.toArray⟩, .int .i64 procs, .int .i64 size] w fun e w' => e = .returned (insV (if s2.bad then none else if textB ⟨op, d, a, bI, rel, lo, hi, tv⟩ procs size = s then some ⟨op, d, a, bI, rel, lo, hi, tv⟩ else none)) ∧ Grew w w' := by
  have HXN := Lib.hid hx
  have HRF := Lib.hid hrf
  have HF := Lib.hid hf
  have hx2 : (x == []) = false := by simpa using hx
  have CT := Lib.hid fun w T => implInsText ⟨op, d, a, bI, rel, lo, hi, tv⟩ procs size w hto T
  have HTX : Hid (∀ tx, tx = textB ⟨op, d, a, bI, rel, lo, hi, tv⟩ procs size → tx = textB ⟨op, d, a, bI, rel, lo, hi, tv⟩ procs size) := Lib.hid (fun _ h => h)
  have HRM := Lib.hid (show r.length ≤ maxLen from hrm)
  obtain ⟨res, hres⟩ : ∃ res, (if s2.bad then none else if textB ⟨op, d, a, bI, rel, lo, hi, tv⟩ procs size = s then some (⟨op, d, a, bI, rel, lo, hi, tv⟩ : Ins) else none) = res := ⟨_, rfl⟩
  rw [hres]
  have HRES := Lib.hid hres
  clear hres
  clear hx hrf hf hto HTX hrm
  have hrl : ¬ r.length = 0 := fun e => hr0 (List.eq_nil_of_length_eq_zero e)
  clear hr0
  have hl60 : ¬ (60 : Int) < (s.length : Int) := by omega
  have CS := fun w => implSplit s w (by omega)
  rw [hsp] at CS
  have HCS := Lib.hid CS
  have CR := Lib.hid fun w => readersM w
  have HEn := Lib.hid En
  have HML := Lib.hid ML
  have HSR := Lib.hid hsr
  have LM := Lib.hid fun (w0 W : World) (g t : Nat) (cs : List Nat) (h : MapI w0 g t 5 cs W) (E0 : Env W) => lookM w0 W g t cs h x r HSR.out E0
  clear CS En ML hsr hl hsp
  go_enter Tryz.func16, Tryz.ntmps16
  go_wp2_with fail
  have HB0 := Lib.hid (Blk.new w 38 #[.int .i64 0, .int .i64 0, .int .i64 0, .int .i64 0, .int .i64 0, .int .i64 0, .int .i64 0, .int .i64 0])
  have HG0 := Lib.hid (grew_al (Below.refl _ w) (.cells #[.int .i64 0, .int .i64 0, .int .i64 0, .int .i64 0, .int .i64 0, .int .i64 0, .int .i64 0, .int .i64 0] 38))
  refine (HCS.out _ (HML.out.grew HG0.out)).mono ?_
  rintro e w1 ⟨v, rfl, ⟨t, rfl, hB, hlt, hc⟩, g1⟩
  have HB1 := Lib.hid (HB0.out.grew g1)
  have HG1 := Lib.hid (grew_tr HG0.out g1)
  have HC1 := Lib.hid hc
  have q0 := hc 0 x rfl
  simp only [World.size_alloc] at hB
  clear g1 HB0 HG0 HCS hc
  go_wp2_with fail
  refine region_w 58 [⟨fun W v => ∃ w0 g t cs, v = .map (some g) ∧ MapI w0 g t 5 cs W, fun _ _ _ k ⟨w0, g, t, cs, h1, h2⟩ => ⟨w0, g, t, cs, h1, h2.grow k⟩⟩, pgV (.slice (some ⟨t, 0, none⟩) (r.length + 1) (r.length + 1)), pgV (.pointer (some ⟨t, 0, none⟩)), pgV (.string ⟨(x : List UInt8).toArray⟩), ⟨fun W v => ∃ fv, v = .tuple #[fv, .bool true] ∧ (fun (W : World) (v : Value) => Found x r ⟨op, d, a, bI, rel, lo, hi, tv⟩ s2 W v) W fv, fun _ _ _ k ⟨fv, h1, h2⟩ => ⟨fv, h1, h2.grew k⟩⟩, ⟨fun W v => ∃ fv, v = .tuple #[fv, .bool true] ∧ (fun (W : World) (v : Value) => Found x r ⟨op, d, a, bI, rel, lo, hi, tv⟩ s2 W v) W fv, fun _ _ _ k ⟨fv, h1, h2⟩ => ⟨fv, h1, h2.grew k⟩⟩, ⟨(fun (W : World) (v : Value) => Found x r ⟨op, d, a, bI, rel, lo, hi, tv⟩ s2 W v), fun _ _ _ k h2 => h2.grew k⟩, pgV (.bool true), ⟨(fun (W : World) (v : Value) => Found x r ⟨op, d, a, bI, rel, lo, hi, tv⟩ s2 W v), fun _ _ _ k h2 => h2.grew k⟩, pgV (.bool true)] (by kernel_rfl) rfl (by kernel_rfl) ⟨?_, ?_, ?_, ?_, ?_, ?_, ?_, ?_, ?_, ?_, trivial⟩ ?_
  · exact w_callX (fun A W h => by
    refine Eq.trans (b := .ok (.enter 38 #[]) W) (by kernel_rfl) ?_
    rfl) (fun W hW => (CR.out W).mono fun e w' ⟨g, t, cs, h1, h2⟩ => ⟨_, h1, ⟨W, g, t, cs, rfl, h2⟩, h2.grew⟩)
  · exact w_vx (v := .slice (some ⟨t, 0, none⟩) (r.length + 1) (r.length + 1)) rfl (fun A W h => by
    have e8 : A.eval (.tmp 8) = .slice (some ⟨t, 0, none⟩) (r.length + 1) (r.length + 1) := (h.slot 8).trans rfl
    simp only [execOp, e8]
    first | (simp [go_sem]; done) | rfl | kernel_rfl)
  · exact w_vx (v := .pointer (some ⟨t, 0, none⟩)) rfl (fun A W h => by
    have e21 : A.eval (.tmp 21) = .slice (some ⟨t, 0, none⟩) (r.length + 1) (r.length + 1) := h.vb 1 21
    simp only [execOp, e21]
    simp [go_sem])
  · exact w_vx (v := .string ⟨(x : List UInt8).toArray⟩) rfl (fun A W h => by
    have e22 : A.eval (.tmp 22) = .pointer (some ⟨t, 0, none⟩) := h.vb 2 22
    have k0 := gk h.grew q0
    simp only [execOp, e22]
    simp [go_sem, k0])
  · exact w_ex (fun A W h => by
    obtain ⟨w020, g20, t20, cs20, e20, hM20⟩ := h.vb 0 20
    have e23 : A.eval (.tmp 23) = .string ⟨x.toArray⟩ := h.vb 3 23
    obtain ⟨fv, b, hl, hc⟩ := LM.out _ _ _ _ _ hM20 (HEn.out.grew (grew_tr HG1.out h.grew))
    obtain ⟨rfl, hP⟩ : b = true ∧ Found x r ⟨op, d, a, bI, rel, lo, hi, tv⟩ s2 W fv := by
      rcases hc with ⟨-, h1, -⟩ | ⟨-, h1⟩ | ⟨h1, -, f', hf', hF⟩
      · rw [HRF.out] at h1; cases h1
      · exact absurd h1 HXN.out
      · rw [HRF.out] at hf'
        injection hf' with hf'
        subst hf'
        rw [HF.out] at hF
        exact ⟨h1, hF⟩
    refine ⟨_, W, ?_, ⟨fv, rfl, hP⟩, Below.refl _ _⟩
    simp only [execOp, e20, e23, Sem.run_bind, hl, Result.andThen_ok, Sem.run_pure])
  · exact w_ex (fun A W h => by
    obtain ⟨fv, e24, hP⟩ := h.vb 4 24
    exact ⟨_, W, by simp only [execOp, e24]; rfl, ⟨fv, rfl, hP⟩, Below.refl _ _⟩)
  · exact w_ex (fun A W h => by
    obtain ⟨fv, e19, hP⟩ := h.vb 5 19
    exact ⟨fv, W, by simp only [execOp, e19]; simp [go_sem], hP, Below.refl _ _⟩)
  · exact w_vx (v := .bool true) rfl (fun A W h => by
    obtain ⟨fv, e19, hP⟩ := h.vb 5 19
    simp only [execOp, e19]
    simp [go_sem])
  · exact w_ex (fun A W h => ⟨_, W, by simp only [execOp]; rfl, h.vb 6 25, Below.refl _ _⟩)
  · exact w_vx (v := .bool true) rfl (fun A W h => by
    have e26 : A.eval (.tmp 26) = .bool true := h.vb 7 26
    simp only [execOp, e26]
    rfl)
  intro vs w9 g9 hR
  obtain ⟨w0z, gz, tz, csz, x0, hMz⟩ := hR 0 20 (by kernel_rfl)
  have x1 : vs 1 = .slice (some ⟨t, 0, none⟩) (r.length + 1) (r.length + 1) := hR 1 21 (by kernel_rfl)
  have x2 : vs 2 = .pointer (some ⟨t, 0, none⟩) := hR 2 22 (by kernel_rfl)
  have x3 : vs 3 = .string ⟨(x : List UInt8).toArray⟩ := hR 3 23 (by kernel_rfl)
  obtain ⟨fv4, x4, -⟩ := hR 4 24 (by kernel_rfl)
  obtain ⟨fv5, x5, -⟩ := hR 5 19 (by kernel_rfl)
  skip
  have x7 : vs 7 = .bool true := hR 7 26 (by kernel_rfl)
  have hP8 := hR 8 9 (by kernel_rfl)
  have x9 : vs 9 = .bool true := hR 9 10 (by kernel_rfl)
  simp only [putAll, Act.put, List.setIfInBounds_toArray, List.set_cons_zero, List.set_cons_succ, Nat.zero_add, Nat.reduceAdd, x0, x1, x2, x3, x4, x5, x7, x9]
  clear hR x0 x1 x2 x3 x4 x5 x7 x9 hMz
  have HB9 := Lib.hid (HB1.out.grew g9)
  have HG9 := Lib.hid (grew_tr HG1.out g9)
  have z := fun j => HB9.out.cell j
  have zl := HB9.out.lt
  have zf := fun j => HB9.out.frozen j
  have q9 := gk g9 q0
  have tl9 := Nat.lt_of_lt_of_le hlt g9.size
  have HC9 := Lib.hid (fun j y hy => gk g9 (HC1.out j y hy))
  clear q0 hB hlt
  obtain ⟨fid, caps, T, pv, mf, hfv, hcf, CF, hm, hcm, CN⟩ := hP8
  rw [hfv]
  have HCF := Lib.hid CF
  have HCN := Lib.hid CN
  have HZL := Lib.hid zl
  clear CF CN hfv z zf
  go_wp2_with fail
  have GA := Lib.hid (grew_al (Below.refl _ w9) (.cells #[.slice (some ⟨t, 1, none⟩) r.length r.length, .bool false] 81))
  have hsc : ScI w9.heap.size ⟨r, false⟩ (w9.alloc (.cells #[.slice (some ⟨t, 1, none⟩) r.length r.length, .bool false] 81)) := ⟨t, 1, r.length, Blk.new _ _ _, by omega, by simp; omega, Nat.le_refl _, HRM.out, fun j y hy => by
    have := gk GA.out (HC9.out (j + 1) y (by simpa using hy))
    rw [show 1 + j = j + 1 by omega]
    exact this⟩
  refine Calls.mono (HCF.out _ _ GA.out (Nat.le_refl _) hsc (HEn.out.grew (grew_tr HG9.out GA.out))) ?_
  rintro e w10 ⟨rfl, hs2, hc10⟩
  have HB10 := Lib.hid ((HB9.out.grew GA.out).chg hc10 (by have := HZL.out; omega))
  have HG10 := Lib.hid (show Grew w w10 from (grew_tr HG9.out GA.out).trans (hc10.belowB (grew_tr HG9.out GA.out).size (fun b hb => by rw [hb]; exact HG9.out.size)))
  have HS2 := Lib.hid hs2
  have HE10 := Lib.hid ((HEn.out.grew (grew_tr HG9.out GA.out)).chg hc10 ((HEn.out.grew HG9.out).apart (Nat.le_refl _)))
  clear hs2 hc10 hsc q9 tl9 zl HCF
  go_wp2_with fail
  refine (HCN.out _).mono ?_
  rintro e w11 ⟨rfl, g11⟩
  have HB11 := Lib.hid (HB10.out.grew g11)
  have HG11 := Lib.hid (grew_tr HG10.out g11)
  have HS11 := Lib.hid (HS2.out.grew g11)
  have HE11 := Lib.hid (HE10.out.grew g11)
  clear g11 HB10 HG10 HS2 HE10 HCN
  obtain ⟨c1, cl, cf⟩ := HS11.out.get
  have z := fun j => HB11.out.cell j
  have zl := HB11.out.lt
  have zf := fun j => HB11.out.frozen j
  have z0 := z 0
  have z1 := z 1
  have z2 := z 2
  have z3 := z 3
  have z4 := z 4
  have z5 := z 5
  have z6 := z 6
  have z7 := z 7
  simp only [List.getElem?_toArray, List.getElem?_cons_zero, List.getElem?_cons_succ] at z0 z1 z2 z3 z4 z5 z6 z7
  clear z
  have GI := Lib.hid (grew_al HG11.out (.cells #[.int .i64 op, .int .i64 d, .int .i64 a, .int .i64 bI, .int .i64 rel, .int .i64 lo, .int .i64 hi, .int .i64 tv] 38))
  cases hbad : s2.bad
  · rw [hbad] at c1
    go_wp2_with fail
    refine Calls.mono (CT.out _ ((HE11.out.grew (grew_al (Below.refl _ w11) (.cells #[.int .i64 op, .int .i64 d, .int .i64 a, .int .i64 bI, .int .i64 rel, .int .i64 lo, .int .i64 hi, .int .i64 tv] 38))).1)) ?_
    rintro e w12 ⟨rfl, g12⟩
    have HG12 := Lib.hid (grew_tr GI.out g12)
    have HB12 := Lib.hid ((HB11.out.alloc (.cells #[.int .i64 op, .int .i64 d, .int .i64 a, .int .i64 bI, .int .i64 rel, .int .i64 lo, .int .i64 hi, .int .i64 tv] 38)).grew g12)
    have HI12 := Lib.hid ((Blk.new w11 38 #[.int .i64 op, .int .i64 d, .int .i64 a, .int .i64 bI, .int .i64 rel, .int .i64 lo, .int .i64 hi, .int .i64 tv]).grew g12)
    clear g12 z0 z1 z2 z3 z4 z5 z6 z7 zl zf c1 cl cf
    have z := fun j => HB12.out.cell j
    have zl := HB12.out.lt
    have zf := fun j => HB12.out.frozen j
    have y := fun j => HI12.out.cell j
    have yl := HI12.out.lt
    have z0 := z 0
    have z1 := z 1
    have z2 := z 2
    have z3 := z 3
    have z4 := z 4
    have z5 := z 5
    have z6 := z 6
    have z7 := z 7
    simp only [List.getElem?_toArray, List.getElem?_cons_zero, List.getElem?_cons_succ] at z0 z1 z2 z3 z4 z5 z6 z7
    have y0 := y 0
    have y1 := y 1
    have y2 := y 2
    have y3 := y 3
    have y4 := y 4
    have y5 := y 5
    have y6 := y 6
    have y7 := y 7
    simp only [List.getElem?_toArray, List.getElem?_cons_zero, List.getElem?_cons_succ] at y0 y1 y2 y3 y4 y5 y6 y7
    clear z y
    by_cases htx : textB ⟨op, d, a, bI, rel, lo, hi, tv⟩ procs size = s
    · have HV : Hid (insV res = insV (some ⟨op, d, a, bI, rel, lo, hi, tv⟩)) := Lib.hid (by rw [← HRES.out, hbad, htx]; simp)
      have t1 : (s == s) = true := by simp
      have t2 : (s != s) = false := by simp
      rw [htx]
      clear htx CT
      go_wp2
      refine body_letW ?_
      intro E hE
      have HBE : Blk E w.heap.size 38 #[.int .i64 op, .int .i64 d, .int .i64 a, .int .i64 bI, .int .i64 rel, .int .i64 lo, .int .i64 hi, .int .i64 tv] := by rw [hE]; first | exact ((((((((HB12.out.set_ 0 _).set_ 1 _).set_ 2 _).set_ 3 _).set_ 4 _).set_ 5 _).set_ 6 _).set_ 7 _)
      have GE : Grew w E := by rw [hE]; repeat (first | with_reducible exact HG12.out | with_reducible apply grew_al | with_reducible refine grew_set ?_ (by exact Nat.le_refl _) _)
      clear hE
      have k0 := HBE.cell 0
      have k1 := HBE.cell 1
      have k2 := HBE.cell 2
      have k3 := HBE.cell 3
      have k4 := HBE.cell 4
      have k5 := HBE.cell 5
      have k6 := HBE.cell 6
      have k7 := HBE.cell 7
      simp only [List.getElem?_toArray, List.getElem?_cons_zero, List.getElem?_cons_succ] at k0 k1 k2 k3 k4 k5 k6 k7
      have kl := HBE.lt
      refine bodyPost_ret (by simp [results, Tryz.results16, go_sem, k0, k1, k2, k3, k4, k5, k6, k7, kl]; try rfl) rfl ?_
      exact ⟨congrArg Ending.returned HV.out.symm, GE⟩
    · have HV : Hid (insV res = insV none) := Lib.hid (by rw [← HRES.out, hbad, if_neg htx]; simp)
      clear CT HRES
      generalize textB ⟨op, d, a, bI, rel, lo, hi, tv⟩ procs size = tx at *
      have t1 : (tx == s) = false := by simp [htx]
      have t2 : (tx != s) = true := by simp [htx]
      clear htx
      go_wp2
      refine body_letW ?_
      intro E hE
      have HBE : Blk E w.heap.size 38 #[.int .i64 0, .int .i64 0, .int .i64 0, .int .i64 0, .int .i64 0, .int .i64 0, .int .i64 0, .int .i64 0] := by rw [hE]; first | exact ((((((((HB12.out.set_ 0 _).set_ 1 _).set_ 2 _).set_ 3 _).set_ 4 _).set_ 5 _).set_ 6 _).set_ 7 _)
      have GE : Grew w E := by rw [hE]; repeat (first | with_reducible exact HG12.out | with_reducible apply grew_al | with_reducible refine grew_set ?_ (by exact Nat.le_refl _) _)
      clear hE
      have k0 := HBE.cell 0
      have k1 := HBE.cell 1
      have k2 := HBE.cell 2
      have k3 := HBE.cell 3
      have k4 := HBE.cell 4
      have k5 := HBE.cell 5
      have k6 := HBE.cell 6
      have k7 := HBE.cell 7
      simp only [List.getElem?_toArray, List.getElem?_cons_zero, List.getElem?_cons_succ] at k0 k1 k2 k3 k4 k5 k6 k7
      have kl := HBE.lt
      refine bodyPost_ret (by simp [results, Tryz.results16, go_sem, k0, k1, k2, k3, k4, k5, k6, k7, kl]; try rfl) rfl ?_
      exact ⟨congrArg Ending.returned HV.out.symm, GE⟩
  · rw [hbad] at c1
    have HV : Hid (insV res = insV none) := Lib.hid (by rw [← HRES.out, hbad]; rfl)
    go_upto_region 10 with fail
    refine wp_letK ?_
    intro E0 hE
    have HBZ := Lib.hid (show Blk E0 w.heap.size 38 #[.int .i64 0, .int .i64 0, .int .i64 0, .int .i64 0, .int .i64 0, .int .i64 0, .int .i64 0, .int .i64 0] by rw [hE]; exact HB11.out.alloc _)
    have HGZ := Lib.hid (show Grew w E0 by rw [hE]; exact grew_al HG11.out _)
    clear hE c1 cl cf z0 z1 z2 z3 z4 z5 z6 z7 zl zf GI
    have z := fun j => HBZ.out.cell j
    have zl := HBZ.out.lt
    have zf := fun j => HBZ.out.frozen j
    have z0 := z 0
    have z1 := z 1
    have z2 := z 2
    have z3 := z 3
    have z4 := z 4
    have z5 := z 5
    have z6 := z 6
    have z7 := z 7
    simp only [List.getElem?_toArray, List.getElem?_cons_zero, List.getElem?_cons_succ] at z0 z1 z2 z3 z4 z5 z6 z7
    clear z
    go_wp2
    refine body_letW ?_
    intro E hE
    have HBE : Blk E w.heap.size 38 #[.int .i64 0, .int .i64 0, .int .i64 0, .int .i64 0, .int .i64 0, .int .i64 0, .int .i64 0, .int .i64 0] := by rw [hE]; first | exact ((((((((HBZ.out.set_ 0 _).set_ 1 _).set_ 2 _).set_ 3 _).set_ 4 _).set_ 5 _).set_ 6 _).set_ 7 _)
    have GE : Grew w E := by rw [hE]; repeat (first | with_reducible exact HGZ.out | with_reducible apply grew_al | with_reducible refine grew_set ?_ (by exact Nat.le_refl _) _)
    clear hE
    have k0 := HBE.cell 0
    have k1 := HBE.cell 1
    have k2 := HBE.cell 2
    have k3 := HBE.cell 3
    have k4 := HBE.cell 4
    have k5 := HBE.cell 5
    have k6 := HBE.cell 6
    have k7 := HBE.cell 7
    simp only [List.getElem?_toArray, List.getElem?_cons_zero, List.getElem?_cons_succ] at k0 k1 k2 k3 k4 k5 k6 k7
    have kl := HBE.lt
    refine bodyPost_ret (by simp [results, Tryz.results16, go_sem, k0, k1, k2, k3, k4, k5, k6, k7, kl]; try rfl) rfl ?_
    exact ⟨congrArg Ending.returned HV.out.symm, GE⟩

end Go.Proofs.YtcdfomoglkhboaaGreatDoor
