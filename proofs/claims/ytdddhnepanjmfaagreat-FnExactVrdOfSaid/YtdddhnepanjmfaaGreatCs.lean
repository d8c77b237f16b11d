/- Certificates measured by the law. No condition. -/
import Derived.Test.YtdddhnepanjmfaaGreatCd
namespace Go.Proofs.YtdddhnepanjmfaaGreat
open Go.RowKit
set_option linter.unusedVariables false
set_option linter.unusedSimpArgs false
attribute [local go_sem] ext_cell ext_frozen ext_lt ext_le ext_le1 lt_s2 lt_s3 lt_s4 lt_s5 lt_s6 ext_lt1 ext_lt2 ext_lt3


def zOf (left : Int) (b : Nat) : Int := if left < b then -1 else left - b
theorem zOf_no {left : Int} {b : Nat} (h : left < b) : zOf left b = -1 := if_pos h
theorem zOf_yes {left : Int} {b : Nat} (h : ¬ left < b) : zOf left b = left - b := if_neg h

set_option maxRecDepth 100000 in
theorem szAbsStateS (a : Option Addr) (n cap : Nat) (xs : List St) (left : Int) (w : World) (hr : RdL ESt 4 w a n xs) (h0 : 0 ≤ left) (h1 : left ≤ 1048576) (hn : n ≤ 9223372036854775807) :
    Calls Tryz.prog 68 #[.slice a n cap, .int .i64 left] w fun e w' => e = .returned (.int .i64 (zOf left (bulkR xs))) ∧ Grew w w' := by
  have HL := Lib.hid hr.len
  have HR := Lib.hid hr; clear hr
  have HZ := Lib.hid (fun h : left < (bulkR xs : Nat) => zOf_no h)
  have HZ' := Lib.hid (fun h : ¬ left < (bulkR xs : Nat) => zOf_yes h)
  obtain ⟨Z, hZ⟩ : ∃ Z, zOf left (bulkR xs) = Z := ⟨_, rfl⟩
  rw [hZ] at HZ HZ' ⊢
  clear hZ
  by_cases hs : left < (n : Int)
  · have HF := Lib.hid (HZ.out (by have := HL.out; unfold bulkR; omega))
    have h2 : left - n < 0 := by omega
    clear hs HZ HZ' HR HL
    go_enter Tryz.func68, Tryz.ntmps68
    go_wp2
    go_ret
    exact ⟨by rw [HF.out]; rfl, gr⟩
  have h2 : ¬ left - n < 0 := by omega
  have h3 : 0 ≤ left - n := by omega
  clear hs
  go_enter Tryz.func68, Tryz.ntmps68
  go_wp2
  go_loopw [1, 5] (fun l i wr => ∃ (k : Nat) (L : Int), k ≤ n ∧ i = .int .i64 k ∧ l = .int .i64 L ∧ 0 ≤ L ∧ L ≤ 1048576 ∧ Grew w wr ∧ Hid (L = left - n - (((xs.take k).map (fun s : St => s.vars.length)).sum : Nat))) (fun _ i _ => n - (Go.RowKit.intOf i).toNat)
  case atStart => exact ⟨0, left - n, Nat.zero_le _, rfl, rfl, h3, by omega, Below.refl _ _, Lib.hid (by simp)⟩
  case round =>
    obtain ⟨k, L, hk, rfl, rfl, hL0, hL1, hg, HLk⟩ := hrel
    by_cases hlt : k < n
    · obtain ⟨b, off, on, va, vars, vc, lo, hi, rfl, hx, c0, c1, c2, c3, hb, hi1, hi2, hi3⟩ := rdSt_at (HR.out.grew staysSt hg) hlt
      have HS := Lib.hid (sum_take (fun s : St => s.vars.length) hx)
      have HS' := Lib.hid (sum_take_le (fun s : St => s.vars.length) xs (k + 1))
      have HG := Lib.hid hg
      have C : Calls Tryz.prog 111 #[.agg #[.bool on, .slice va vars.length vc, .int .i64 lo, .int .i64 hi], .int .i64 L] wr fun e w' => e = .returned (.int .i64 (zOf L vars.length)) ∧ Grew wr w' := szAbsState on va vars.length vc lo hi L wr hL0 hL1 (by unfold maxLen at hi3; omega)
      obtain ⟨bb, hbb⟩ : ∃ bb, vars.length = bb := ⟨_, rfl⟩
      have HBB := Lib.hid hbb
      rw [hbb] at C c1
      have HL0 := Lib.hid hL0
      have HL1 := Lib.hid hL1
      clear hx hg hbb hi1 hi2 hi3
      by_cases hq : L < (bb : Int)
      · rw [zOf_no hq] at C
        have HC := Lib.hid C
        have HF := Lib.hid (HZ.out (by have h1 := HS.out; have h2 := HS'.out; have h3 := HLk.out; have h4 := HL.out; have h5 := HBB.out; (try simp only at h1); unfold bulkR; omega))
        clear C hq hL0 hL1 h3
        go_wp2_with fail
        refine HC.out.mono ?_
        rintro e w2 ⟨rfl, g2⟩
        have HG2 := Lib.hid (grew_tr HG.out g2)
        clear g2
        go_wp2
        go_ret
        exact ⟨by rw [HF.out]; rfl, HG2.out⟩
      · rw [zOf_yes hq] at C
        have HC := Lib.hid C
        have h4 := Lib.hid (show 0 ≤ L - bb by omega)
        have h5 := Lib.hid (show L - bb ≤ 1048576 by omega)
        have h6 : ¬ L - bb < 0 := by omega
        have HLn := Lib.hid (show L - bb = left - n - (((xs.take (k + 1)).map (fun s : St => s.vars.length)).sum : Nat) by have h1 := HS.out; have h3 := HLk.out; have h5 := HBB.out; (try simp only at h1); omega)
        clear C hq hL0 hL1 h3
        go_wp2_with fail
        refine HC.out.mono ?_
        rintro e w2 ⟨rfl, g2⟩
        have HG2 := Lib.hid (grew_tr HG.out g2)
        clear g2 c0 c1 c2 c3
        go_wp2
        go_roundw
        case rel => exact ⟨k + 1, L - bb, by omega, by go_num, rfl, h4.out, h5.out, HG2.out, HLn⟩
        case measure => simp [Go.RowKit.intOf]; omega
    · obtain rfl : k = n := by omega
      have HG := Lib.hid hg
      have HF := Lib.hid (show L = Z by
        have h1 := HLk.out
        rw [List.take_of_length_le (by have := HL.out; omega)] at h1
        rw [HZ'.out (by unfold bulkR; have := HL.out; omega)]
        unfold bulkR
        have := HL.out
        omega)
      clear hg
      go_wp2
      go_ret
      exact ⟨by rw [HF.out] <;> rfl, HG.out⟩

set_option maxRecDepth 100000 in
theorem szAbsStateSS (a : Option Addr) (n cap : Nat) (xs : List (List St)) (left : Int) (w : World) (hr : RdL ERow 1 w a n xs) (h0 : 0 ≤ left) (h1 : left ≤ 1048576) (hn : n ≤ 9223372036854775807) :
    Calls Tryz.prog 37 #[.slice a n cap, .int .i64 left] w fun e w' => e = .returned (.int .i64 (zOf left (bulkSS xs))) ∧ Grew w w' := by
  have HL := Lib.hid hr.len
  have HR := Lib.hid hr; clear hr
  have HZ := Lib.hid (fun h : left < (bulkSS xs : Nat) => zOf_no h)
  have HZ' := Lib.hid (fun h : ¬ left < (bulkSS xs : Nat) => zOf_yes h)
  obtain ⟨Z, hZ⟩ : ∃ Z, zOf left (bulkSS xs) = Z := ⟨_, rfl⟩
  rw [hZ] at HZ HZ' ⊢
  clear hZ
  by_cases hs : left < (n : Int)
  · have HF := Lib.hid (HZ.out (by have := HL.out; unfold bulkSS; omega))
    have h2 : left - n < 0 := by omega
    clear hs HZ HZ' HR HL
    go_enter Tryz.func37, Tryz.ntmps37
    go_wp2
    go_ret
    exact ⟨by rw [HF.out]; rfl, gr⟩
  have h2 : ¬ left - n < 0 := by omega
  have h3 : 0 ≤ left - n := by omega
  clear hs
  go_enter Tryz.func37, Tryz.ntmps37
  go_wp2
  go_loopw [1, 5] (fun l i wr => ∃ (k : Nat) (L : Int), k ≤ n ∧ i = .int .i64 k ∧ l = .int .i64 L ∧ 0 ≤ L ∧ L ≤ 1048576 ∧ Grew w wr ∧ Hid (L = left - n - (((xs.take k).map bulkR).sum : Nat))) (fun _ i _ => n - (Go.RowKit.intOf i).toNat)
  case atStart => exact ⟨0, left - n, Nat.zero_le _, rfl, rfl, h3, by omega, Below.refl _ _, Lib.hid (by simp)⟩
  case round =>
    obtain ⟨k, L, hk, rfl, rfl, hL0, hL1, hg, HLk⟩ := hrel
    by_cases hlt : k < n
    · obtain ⟨b, off, va, r, vc, rfl, hx, c0, hb, hi1, hi2, hi3⟩ := rdRow_at (HR.out.grew staysRow hg) hlt
      have HS := Lib.hid (sum_take bulkR hx)
      have HS' := Lib.hid (sum_take_le bulkR xs (k + 1))
      have HG := Lib.hid hg
      have C : Calls Tryz.prog 68 #[.slice va r.length vc, .int .i64 L] wr fun e w' => e = .returned (.int .i64 (zOf L (bulkR r))) ∧ Grew wr w' := szAbsStateS va r.length vc r L wr hi1 hL0 hL1 (by unfold maxLen at hi3; omega)
      obtain ⟨bb, hbb⟩ : ∃ bb, (bulkR r) = bb := ⟨_, rfl⟩
      have HBB := Lib.hid hbb
      rw [hbb] at C
      have HL0 := Lib.hid hL0
      have HL1 := Lib.hid hL1
      clear hx hg hbb hi1 hi2 hi3
      by_cases hq : L < (bb : Int)
      · rw [zOf_no hq] at C
        have HC := Lib.hid C
        have HF := Lib.hid (HZ.out (by have h1 := HS.out; have h2 := HS'.out; have h3 := HLk.out; have h4 := HL.out; have h5 := HBB.out; (try simp only at h1); unfold bulkSS; omega))
        clear C hq hL0 hL1 h3
        go_wp2_with fail
        refine HC.out.mono ?_
        rintro e w2 ⟨rfl, g2⟩
        have HG2 := Lib.hid (grew_tr HG.out g2)
        clear g2
        go_wp2
        go_ret
        exact ⟨by rw [HF.out]; rfl, HG2.out⟩
      · rw [zOf_yes hq] at C
        have HC := Lib.hid C
        have h4 := Lib.hid (show 0 ≤ L - bb by omega)
        have h5 := Lib.hid (show L - bb ≤ 1048576 by omega)
        have h6 : ¬ L - bb < 0 := by omega
        have HLn := Lib.hid (show L - bb = left - n - (((xs.take (k + 1)).map bulkR).sum : Nat) by have h1 := HS.out; have h3 := HLk.out; have h5 := HBB.out; (try simp only at h1); omega)
        clear C hq hL0 hL1 h3
        go_wp2_with fail
        refine HC.out.mono ?_
        rintro e w2 ⟨rfl, g2⟩
        have HG2 := Lib.hid (grew_tr HG.out g2)
        clear g2 c0
        go_wp2
        go_roundw
        case rel => exact ⟨k + 1, L - bb, by omega, by go_num, rfl, h4.out, h5.out, HG2.out, HLn⟩
        case measure => simp [Go.RowKit.intOf]; omega
    · obtain rfl : k = n := by omega
      have HG := Lib.hid hg
      have HF := Lib.hid (show L = Z by
        have h1 := HLk.out
        rw [List.take_of_length_le (by have := HL.out; omega)] at h1
        rw [HZ'.out (by unfold bulkSS; have := HL.out; omega)]
        unfold bulkSS
        have := HL.out
        omega)
      clear hg
      go_wp2
      go_ret
      exact ⟨by rw [HF.out] <;> rfl, HG.out⟩

set_option maxRecDepth 100000 in
theorem szCrtCert (va : Option Addr) (vc : Nat) (oa : Option Addr) (oc : Nat) (ss : List (List St)) (os : List Sum) (left : Int) (w : World) (hr : RdL ERow 1 w va ss.length ss) (hr' : RdL ESum 3 w oa os.length os) (h0 : 0 ≤ left) (h1 : left ≤ 1048576)
    (hn : ss.length ≤ 9223372036854775807) (hn' : os.length ≤ 9223372036854775807) :
    Calls Tryz.prog 18 #[.agg #[.slice va ss.length vc, .slice oa os.length oc], .int .i64 left] w fun e w' => e = .returned (.int .i64 (zOf left (bulkC ⟨ss, os⟩))) ∧ Grew w w' := by
  have C := szAbsStateSS va ss.length vc ss left (w.alloc (.cells #[.slice va ss.length vc, .slice oa os.length oc] 50)) (hr.grew staysRow (grew_al (Below.refl _ w) _)) h0 h1 hn
  have HBk := Lib.hid (Blk.new w 50 #[.slice va ss.length vc, .slice oa os.length oc])
  have HE := Lib.hid (show bulkC ⟨ss, os⟩ = bulkSS ss + os.length from rfl)
  obtain ⟨b1, hb1⟩ : ∃ b, bulkSS ss = b := ⟨_, rfl⟩
  obtain ⟨n, hnn⟩ : ∃ n, os.length = n := ⟨_, rfl⟩
  rw [hb1, hnn] at HE
  rw [HE.out]
  rw [hb1] at C
  rw [hnn] at C hn' HBk ⊢
  obtain ⟨ns, hns⟩ : ∃ n, ss.length = n := ⟨_, rfl⟩
  rw [hns] at C HBk ⊢
  clear hr hr' HE hb1 hnn hns hn
  by_cases hq : left < (b1 : Int)
  · rw [zOf_no hq] at C
    rw [zOf_no (show left < ((b1 + n : Nat) : Int) by omega)]
    have HC := Lib.hid C
    clear C hq
    go_enter Tryz.func18, Tryz.ntmps18
    go_wp2_with fail
    refine HC.out.mono ?_
    rintro e w2 ⟨rfl, g2⟩
    have HG := Lib.hid (grew_tr (grew_al (Below.refl _ w) _) g2)
    clear g2
    go_wp2
    go_ret
    exact ⟨rfl, HG.out⟩
  · rw [zOf_yes hq] at C
    have HC := Lib.hid C
    have h4 : 0 ≤ left - b1 := by omega
    have h5 : left - b1 ≤ 1048576 := by omega
    have h6 : ¬ left - b1 < 0 := by omega
    have C2 := fun W => szSumSumS oa n oc (left - b1) W h4 h5 hn'
    clear C
    by_cases hq2 : left - b1 < (n : Int)
    · rw [if_pos hq2] at C2
      rw [zOf_no (show left < ((b1 + n : Nat) : Int) by omega)]
      have HC2 := Lib.hid C2
      clear C2 hq hq2
      go_enter Tryz.func18, Tryz.ntmps18
      go_wp2_with fail
      refine HC.out.mono ?_
      rintro e w2 ⟨rfl, g2⟩
      have HG := Lib.hid (grew_tr (grew_al (Below.refl _ w) _) g2)
      have hB := HBk.out.grew g2
      have c1 := hB.cell 1
      have cl := hB.lt
      simp only [List.getElem?_toArray, List.getElem?_cons_zero, List.getElem?_cons_succ] at c1
      clear g2 hB
      go_wp2_with fail
      refine (HC2.out _).mono ?_
      rintro e w3 ⟨rfl, rfl⟩
      go_wp2
      go_ret
      exact ⟨rfl, HG.out⟩
    · rw [if_neg hq2] at C2
      have h7 : ¬ left - b1 - n < 0 := by omega
      rw [zOf_yes (show ¬ left < ((b1 + n : Nat) : Int) by omega)]
      have HC2 := Lib.hid C2
      clear C2 hq hq2
      go_enter Tryz.func18, Tryz.ntmps18
      go_wp2_with fail
      refine HC.out.mono ?_
      rintro e w2 ⟨rfl, g2⟩
      have HG := Lib.hid (grew_tr (grew_al (Below.refl _ w) _) g2)
      have hB := HBk.out.grew g2
      have c1 := hB.cell 1
      have cl := hB.lt
      simp only [List.getElem?_toArray, List.getElem?_cons_zero, List.getElem?_cons_succ] at c1
      clear g2 hB
      go_wp2_with fail
      refine (HC2.out _).mono ?_
      rintro e w3 ⟨rfl, rfl⟩
      go_wp2
      go_ret
      exact ⟨by rw [show left - b1 - n = left - ((b1 + n : Nat) : Int) by omega] <;> rfl, HG.out⟩

set_option maxRecDepth 100000 in
theorem szCrtCertS (a : Option Addr) (n cap : Nat) (xs : List Crt) (left : Int) (w : World) (hr : RdL ECrt 2 w a n xs) (h0 : 0 ≤ left) (h1 : left ≤ 1048576) (hn : n ≤ 9223372036854775807) :
    Calls Tryz.prog 5 #[.slice a n cap, .int .i64 left] w fun e w' => e = .returned (.int .i64 (zOf left (bulkCs xs))) ∧ Grew w w' := by
  have HL := Lib.hid hr.len
  have HR := Lib.hid hr; clear hr
  have HZ := Lib.hid (fun h : left < (bulkCs xs : Nat) => zOf_no h)
  have HZ' := Lib.hid (fun h : ¬ left < (bulkCs xs : Nat) => zOf_yes h)
  obtain ⟨Z, hZ⟩ : ∃ Z, zOf left (bulkCs xs) = Z := ⟨_, rfl⟩
  rw [hZ] at HZ HZ' ⊢
  clear hZ
  by_cases hs : left < (n : Int)
  · have HF := Lib.hid (HZ.out (by have := HL.out; unfold bulkCs; omega))
    have h2 : left - n < 0 := by omega
    clear hs HZ HZ' HR HL
    go_enter Tryz.func5, Tryz.ntmps5
    go_wp2
    go_ret
    exact ⟨by rw [HF.out]; rfl, gr⟩
  have h2 : ¬ left - n < 0 := by omega
  have h3 : 0 ≤ left - n := by omega
  clear hs
  go_enter Tryz.func5, Tryz.ntmps5
  go_wp2
  go_loopw [1, 5] (fun l i wr => ∃ (k : Nat) (L : Int), k ≤ n ∧ i = .int .i64 k ∧ l = .int .i64 L ∧ 0 ≤ L ∧ L ≤ 1048576 ∧ Grew w wr ∧ Hid (L = left - n - (((xs.take k).map bulkC).sum : Nat))) (fun _ i _ => n - (Go.RowKit.intOf i).toNat)
  case atStart => exact ⟨0, left - n, Nat.zero_le _, rfl, rfl, h3, by omega, Below.refl _ _, Lib.hid (by simp)⟩
  case round =>
    obtain ⟨k, L, hk, rfl, rfl, hL0, hL1, hg, HLk⟩ := hrel
    by_cases hlt : k < n
    · obtain ⟨b, off, va, ss, vc, oa, os, oc, rfl, hx, c0, c1, hb, hi1, hi2, hi3, hi4⟩ := rdCrt_at (HR.out.grew staysCrt hg) hlt
      have HS := Lib.hid (sum_take bulkC hx)
      have HS' := Lib.hid (sum_take_le bulkC xs (k + 1))
      have HG := Lib.hid hg
      have C : Calls Tryz.prog 18 #[.agg #[.slice va ss.length vc, .slice oa os.length oc], .int .i64 L] wr fun e w' => e = .returned (.int .i64 (zOf L (bulkC ⟨ss, os⟩))) ∧ Grew wr w' := szCrtCert va vc oa oc ss os L wr hi1 hi2 hL0 hL1 (by unfold maxLen at hi3; omega) (by unfold maxLen at hi4; omega)
      obtain ⟨bb, hbb⟩ : ∃ bb, (bulkC ⟨ss, os⟩) = bb := ⟨_, rfl⟩
      have HBB := Lib.hid hbb
      rw [hbb] at C
      have HL0 := Lib.hid hL0
      have HL1 := Lib.hid hL1
      clear hx hg hbb hi1 hi2 hi3 hi4
      by_cases hq : L < (bb : Int)
      · rw [zOf_no hq] at C
        have HC := Lib.hid C
        have HF := Lib.hid (HZ.out (by have h1 := HS.out; have h2 := HS'.out; have h3 := HLk.out; have h4 := HL.out; have h5 := HBB.out; (try simp only at h1); unfold bulkCs; omega))
        clear C hq hL0 hL1 h3
        go_wp2_with fail
        refine HC.out.mono ?_
        rintro e w2 ⟨rfl, g2⟩
        have HG2 := Lib.hid (grew_tr HG.out g2)
        clear g2
        go_wp2
        go_ret
        exact ⟨by rw [HF.out]; rfl, HG2.out⟩
      · rw [zOf_yes hq] at C
        have HC := Lib.hid C
        have h4 := Lib.hid (show 0 ≤ L - bb by omega)
        have h5 := Lib.hid (show L - bb ≤ 1048576 by omega)
        have h6 : ¬ L - bb < 0 := by omega
        have HLn := Lib.hid (show L - bb = left - n - (((xs.take (k + 1)).map bulkC).sum : Nat) by have h1 := HS.out; have h3 := HLk.out; have h5 := HBB.out; (try simp only at h1); omega)
        clear C hq hL0 hL1 h3
        go_wp2_with fail
        refine HC.out.mono ?_
        rintro e w2 ⟨rfl, g2⟩
        have HG2 := Lib.hid (grew_tr HG.out g2)
        clear g2 c0 c1
        go_wp2
        go_roundw
        case rel => exact ⟨k + 1, L - bb, by omega, by go_num, rfl, h4.out, h5.out, HG2.out, HLn⟩
        case measure => simp [Go.RowKit.intOf]; omega
    · obtain rfl : k = n := by omega
      have HG := Lib.hid hg
      have HF := Lib.hid (show L = Z by
        have h1 := HLk.out
        rw [List.take_of_length_le (by have := HL.out; omega)] at h1
        rw [HZ'.out (by unfold bulkCs; have := HL.out; omega)]
        unfold bulkCs
        have := HL.out
        omega)
      clear hg
      go_wp2
      go_ret
      exact ⟨by rw [HF.out] <;> rfl, HG.out⟩

end Go.Proofs.YtdddhnepanjmfaaGreat
