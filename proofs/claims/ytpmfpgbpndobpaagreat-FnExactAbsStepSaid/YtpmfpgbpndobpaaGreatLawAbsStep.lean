/- The walk of the law FnExactAbsStep, program against reference. No condition. -/
import Derived.Test.YtpmfpgbpndobpaaGreatEs
import Derived.Test.YtpmfpgbpndobpaaGreatSpL
import Derived.Test.YtpmfpgbpndobpaaGreatStT
import Derived.Test.YtpmfpgbpndobpaaGreatHas
namespace Go.Proofs.YtpmfpgbpndobpaaGreat
open Go.RowKit
set_option linter.unusedVariables false
set_option linter.unusedSimpArgs false
attribute [local go_sem] ext_cell ext_frozen ext_lt ext_le ext_le1 lt_s2 lt_s3 lt_s4 lt_s5 lt_s6 ext_lt1 ext_lt2 ext_lt3

set_option maxHeartbeats 16000000 in
theorem lawFnExactAbsStep (a0 : Option Addr) (n0 c0 : Nat) (ps0 : List Prc) (a1 : Option Addr) (n1 c1 : Nat) (ss1 : List Sum) (i2 : Ins) (n3 : Int) (on4 : Bool) (a4 : Option Addr) (n4 c4 : Nat) (xs4 : List Itv) (lo4 hi4 : Int) (w : World) (hr0 : RdP w a0 n0 ps0) (hf0 : PrgWf ps0) (hl0 : n0 ≤ c0) (hm0 : c0 ≤ maxLen) (hr1 : RdL ESum 3 w a1 n1 ss1) (hf1 : ∀ x, x ∈ ss1 → SumWf x) (hl1 : n1 ≤ c1) (hm1 : c1 ≤ maxLen) (hf2 : InsWf i2) (hn3 : I64 n3) (hr4 : RdL EItv 2 w a4 n4 xs4) (hf4 : (∀ x, x ∈ xs4 → ItvWf x) ∧ ItvWf ⟨lo4, hi4⟩) (hl4 : n4 ≤ c4) (hm4 : c4 ≤ maxLen) :
    Calls Tryz.prog 5 #[.agg #[.slice a0 n0 c0], .slice a1 n1 c1, i2.v, .int .i64 n3, .agg #[.bool on4, .slice a4 n4 c4, .int .i64 lo4, .int .i64 hi4]] w fun e w' => e = .returned (.bool true) ∧ Grew w w' := by
  have hn0 : n0 ≤ 9223372036854775807 := by unfold maxLen at hm0; omega
  have HR0 := Lib.hid hr0; clear hr0 hf0 hl0 hm0
  have hq0 : decide (ps0 = ps0) = true := by simp
  have hn1 : n1 ≤ 9223372036854775807 := by unfold maxLen at hm1; omega
  have hln1 := Lib.hid hr1.len
  have HR1 := Lib.hid hr1; clear hr1 hf1 hl1 hm1
  obtain ⟨op2, d2, a2, b2, rel2, lo2, hi2, to2⟩ := i2
  clear hf2
  have hn4 : n4 ≤ 9223372036854775807 := by unfold maxLen at hm4; omega
  have hln4 := Lib.hid hr4.len
  have HR4 := Lib.hid hr4; clear hr4 hf4 hl4 hm4
  have hq4 : decide ((⟨on4, xs4, lo4, hi4⟩ : St) = ⟨on4, xs4, lo4, hi4⟩) = true := by simp
  have hSl := stepL_two ps0 ss1 ⟨op2, d2, a2, b2, rel2, lo2, hi2, to2⟩ n3 on4 xs4 lo4 hi4
  have hS4 := Lib.hid (stepL_four (ps := ps0) (ss := ss1) (i := ⟨op2, d2, a2, b2, rel2, lo2, hi2, to2⟩) (pc := n3) (on := on4) (xs := xs4) (lo := lo4) (hi := hi4))
  obtain ⟨S, hS⟩ : ∃ S, stepL ps0 ss1 ⟨op2, d2, a2, b2, rel2, lo2, hi2, to2⟩ n3 on4 xs4 lo4 hi4 = S := ⟨_, rfl⟩
  rw [hS] at hSl hS4
  have HS := Lib.hid hS; clear hS
  have BW : Hid (Grew w w) := Lib.hid (Below.refl _ _)
  go_enter Tryz.func5, Tryz.ntmps5
  go_wp2_with fail
  refine (szPrgProg a0 n0 c0 ps0 1048576 _ (HR0.out.grew (grew_tr BW.out (grew_al (grew_al (grew_al (Below.refl _ w) (.cells #[.slice a0 n0 c0] 64)) (.cells #[.int .i64 op2, .int .i64 d2, .int .i64 a2, .int .i64 b2, .int .i64 rel2, .int .i64 lo2, .int .i64 hi2, .int .i64 to2] 66)) (.cells #[.bool on4, .slice a4 n4 c4, .int .i64 lo4, .int .i64 hi4] 70)))) (by omega) (by omega) hn0).mono ?_
  rintro e w1 ⟨z0, rfl, hz, g1⟩
  have GG2 : Grew w w1 := grew_tr (grew_al (grew_al (grew_al (Below.refl _ w) (.cells #[.slice a0 n0 c0] 64)) (.cells #[.int .i64 op2, .int .i64 d2, .int .i64 a2, .int .i64 b2, .int .i64 rel2, .int .i64 lo2, .int .i64 hi2, .int .i64 to2] 66)) (.cells #[.bool on4, .slice a4 n4 c4, .int .i64 lo4, .int .i64 hi4] 70)) g1
  have Ba0 := Lib.hid ((((Boxd.new w 64 #[.slice a0 n0 c0]).grew (grew_al (Below.refl _ _) (.cells #[.int .i64 op2, .int .i64 d2, .int .i64 a2, .int .i64 b2, .int .i64 rel2, .int .i64 lo2, .int .i64 hi2, .int .i64 to2] 66))).grew (grew_al (Below.refl _ _) (.cells #[.bool on4, .slice a4 n4 c4, .int .i64 lo4, .int .i64 hi4] 70))).grew g1)
  have Ba2 : Hid (Boxd w1 (w.heap.size + 1) #[.int .i64 op2, .int .i64 d2, .int .i64 a2, .int .i64 b2, .int .i64 rel2, .int .i64 lo2, .int .i64 hi2, .int .i64 to2]) := Lib.hid (by have hbx := ((Boxd.new (w.alloc (.cells #[.slice a0 n0 c0] 64)) 66 #[.int .i64 op2, .int .i64 d2, .int .i64 a2, .int .i64 b2, .int .i64 rel2, .int .i64 lo2, .int .i64 hi2, .int .i64 to2]).grew (grew_al (Below.refl _ _) (.cells #[.bool on4, .slice a4 n4 c4, .int .i64 lo4, .int .i64 hi4] 70))).grew g1; simpa only [World.size_alloc, Nat.add_assoc, Nat.reduceAdd] using hbx)
  have Ba4 : Hid (Boxd w1 (w.heap.size + 2) #[.bool on4, .slice a4 n4 c4, .int .i64 lo4, .int .i64 hi4]) := Lib.hid (by have hbx := (Boxd.new ((w.alloc (.cells #[.slice a0 n0 c0] 64)).alloc (.cells #[.int .i64 op2, .int .i64 d2, .int .i64 a2, .int .i64 b2, .int .i64 rel2, .int .i64 lo2, .int .i64 hi2, .int .i64 to2] 66)) 70 #[.bool on4, .slice a4 n4 c4, .int .i64 lo4, .int .i64 hi4]).grew g1; simpa only [World.size_alloc, Nat.add_assoc, Nat.reduceAdd] using hbx)
  have s3 : w.heap.size + 3 ≤ w1.heap.size := by have := g1.size; simp only [World.size_alloc, Nat.add_assoc, Nat.reduceAdd] at this; exact this
  have BW := Lib.hid (grew_tr BW.out GG2)
  clear GG2 g1
  have la0 := Ba0.out.1
  have qa0_0 : w1.cell? ⟨w.heap.size, 0, none⟩ = some (.slice a0 n0 c0) := Ba0.out.2 0 _ rfl
  have la2 := Ba2.out.1
  obtain ⟨qa2_0, qa2_1, qa2_2, qa2_3, qa2_4, qa2_5, qa2_6, qa2_7⟩ := bx8 Ba2.out
  have la4 := Ba4.out.1
  obtain ⟨qa4_0, qa4_1, qa4_2, qa4_3⟩ := bx4 Ba4.out
  rcases hz with rfl | ⟨za, zb, hz0, hy0⟩
  · go_wp2
    go_ret
    exact ⟨rfl, BW.out⟩
  have hyy0 := Lib.hid hy0; clear hy0
  have hzn0 : 0 ≤ z0 := za
  have hzm0 : z0 ≤ 1048576 := by omega
  clear za zb
  have hzl0 : ¬ z0 < 0 := by omega
  have C := fun W => szSumSumS a1 n1 c1 z0 W (by omega) (by omega) hn1
  by_cases hs1 : z0 < (n1 : Int)
  · rw [if_pos hs1] at C
    have HC := Lib.hid C; clear C hs1
    go_wp2_with fail
    refine (HC.out _).mono ?_
    rintro e w2 ⟨rfl, rfl⟩
    go_wp2
    go_ret
    exact ⟨rfl, BW.out⟩
  rw [if_neg hs1] at C
  have hz1 : n1 ≤ 1048576 := by omega
  have hy1 : ¬ z0 - (n1 : Int) < 0 := by omega
  have HC := Lib.hid C; clear C hs1
  go_wp2_with fail
  refine (HC.out _).mono ?_
  rintro e w4 ⟨rfl, hgw⟩
  have g1 : Grew w1 w4 := hgw ▸ Below.refl _ _
  clear hgw
  have GG5 : Grew w1 w4 := g1
  clear la0 qa0_0
  clear la2 qa2_0 qa2_1 qa2_2 qa2_3 qa2_4 qa2_5 qa2_6 qa2_7
  clear la4 qa4_0 qa4_1 qa4_2 qa4_3
  have Ba0 := Lib.hid (Ba0.out.grew GG5)
  have Ba2 := Lib.hid (Ba2.out.grew GG5)
  have Ba4 := Lib.hid (Ba4.out.grew GG5)
  have s6 : w1.heap.size ≤ w4.heap.size := GG5.size
  have BW := Lib.hid (grew_tr BW.out GG5)
  clear GG5 g1
  have la0 := Ba0.out.1
  have qa0_0 : w4.cell? ⟨w.heap.size, 0, none⟩ = some (.slice a0 n0 c0) := Ba0.out.2 0 _ rfl
  have la2 := Ba2.out.1
  obtain ⟨qa2_0, qa2_1, qa2_2, qa2_3, qa2_4, qa2_5, qa2_6, qa2_7⟩ := bx8 Ba2.out
  have la4 := Ba4.out.1
  obtain ⟨qa4_0, qa4_1, qa4_2, qa4_3⟩ := bx4 Ba4.out
  have C := fun W => szAbsState on4 a4 n4 c4 lo4 hi4 (z0 - (n1 : Int)) W (by omega) (by omega) hn4
  by_cases hs4 : (z0 - (n1 : Int)) < (n4 : Int)
  · rw [if_pos hs4] at C
    have HC := Lib.hid C; clear C hs4
    go_wp2_with fail
    refine (HC.out _).mono ?_
    rintro e w2 ⟨rfl, g2⟩
    have BW := Lib.hid (grew_tr (BW.out) g2)
    go_wp2
    go_ret
    exact ⟨rfl, BW.out⟩
  rw [if_neg hs4] at C
  have hz4 : n4 ≤ 1048576 := by omega
  have hy4 : ¬ (z0 - (n1 : Int)) - (n4 : Int) < 0 := by omega
  have HC := Lib.hid C; clear C hs4
  go_wp2_with fail
  refine (HC.out _).mono ?_
  rintro e w7 ⟨rfl, g1⟩
  have GG8 : Grew w4 w7 := g1
  clear la0 qa0_0
  clear la2 qa2_0 qa2_1 qa2_2 qa2_3 qa2_4 qa2_5 qa2_6 qa2_7
  clear la4 qa4_0 qa4_1 qa4_2 qa4_3
  have Ba0 := Lib.hid (Ba0.out.grew GG8)
  have Ba2 := Lib.hid (Ba2.out.grew GG8)
  have Ba4 := Lib.hid (Ba4.out.grew GG8)
  have s9 : w4.heap.size ≤ w7.heap.size := GG8.size
  have BW := Lib.hid (grew_tr BW.out GG8)
  clear GG8 g1
  have la0 := Ba0.out.1
  have qa0_0 : w7.cell? ⟨w.heap.size, 0, none⟩ = some (.slice a0 n0 c0) := Ba0.out.2 0 _ rfl
  have la2 := Ba2.out.1
  obtain ⟨qa2_0, qa2_1, qa2_2, qa2_3, qa2_4, qa2_5, qa2_6, qa2_7⟩ := bx8 Ba2.out
  have la4 := Ba4.out.1
  obtain ⟨qa4_0, qa4_1, qa4_2, qa4_3⟩ := bx4 Ba4.out
  go_wp2_with fail
  go_region_held3 (fun W => W.cell? ⟨w.heap.size, 0, none⟩ = some (.slice a0 n0 c0) ∧ W.cell? ⟨w.heap.size + 1, 0, none⟩ = some (.int .i64 op2) ∧ W.cell? ⟨w.heap.size + 1, 1, none⟩ = some (.int .i64 d2) ∧ W.cell? ⟨w.heap.size + 1, 2, none⟩ = some (.int .i64 a2) ∧ W.cell? ⟨w.heap.size + 1, 3, none⟩ = some (.int .i64 b2) ∧ W.cell? ⟨w.heap.size + 1, 4, none⟩ = some (.int .i64 rel2) ∧ W.cell? ⟨w.heap.size + 1, 5, none⟩ = some (.int .i64 lo2) ∧ W.cell? ⟨w.heap.size + 1, 6, none⟩ = some (.int .i64 hi2) ∧ W.cell? ⟨w.heap.size + 1, 7, none⟩ = some (.int .i64 to2) ∧ W.cell? ⟨w.heap.size + 2, 0, none⟩ = some (.bool on4) ∧ W.cell? ⟨w.heap.size + 2, 1, none⟩ = some (.slice a4 n4 c4) ∧ W.cell? ⟨w.heap.size + 2, 2, none⟩ = some (.int .i64 lo4) ∧ W.cell? ⟨w.heap.size + 2, 3, none⟩ = some (.int .i64 hi4)) (first | with_reducible assumption | exact ⟨qa0_0, qa2_0, qa2_1, qa2_2, qa2_3, qa2_4, qa2_5, qa2_6, qa2_7, qa4_0, qa4_1, qa4_2, qa4_3⟩ | exact ⟨(ext_cellD _ _ ⟨w.heap.size, 0, none⟩ la0).trans qa0_0, (ext_cellD _ _ ⟨w.heap.size + 1, 0, none⟩ la2).trans qa2_0, (ext_cellD _ _ ⟨w.heap.size + 1, 1, none⟩ la2).trans qa2_1, (ext_cellD _ _ ⟨w.heap.size + 1, 2, none⟩ la2).trans qa2_2, (ext_cellD _ _ ⟨w.heap.size + 1, 3, none⟩ la2).trans qa2_3, (ext_cellD _ _ ⟨w.heap.size + 1, 4, none⟩ la2).trans qa2_4, (ext_cellD _ _ ⟨w.heap.size + 1, 5, none⟩ la2).trans qa2_5, (ext_cellD _ _ ⟨w.heap.size + 1, 6, none⟩ la2).trans qa2_6, (ext_cellD _ _ ⟨w.heap.size + 1, 7, none⟩ la2).trans qa2_7, (ext_cellD _ _ ⟨w.heap.size + 2, 0, none⟩ la4).trans qa4_0, (ext_cellD _ _ ⟨w.heap.size + 2, 1, none⟩ la4).trans qa4_1, (ext_cellD _ _ ⟨w.heap.size + 2, 2, none⟩ la4).trans qa4_2, (ext_cellD _ _ ⟨w.heap.size + 2, 3, none⟩ la4).trans qa4_3⟩)
    (first
    | (go_at_call 25; refine (toPrgProg a0 n0 c0 ps0 _ (HR0.out.grew (grew_d BW.out)) hz0 hyy0.out).mono ?_; rintro e w2 ⟨v10, ms10, rfl, o10, hm10, g10⟩; obtain ⟨ca10, cc10, rfl⟩ := owns_slice o10.2.1; have R10 := Lib.hid (prg_rd o10 hm10); clear o10 hm10; obtain ⟨y10, rfl⟩ := ext_of g10; clear g10)
    | (go_at_call 26; refine (toSumSumS a1 n1 c1 ss1 _ (HR1.out.grew staysSum (grew_ext (grew_d BW.out) _)) hz1).mono ?_; rintro e w2 ⟨v11, rfl, o11, g11⟩; obtain ⟨ca11, cc11, rfl⟩ := owns_slice o11; have R11 := Lib.hid (rdSum_of_own hln1.out o11); clear o11; have R10 := Lib.hid (RdL.grew stays_prc R10.out g11); obtain ⟨y11, rfl⟩ := ext_col g11; clear g11)
    | (go_at_call 27; refine (toInsIns ⟨op2, d2, a2, b2, rel2, lo2, hi2, to2⟩ _).mono ?_; rintro e w2 ⟨rfl, g12⟩; have R10 := Lib.hid (RdL.grew stays_prc R10.out g12); have R11 := Lib.hid (RdL.grew staysSum R11.out g12); obtain ⟨y12, rfl⟩ := ext_col g12; clear g12)
    | (go_at_call 28; refine (toAbsState on4 a4 n4 c4 xs4 lo4 hi4 _ (HR4.out.grew staysItv (grew_ext (grew_d BW.out) _)) hz4).mono ?_; rintro e w2 ⟨ca13, cc13, rfl, o13, g13⟩; have hcap13 := (owns_cap o13).1; have R13 := Lib.hid (rdItv_of_own hln4.out o13); clear o13; have R10 := Lib.hid (RdL.grew stays_prc R10.out g13); have R11 := Lib.hid (RdL.grew staysSum R11.out g13); obtain ⟨y13, rfl⟩ := ext_col g13; clear g13)
    | (go_at_call 24; refine (retEs_S (specAbsStep ca10 n0 cc10 ps0 ca11 n1 cc11 ss1 ⟨op2, d2, a2, b2, rel2, lo2, hi2, to2⟩ n3 on4 ca13 n4 cc13 xs4 lo4 hi4 _ R10.out hn0 R11.out hn1 R13.out hn4) HS.out).mono ?_; rintro e w2 ⟨ca14, cc14, ms14, rfl, oo14, hm14, g14⟩; have oo14 := OwnE.mono oo14 (show w7.heap.size ≤ _ from (grew_ext (grew_d (Below.refl _ _)) _).size); obtain ⟨y14, rfl⟩ := ext_col g14; clear g14))
  clear R10 R11 R13 hcap13
  obtain ⟨w15, hw2⟩ : ∃ X, ext (w7).drew y14 = X := ⟨_, rfl⟩
  rw [hw2] at oo14 ⊢
  have g114 : Grew w7 w15 := by rw [← hw2]; exact grew_ext (grew_d (Below.refl _ _)) _
  clear hw2
  have o14 := OwnEN.of oo14
  clear oo14
  have M14 := Lib.hid hm14; clear hm14
  have GG16 : Grew w7 w15 := g114
  clear la0 qa0_0
  clear la2 qa2_0 qa2_1 qa2_2 qa2_3 qa2_4 qa2_5 qa2_6 qa2_7
  clear la4 qa4_0 qa4_1 qa4_2 qa4_3
  have Ba0 := Lib.hid (Ba0.out.grew GG16)
  have Ba2 := Lib.hid (Ba2.out.grew GG16)
  have Ba4 := Lib.hid (Ba4.out.grew GG16)
  have s17 : w7.heap.size ≤ w15.heap.size := GG16.size
  have BW := Lib.hid (grew_tr BW.out GG16)
  clear GG16 g114
  have la0 := Ba0.out.1
  have qa0_0 : w15.cell? ⟨w.heap.size, 0, none⟩ = some (.slice a0 n0 c0) := Ba0.out.2 0 _ rfl
  have la2 := Ba2.out.1
  obtain ⟨qa2_0, qa2_1, qa2_2, qa2_3, qa2_4, qa2_5, qa2_6, qa2_7⟩ := bx8 Ba2.out
  have la4 := Ba4.out.1
  obtain ⟨qa4_0, qa4_1, qa4_2, qa4_3⟩ := bx4 Ba4.out
  have O14 := Lib.hid o14; clear o14
  go_wp2_with fail
  refine (toPrgProg a0 n0 c0 ps0 _ (HR0.out.grew (BW.out)) hz0 hyy0.out).mono ?_
  rintro e w19 ⟨v18, ms18, rfl, o18, hm18, g18⟩
  obtain ⟨ca18, cc18, rfl⟩ := owns_slice o18.2.1
  have hq1818 := Lib.hid hm18; clear hm18
  have P18 := Lib.hid (OwnP.blk o18)
  have GG20 : Grew w15 w19 := g18
  clear la0 qa0_0
  clear la2 qa2_0 qa2_1 qa2_2 qa2_3 qa2_4 qa2_5 qa2_6 qa2_7
  clear la4 qa4_0 qa4_1 qa4_2 qa4_3
  have O14 := Lib.hid (OwnEN.grew O14.out GG20)
  have Ba0 := Lib.hid (Ba0.out.grew GG20)
  have Ba2 := Lib.hid (Ba2.out.grew GG20)
  have Ba4 := Lib.hid (Ba4.out.grew GG20)
  have s21 : w15.heap.size ≤ w19.heap.size := GG20.size
  have BW := Lib.hid (grew_tr BW.out GG20)
  clear GG20 g18
  have la0 := Ba0.out.1
  have qa0_0 : w19.cell? ⟨w.heap.size, 0, none⟩ = some (.slice a0 n0 c0) := Ba0.out.2 0 _ rfl
  have la2 := Ba2.out.1
  obtain ⟨qa2_0, qa2_1, qa2_2, qa2_3, qa2_4, qa2_5, qa2_6, qa2_7⟩ := bx8 Ba2.out
  have la4 := Ba4.out.1
  obtain ⟨qa4_0, qa4_1, qa4_2, qa4_3⟩ := bx4 Ba4.out
  have O18 := Lib.hid o18; clear o18
  go_wp2_with fail
  refine (toSumSumS a1 n1 c1 ss1 _ (HR1.out.grew staysSum (grew_tr BW.out (grew_al (Below.refl _ w19) (.cells #[.slice ca18 n0 cc18] 25)))) hz1).mono ?_
  rintro e w23 ⟨v22, rfl, o22, g22⟩
  obtain ⟨ca22, cc22, rfl⟩ := owns_slice o22
  have pp := o22.lt
  try simp only [World.size_alloc] at pp
  have P22 := Lib.hid pp; clear pp
  have GG24 : Grew w19 w23 := grew_tr (grew_al (Below.refl _ w19) (.cells #[.slice ca18 n0 cc18] 25)) g22
  clear la0 qa0_0
  clear la2 qa2_0 qa2_1 qa2_2 qa2_3 qa2_4 qa2_5 qa2_6 qa2_7
  clear la4 qa4_0 qa4_1 qa4_2 qa4_3
  have O14 := Lib.hid (OwnEN.grew O14.out GG24)
  have O18 := Lib.hid (OwnP.grew O18.out GG24)
  have Ba0 := Lib.hid (Ba0.out.grew GG24)
  have Ba2 := Lib.hid (Ba2.out.grew GG24)
  have Ba4 := Lib.hid (Ba4.out.grew GG24)
  have Bx0 := Lib.hid ((Boxd.new w19 25 #[.slice ca18 n0 cc18]).grew g22)
  have s25 : w19.heap.size + 1 ≤ w23.heap.size := by have := g22.size; simp only [World.size_alloc, Nat.add_assoc, Nat.reduceAdd] at this; exact this
  have BW := Lib.hid (grew_tr BW.out GG24)
  clear GG24 g22
  have la0 := Ba0.out.1
  have qa0_0 : w23.cell? ⟨w.heap.size, 0, none⟩ = some (.slice a0 n0 c0) := Ba0.out.2 0 _ rfl
  have la2 := Ba2.out.1
  obtain ⟨qa2_0, qa2_1, qa2_2, qa2_3, qa2_4, qa2_5, qa2_6, qa2_7⟩ := bx8 Ba2.out
  have la4 := Ba4.out.1
  obtain ⟨qa4_0, qa4_1, qa4_2, qa4_3⟩ := bx4 Ba4.out
  have lx0 := Bx0.out.1
  have qx0_0 : w23.cell? ⟨w19.heap.size, 0, none⟩ = some (.slice ca18 n0 cc18) := Bx0.out.2 0 _ rfl
  have O22 := Lib.hid o22; clear o22
  go_wp2_with fail
  refine (toAbsState on4 a4 n4 c4 xs4 lo4 hi4 _ (HR4.out.grew staysItv (BW.out)) hz4).mono ?_
  rintro e w27 ⟨ca26, cc26, rfl, o26, g26⟩
  have pp := o26.lt
  try simp only [World.size_alloc] at pp
  have P26 := Lib.hid pp; clear pp
  have hcap26 := (owns_cap o26).1
  have GG28 : Grew w23 w27 := g26
  clear la0 qa0_0
  clear la2 qa2_0 qa2_1 qa2_2 qa2_3 qa2_4 qa2_5 qa2_6 qa2_7
  clear la4 qa4_0 qa4_1 qa4_2 qa4_3
  clear lx0 qx0_0
  have O14 := Lib.hid (OwnEN.grew O14.out GG28)
  have O18 := Lib.hid (OwnP.grew O18.out GG28)
  have O22 := Lib.hid (owns_grew O22.out GG28)
  have Ba0 := Lib.hid (Ba0.out.grew GG28)
  have Ba2 := Lib.hid (Ba2.out.grew GG28)
  have Ba4 := Lib.hid (Ba4.out.grew GG28)
  have Bx0 := Lib.hid (Bx0.out.grew GG28)
  have s29 : w23.heap.size ≤ w27.heap.size := GG28.size
  have BW := Lib.hid (grew_tr BW.out GG28)
  clear GG28 g26
  have la0 := Ba0.out.1
  have qa0_0 : w27.cell? ⟨w.heap.size, 0, none⟩ = some (.slice a0 n0 c0) := Ba0.out.2 0 _ rfl
  have la2 := Ba2.out.1
  obtain ⟨qa2_0, qa2_1, qa2_2, qa2_3, qa2_4, qa2_5, qa2_6, qa2_7⟩ := bx8 Ba2.out
  have la4 := Ba4.out.1
  obtain ⟨qa4_0, qa4_1, qa4_2, qa4_3⟩ := bx4 Ba4.out
  have lx0 := Bx0.out.1
  have qx0_0 : w27.cell? ⟨w19.heap.size, 0, none⟩ = some (.slice ca18 n0 cc18) := Bx0.out.2 0 _ rfl
  have O26 := Lib.hid o26; clear o26
  go_wp2_with fail
  refine wp_letH ?_
  intro w30 hE
  have g31 : Grew (w27.alloc (.cells #[.bool on4, .slice ca26 n4 cc26, .int .i64 lo4, .int .i64 hi4] 33)) w30 := by rw [hE]; exact Below.refl _ _
  clear hE
  have GG32 : Grew w27 w30 := grew_tr (grew_al (Below.refl _ w27) (.cells #[.bool on4, .slice ca26 n4 cc26, .int .i64 lo4, .int .i64 hi4] 33)) g31
  clear la0 qa0_0
  clear la2 qa2_0 qa2_1 qa2_2 qa2_3 qa2_4 qa2_5 qa2_6 qa2_7
  clear la4 qa4_0 qa4_1 qa4_2 qa4_3
  clear lx0 qx0_0
  have O14 := Lib.hid (OwnEN.grew O14.out GG32)
  have O18 := Lib.hid (OwnP.grew O18.out GG32)
  have O22 := Lib.hid (owns_grew O22.out GG32)
  have O26 := Lib.hid (owns_grew O26.out GG32)
  have Ba0 := Lib.hid (Ba0.out.grew GG32)
  have Ba2 := Lib.hid (Ba2.out.grew GG32)
  have Ba4 := Lib.hid (Ba4.out.grew GG32)
  have Bx0 := Lib.hid (Bx0.out.grew GG32)
  have Bx4 := Lib.hid ((Boxd.new w27 33 #[.bool on4, .slice ca26 n4 cc26, .int .i64 lo4, .int .i64 hi4]).grew g31)
  have s33 : w27.heap.size + 1 ≤ w30.heap.size := by have := g31.size; simp only [World.size_alloc, Nat.add_assoc, Nat.reduceAdd] at this; exact this
  have BW := Lib.hid (grew_tr BW.out GG32)
  clear GG32 g31
  have la0 := Ba0.out.1
  have qa0_0 : w30.cell? ⟨w.heap.size, 0, none⟩ = some (.slice a0 n0 c0) := Ba0.out.2 0 _ rfl
  have la2 := Ba2.out.1
  obtain ⟨qa2_0, qa2_1, qa2_2, qa2_3, qa2_4, qa2_5, qa2_6, qa2_7⟩ := bx8 Ba2.out
  have la4 := Ba4.out.1
  obtain ⟨qa4_0, qa4_1, qa4_2, qa4_3⟩ := bx4 Ba4.out
  have lx0 := Bx0.out.1
  have qx0_0 : w30.cell? ⟨w19.heap.size, 0, none⟩ = some (.slice ca18 n0 cc18) := Bx0.out.2 0 _ rfl
  have lx4 := Bx4.out.1
  obtain ⟨qx4_0, qx4_1, qx4_2, qx4_3⟩ := bx4 Bx4.out
  go_wp2_with fail
  go_region_held3 (fun W => W.cell? ⟨w19.heap.size, 0, none⟩ = some (.slice ca18 n0 cc18) ∧ W.cell? ⟨w.heap.size + 1, 0, none⟩ = some (.int .i64 op2) ∧ W.cell? ⟨w.heap.size + 1, 1, none⟩ = some (.int .i64 d2) ∧ W.cell? ⟨w.heap.size + 1, 2, none⟩ = some (.int .i64 a2) ∧ W.cell? ⟨w.heap.size + 1, 3, none⟩ = some (.int .i64 b2) ∧ W.cell? ⟨w.heap.size + 1, 4, none⟩ = some (.int .i64 rel2) ∧ W.cell? ⟨w.heap.size + 1, 5, none⟩ = some (.int .i64 lo2) ∧ W.cell? ⟨w.heap.size + 1, 6, none⟩ = some (.int .i64 hi2) ∧ W.cell? ⟨w.heap.size + 1, 7, none⟩ = some (.int .i64 to2) ∧ W.cell? ⟨w27.heap.size, 0, none⟩ = some (.bool on4) ∧ W.cell? ⟨w27.heap.size, 1, none⟩ = some (.slice ca26 n4 cc26) ∧ W.cell? ⟨w27.heap.size, 2, none⟩ = some (.int .i64 lo4) ∧ W.cell? ⟨w27.heap.size, 3, none⟩ = some (.int .i64 hi4)) (first | with_reducible assumption | exact ⟨qx0_0, qa2_0, qa2_1, qa2_2, qa2_3, qa2_4, qa2_5, qa2_6, qa2_7, qx4_0, qx4_1, qx4_2, qx4_3⟩ | exact ⟨(ext_cellD _ _ ⟨w19.heap.size, 0, none⟩ lx0).trans qx0_0, (ext_cellD _ _ ⟨w.heap.size + 1, 0, none⟩ la2).trans qa2_0, (ext_cellD _ _ ⟨w.heap.size + 1, 1, none⟩ la2).trans qa2_1, (ext_cellD _ _ ⟨w.heap.size + 1, 2, none⟩ la2).trans qa2_2, (ext_cellD _ _ ⟨w.heap.size + 1, 3, none⟩ la2).trans qa2_3, (ext_cellD _ _ ⟨w.heap.size + 1, 4, none⟩ la2).trans qa2_4, (ext_cellD _ _ ⟨w.heap.size + 1, 5, none⟩ la2).trans qa2_5, (ext_cellD _ _ ⟨w.heap.size + 1, 6, none⟩ la2).trans qa2_6, (ext_cellD _ _ ⟨w.heap.size + 1, 7, none⟩ la2).trans qa2_7, (ext_cellD _ _ ⟨w27.heap.size, 0, none⟩ lx4).trans qx4_0, (ext_cellD _ _ ⟨w27.heap.size, 1, none⟩ lx4).trans qx4_1, (ext_cellD _ _ ⟨w27.heap.size, 2, none⟩ lx4).trans qx4_2, (ext_cellD _ _ ⟨w27.heap.size, 3, none⟩ lx4).trans qx4_3⟩)
    (first
    | (go_at_call 27; refine (toInsIns ⟨op2, d2, a2, b2, rel2, lo2, hi2, to2⟩ _).mono ?_; rintro e w2 ⟨rfl, g34⟩; obtain ⟨y34, rfl⟩ := ext_of g34; clear g34)
    | (go_at_call 12; refine (retEa_S (implAbsStep ca18 n0 cc18 ps0 ca22 n1 cc22 ss1 ⟨op2, d2, a2, b2, rel2, lo2, hi2, to2⟩ n3 on4 ca26 n4 cc26 xs4 lo4 hi4 _ (RdL.grew stays_prc (prg_rd O18.out hq1818.out) (grew_ext (grew_d (Below.refl _ _)) _)) hn0 (RdL.grew staysSum (rdSum_of_own hln1.out O22.out) (grew_ext (grew_d (Below.refl _ _)) _)) hn1 (RdL.grew staysItv (rdItv_of_own hln4.out O26.out) (grew_ext (grew_d (Below.refl _ _)) _)) hn4 hcap26) HS.out).mono ?_; rintro e w2 ⟨ca35, cc35, ms35, rfl, oo35, hm35, hap35, g35⟩; have oo35 := OwnE.mono oo35 (show w30.heap.size ≤ _ from (grew_ext (grew_d (Below.refl _ _)) _).size); obtain ⟨y35, rfl⟩ := ext_col g35; clear g35))
  obtain ⟨w36, hw2⟩ : ∃ X, ext (w30).drew y35 = X := ⟨_, rfl⟩
  rw [hw2] at oo35 ⊢
  have g135 : Grew w30 w36 := by rw [← hw2]; exact grew_ext (grew_d (Below.refl _ _)) _
  clear hw2
  have o35 := OwnEN.of oo35
  clear oo35
  have M35 := Lib.hid hm35; clear hm35
  have A35 := Lib.hid hap35; clear hap35
  have GG37 : Grew w30 w36 := g135
  clear la0 qa0_0
  clear la2 qa2_0 qa2_1 qa2_2 qa2_3 qa2_4 qa2_5 qa2_6 qa2_7
  clear la4 qa4_0 qa4_1 qa4_2 qa4_3
  clear lx0 qx0_0
  clear lx4 qx4_0 qx4_1 qx4_2 qx4_3
  have O14 := Lib.hid (OwnEN.grew O14.out GG37)
  have O18 := Lib.hid (OwnP.grew O18.out GG37)
  have O22 := Lib.hid (owns_grew O22.out GG37)
  have O26 := Lib.hid (owns_grew O26.out GG37)
  have Ba0 := Lib.hid (Ba0.out.grew GG37)
  have Ba2 := Lib.hid (Ba2.out.grew GG37)
  have Ba4 := Lib.hid (Ba4.out.grew GG37)
  have Bx0 := Lib.hid (Bx0.out.grew GG37)
  have Bx4 := Lib.hid (Bx4.out.grew GG37)
  have s38 : w30.heap.size ≤ w36.heap.size := GG37.size
  have BW := Lib.hid (grew_tr BW.out GG37)
  clear GG37 g135
  have la0 := Ba0.out.1
  have qa0_0 : w36.cell? ⟨w.heap.size, 0, none⟩ = some (.slice a0 n0 c0) := Ba0.out.2 0 _ rfl
  have la2 := Ba2.out.1
  obtain ⟨qa2_0, qa2_1, qa2_2, qa2_3, qa2_4, qa2_5, qa2_6, qa2_7⟩ := bx8 Ba2.out
  have la4 := Ba4.out.1
  obtain ⟨qa4_0, qa4_1, qa4_2, qa4_3⟩ := bx4 Ba4.out
  have lx0 := Bx0.out.1
  have qx0_0 : w36.cell? ⟨w19.heap.size, 0, none⟩ = some (.slice ca18 n0 cc18) := Bx0.out.2 0 _ rfl
  have lx4 := Bx4.out.1
  obtain ⟨qx4_0, qx4_1, qx4_2, qx4_3⟩ := bx4 Bx4.out
  have O35 := Lib.hid o35; clear o35
  go_wp2_with fail
  refine (eqAbsEdgeST ca35 ca14 cc35 cc14 S _ (O35.out.o.rd M35.out hS4.out) (O14.out.o.rd M14.out hS4.out) (by omega)).mono ?_
  rintro e w40 ⟨rfl, g39⟩
  have GG41 : Grew w36 w40 := g39
  clear la0 qa0_0
  clear la2 qa2_0 qa2_1 qa2_2 qa2_3 qa2_4 qa2_5 qa2_6 qa2_7
  clear la4 qa4_0 qa4_1 qa4_2 qa4_3
  clear lx0 qx0_0
  clear lx4 qx4_0 qx4_1 qx4_2 qx4_3
  have O14 := Lib.hid (OwnEN.grew O14.out GG41)
  have O18 := Lib.hid (OwnP.grew O18.out GG41)
  have O22 := Lib.hid (owns_grew O22.out GG41)
  have O26 := Lib.hid (owns_grew O26.out GG41)
  have O35 := Lib.hid (OwnEN.grew O35.out GG41)
  have Ba0 := Lib.hid (Ba0.out.grew GG41)
  have Ba2 := Lib.hid (Ba2.out.grew GG41)
  have Ba4 := Lib.hid (Ba4.out.grew GG41)
  have Bx0 := Lib.hid (Bx0.out.grew GG41)
  have Bx4 := Lib.hid (Bx4.out.grew GG41)
  have s42 : w36.heap.size ≤ w40.heap.size := GG41.size
  have BW := Lib.hid (grew_tr BW.out GG41)
  clear GG41 g39
  have la0 := Ba0.out.1
  have qa0_0 : w40.cell? ⟨w.heap.size, 0, none⟩ = some (.slice a0 n0 c0) := Ba0.out.2 0 _ rfl
  have la2 := Ba2.out.1
  obtain ⟨qa2_0, qa2_1, qa2_2, qa2_3, qa2_4, qa2_5, qa2_6, qa2_7⟩ := bx8 Ba2.out
  have la4 := Ba4.out.1
  obtain ⟨qa4_0, qa4_1, qa4_2, qa4_3⟩ := bx4 Ba4.out
  have lx0 := Bx0.out.1
  have qx0_0 : w40.cell? ⟨w19.heap.size, 0, none⟩ = some (.slice ca18 n0 cc18) := Bx0.out.2 0 _ rfl
  have lx4 := Bx4.out.1
  obtain ⟨qx4_0, qx4_1, qx4_2, qx4_3⟩ := bx4 Bx4.out
  go_wp2_with fail
  go_region_held3 (fun W => W.cell? ⟨w.heap.size, 0, none⟩ = some (.slice a0 n0 c0) ∧ W.cell? ⟨w19.heap.size, 0, none⟩ = some (.slice ca18 n0 cc18)) (first | assumption | exact ⟨qa0_0, qx0_0⟩ | exact ⟨(ext_cellD _ _ ⟨w.heap.size, 0, none⟩ la0).trans qa0_0, (ext_cellD _ _ ⟨w19.heap.size, 0, none⟩ lx0).trans qx0_0⟩)
    (first
    | (go_at_call 25; refine (toPrgProg a0 n0 c0 ps0 _ (HR0.out.grew (grew_d BW.out)) hz0 hyy0.out).mono ?_; rintro e w2 ⟨v43, ms43, rfl, o43, hm43, g43⟩; obtain ⟨ca43, cc43, rfl⟩ := owns_slice o43.2.1; have R43 := Lib.hid (prg_rd o43 hm43); clear o43 hm43; obtain ⟨y43, rfl⟩ := ext_of g43; clear g43)
    | (go_at_call 30; refine (eqPrgProg ca18 ca43 n0 n0 cc18 cc43 ps0 ps0 _ (RdL.grew stays_prc (prg_rd O18.out hq1818.out) (grew_ext (grew_d (Below.refl _ _)) _)) R43.out hn0 hn0).mono ?_; rintro e w2 ⟨rfl, g46⟩; obtain ⟨y46, rfl⟩ := ext_col g46; clear g46))
  clear R43
  obtain ⟨w45, hw2⟩ : ∃ X, ext (w40).drew y46 = X := ⟨_, rfl⟩
  rw [hw2]
  have g146 : Grew w40 w45 := by rw [← hw2]; exact grew_ext (grew_d (Below.refl _ _)) _
  clear hw2
  have GG47 : Grew w40 w45 := g146
  clear la0 qa0_0
  clear la2 qa2_0 qa2_1 qa2_2 qa2_3 qa2_4 qa2_5 qa2_6 qa2_7
  clear la4 qa4_0 qa4_1 qa4_2 qa4_3
  clear lx0 qx0_0
  clear lx4 qx4_0 qx4_1 qx4_2 qx4_3
  have O14 := Lib.hid (OwnEN.grew O14.out GG47)
  have O18 := Lib.hid (OwnP.grew O18.out GG47)
  have O22 := Lib.hid (owns_grew O22.out GG47)
  have O26 := Lib.hid (owns_grew O26.out GG47)
  have O35 := Lib.hid (OwnEN.grew O35.out GG47)
  have Ba0 := Lib.hid (Ba0.out.grew GG47)
  have Ba2 := Lib.hid (Ba2.out.grew GG47)
  have Ba4 := Lib.hid (Ba4.out.grew GG47)
  have Bx0 := Lib.hid (Bx0.out.grew GG47)
  have Bx4 := Lib.hid (Bx4.out.grew GG47)
  have s48 : w40.heap.size ≤ w45.heap.size := GG47.size
  have BW := Lib.hid (grew_tr BW.out GG47)
  clear GG47 g146
  have la0 := Ba0.out.1
  have qa0_0 : w45.cell? ⟨w.heap.size, 0, none⟩ = some (.slice a0 n0 c0) := Ba0.out.2 0 _ rfl
  have la2 := Ba2.out.1
  obtain ⟨qa2_0, qa2_1, qa2_2, qa2_3, qa2_4, qa2_5, qa2_6, qa2_7⟩ := bx8 Ba2.out
  have la4 := Ba4.out.1
  obtain ⟨qa4_0, qa4_1, qa4_2, qa4_3⟩ := bx4 Ba4.out
  have lx0 := Bx0.out.1
  have qx0_0 : w45.cell? ⟨w19.heap.size, 0, none⟩ = some (.slice ca18 n0 cc18) := Bx0.out.2 0 _ rfl
  have lx4 := Bx4.out.1
  obtain ⟨qx4_0, qx4_1, qx4_2, qx4_3⟩ := bx4 Bx4.out
  go_wp2_with fail
  refine (toSumSumS a1 n1 c1 ss1 _ (HR1.out.grew staysSum (BW.out)) hz1).mono ?_
  rintro e w50 ⟨v49, rfl, o49, g49⟩
  obtain ⟨ca49, cc49, rfl⟩ := owns_slice o49
  have pp := o49.lt
  try simp only [World.size_alloc] at pp
  have P49 := Lib.hid pp; clear pp
  have GG51 : Grew w45 w50 := g49
  clear la0 qa0_0
  clear la2 qa2_0 qa2_1 qa2_2 qa2_3 qa2_4 qa2_5 qa2_6 qa2_7
  clear la4 qa4_0 qa4_1 qa4_2 qa4_3
  clear lx0 qx0_0
  clear lx4 qx4_0 qx4_1 qx4_2 qx4_3
  have O14 := Lib.hid (OwnEN.grew O14.out GG51)
  have O18 := Lib.hid (OwnP.grew O18.out GG51)
  have O22 := Lib.hid (owns_grew O22.out GG51)
  have O26 := Lib.hid (owns_grew O26.out GG51)
  have O35 := Lib.hid (OwnEN.grew O35.out GG51)
  have Ba0 := Lib.hid (Ba0.out.grew GG51)
  have Ba2 := Lib.hid (Ba2.out.grew GG51)
  have Ba4 := Lib.hid (Ba4.out.grew GG51)
  have Bx0 := Lib.hid (Bx0.out.grew GG51)
  have Bx4 := Lib.hid (Bx4.out.grew GG51)
  have s52 : w45.heap.size ≤ w50.heap.size := GG51.size
  have BW := Lib.hid (grew_tr BW.out GG51)
  clear GG51 g49
  have la0 := Ba0.out.1
  have qa0_0 : w50.cell? ⟨w.heap.size, 0, none⟩ = some (.slice a0 n0 c0) := Ba0.out.2 0 _ rfl
  have la2 := Ba2.out.1
  obtain ⟨qa2_0, qa2_1, qa2_2, qa2_3, qa2_4, qa2_5, qa2_6, qa2_7⟩ := bx8 Ba2.out
  have la4 := Ba4.out.1
  obtain ⟨qa4_0, qa4_1, qa4_2, qa4_3⟩ := bx4 Ba4.out
  have lx0 := Bx0.out.1
  have qx0_0 : w50.cell? ⟨w19.heap.size, 0, none⟩ = some (.slice ca18 n0 cc18) := Bx0.out.2 0 _ rfl
  have lx4 := Bx4.out.1
  obtain ⟨qx4_0, qx4_1, qx4_2, qx4_3⟩ := bx4 Bx4.out
  have O49 := Lib.hid o49; clear o49
  go_wp2_with fail
  have C := fun W h h2 => eqSumSumS ca22 ca49 n1 n1 cc22 cc49 ss1 ss1 W h h2 hn1 hn1
  simp only [decide_true] at C
  have HC := Lib.hid C; clear C
  refine (HC.out _ (rdSum_of_own hln1.out O22.out) (rdSum_of_own hln1.out O49.out)).mono ?_
  rintro e w54 ⟨rfl, g53⟩
  clear HC
  have GG55 : Grew w50 w54 := g53
  clear la0 qa0_0
  clear la2 qa2_0 qa2_1 qa2_2 qa2_3 qa2_4 qa2_5 qa2_6 qa2_7
  clear la4 qa4_0 qa4_1 qa4_2 qa4_3
  clear lx0 qx0_0
  clear lx4 qx4_0 qx4_1 qx4_2 qx4_3
  have O14 := Lib.hid (OwnEN.grew O14.out GG55)
  have O18 := Lib.hid (OwnP.grew O18.out GG55)
  have O22 := Lib.hid (owns_grew O22.out GG55)
  have O26 := Lib.hid (owns_grew O26.out GG55)
  have O35 := Lib.hid (OwnEN.grew O35.out GG55)
  have O49 := Lib.hid (owns_grew O49.out GG55)
  have Ba0 := Lib.hid (Ba0.out.grew GG55)
  have Ba2 := Lib.hid (Ba2.out.grew GG55)
  have Ba4 := Lib.hid (Ba4.out.grew GG55)
  have Bx0 := Lib.hid (Bx0.out.grew GG55)
  have Bx4 := Lib.hid (Bx4.out.grew GG55)
  have s56 : w50.heap.size ≤ w54.heap.size := GG55.size
  have BW := Lib.hid (grew_tr BW.out GG55)
  clear GG55 g53
  have la0 := Ba0.out.1
  have qa0_0 : w54.cell? ⟨w.heap.size, 0, none⟩ = some (.slice a0 n0 c0) := Ba0.out.2 0 _ rfl
  have la2 := Ba2.out.1
  obtain ⟨qa2_0, qa2_1, qa2_2, qa2_3, qa2_4, qa2_5, qa2_6, qa2_7⟩ := bx8 Ba2.out
  have la4 := Ba4.out.1
  obtain ⟨qa4_0, qa4_1, qa4_2, qa4_3⟩ := bx4 Ba4.out
  have lx0 := Bx0.out.1
  have qx0_0 : w54.cell? ⟨w19.heap.size, 0, none⟩ = some (.slice ca18 n0 cc18) := Bx0.out.2 0 _ rfl
  have lx4 := Bx4.out.1
  obtain ⟨qx4_0, qx4_1, qx4_2, qx4_3⟩ := bx4 Bx4.out
  clear O49 P49
  go_wp2_with fail
  go_region_held3 (fun W => W.cell? ⟨w.heap.size + 2, 0, none⟩ = some (.bool on4) ∧ W.cell? ⟨w.heap.size + 2, 1, none⟩ = some (.slice a4 n4 c4) ∧ W.cell? ⟨w.heap.size + 2, 2, none⟩ = some (.int .i64 lo4) ∧ W.cell? ⟨w.heap.size + 2, 3, none⟩ = some (.int .i64 hi4) ∧ W.cell? ⟨w27.heap.size, 0, none⟩ = some (.bool on4) ∧ W.cell? ⟨w27.heap.size, 1, none⟩ = some (.slice ca26 n4 cc26) ∧ W.cell? ⟨w27.heap.size, 2, none⟩ = some (.int .i64 lo4) ∧ W.cell? ⟨w27.heap.size, 3, none⟩ = some (.int .i64 hi4)) (first | assumption | exact ⟨qa4_0, qa4_1, qa4_2, qa4_3, qx4_0, qx4_1, qx4_2, qx4_3⟩ | exact ⟨(ext_cellD _ _ ⟨w.heap.size + 2, 0, none⟩ la4).trans qa4_0, (ext_cellD _ _ ⟨w.heap.size + 2, 1, none⟩ la4).trans qa4_1, (ext_cellD _ _ ⟨w.heap.size + 2, 2, none⟩ la4).trans qa4_2, (ext_cellD _ _ ⟨w.heap.size + 2, 3, none⟩ la4).trans qa4_3, (ext_cellD _ _ ⟨w27.heap.size, 0, none⟩ lx4).trans qx4_0, (ext_cellD _ _ ⟨w27.heap.size, 1, none⟩ lx4).trans qx4_1, (ext_cellD _ _ ⟨w27.heap.size, 2, none⟩ lx4).trans qx4_2, (ext_cellD _ _ ⟨w27.heap.size, 3, none⟩ lx4).trans qx4_3⟩)
    (first
    | (go_at_call 28; refine (toAbsState on4 a4 n4 c4 xs4 lo4 hi4 _ (HR4.out.grew staysItv (grew_d BW.out)) hz4).mono ?_; rintro e w2 ⟨ca57, cc57, rfl, o57, g57⟩; have hcap57 := (owns_cap o57).1; have R57 := Lib.hid (rdItv_of_own hln4.out o57); clear o57; obtain ⟨y57, rfl⟩ := ext_of g57; clear g57)
    | (go_at_call 32; refine (eqAbsState on4 on4 ca26 ca57 n4 n4 cc26 cc57 xs4 xs4 lo4 hi4 lo4 hi4 _ (RdL.grew staysItv (rdItv_of_own hln4.out O26.out) (grew_ext (grew_d (Below.refl _ _)) _)) R57.out hn4 hn4).mono ?_; rintro e w2 ⟨rfl, g60⟩; obtain ⟨y60, rfl⟩ := ext_col g60; clear g60))
  clear R57 hcap57
  obtain ⟨w59, hw2⟩ : ∃ X, ext (w54).drew y60 = X := ⟨_, rfl⟩
  rw [hw2]
  have g160 : Grew w54 w59 := by rw [← hw2]; exact grew_ext (grew_d (Below.refl _ _)) _
  clear hw2
  have GG61 : Grew w54 w59 := g160
  clear la0 qa0_0
  clear la2 qa2_0 qa2_1 qa2_2 qa2_3 qa2_4 qa2_5 qa2_6 qa2_7
  clear la4 qa4_0 qa4_1 qa4_2 qa4_3
  clear lx0 qx0_0
  clear lx4 qx4_0 qx4_1 qx4_2 qx4_3
  have O14 := Lib.hid (OwnEN.grew O14.out GG61)
  have O18 := Lib.hid (OwnP.grew O18.out GG61)
  have O22 := Lib.hid (owns_grew O22.out GG61)
  have O26 := Lib.hid (owns_grew O26.out GG61)
  have O35 := Lib.hid (OwnEN.grew O35.out GG61)
  have Ba0 := Lib.hid (Ba0.out.grew GG61)
  have Ba2 := Lib.hid (Ba2.out.grew GG61)
  have Ba4 := Lib.hid (Ba4.out.grew GG61)
  have Bx0 := Lib.hid (Bx0.out.grew GG61)
  have Bx4 := Lib.hid (Bx4.out.grew GG61)
  have s62 : w54.heap.size ≤ w59.heap.size := GG61.size
  have BW := Lib.hid (grew_tr BW.out GG61)
  clear GG61 g160
  have la0 := Ba0.out.1
  have qa0_0 : w59.cell? ⟨w.heap.size, 0, none⟩ = some (.slice a0 n0 c0) := Ba0.out.2 0 _ rfl
  have la2 := Ba2.out.1
  obtain ⟨qa2_0, qa2_1, qa2_2, qa2_3, qa2_4, qa2_5, qa2_6, qa2_7⟩ := bx8 Ba2.out
  have la4 := Ba4.out.1
  obtain ⟨qa4_0, qa4_1, qa4_2, qa4_3⟩ := bx4 Ba4.out
  have lx0 := Bx0.out.1
  have qx0_0 : w59.cell? ⟨w19.heap.size, 0, none⟩ = some (.slice ca18 n0 cc18) := Bx0.out.2 0 _ rfl
  have lx4 := Bx4.out.1
  obtain ⟨qx4_0, qx4_1, qx4_2, qx4_3⟩ := bx4 Bx4.out
  go_wp2_with fail
  refine (markPrgProgB ca18 n0 cc18 1 _ _ _ _ O18.out P18.out (by omega) (by omega) (fun m hm => hyy0.out m.1 (by rw [← hq1818.out]; exact List.mem_map_of_mem hm))).mono ?_
  rintro e w64 ⟨K63, rfl, hKb63, c63⟩
  clear O18
  clear la0 qa0_0
  clear la2 qa2_0 qa2_1 qa2_2 qa2_3 qa2_4 qa2_5 qa2_6 qa2_7
  clear la4 qa4_0 qa4_1 qa4_2 qa4_3
  clear lx0 qx0_0
  clear lx4 qx4_0 qx4_1 qx4_2 qx4_3
  have O14 := Lib.hid (OwnEN.chg O14.out c63 (fun b hb hb2 hF => by obtain ⟨h2, h3⟩ := hF; (first | omega | (simp only [World.size_alloc] at *; omega))))
  have O22 := Lib.hid (owns_chg O22.out c63 (fun b hb hF => by have h1 := P22.out b hb; obtain ⟨h2, h3⟩ := hF; (first | omega | (simp only [World.size_alloc] at *; omega))))
  have O26 := Lib.hid (owns_chg O26.out c63 (fun b hb hF => by have h1 := P26.out b hb; obtain ⟨h2, h3⟩ := hF; (first | omega | (simp only [World.size_alloc] at *; omega))))
  have O35 := Lib.hid (OwnEN.chg O35.out c63 (fun b hb hb2 hF => by obtain ⟨h2, h3⟩ := hF; (first | omega | (simp only [World.size_alloc] at *; omega))))
  have Ba0 := Lib.hid (Ba0.out.chg c63 (fun hF => by obtain ⟨h2, h3⟩ := hF; (first | omega | (simp only [World.size_alloc] at *; omega))))
  have Ba2 := Lib.hid (Ba2.out.chg c63 (fun hF => by obtain ⟨h2, h3⟩ := hF; (first | omega | (simp only [World.size_alloc] at *; omega))))
  have Ba4 := Lib.hid (Ba4.out.chg c63 (fun hF => by obtain ⟨h2, h3⟩ := hF; (first | omega | (simp only [World.size_alloc] at *; omega))))
  have Bx0 := Lib.hid (Bx0.out.chg c63 (fun hF => by obtain ⟨h2, h3⟩ := hF; (first | omega | (simp only [World.size_alloc] at *; omega))))
  have Bx4 := Lib.hid (Bx4.out.chg c63 (fun hF => by obtain ⟨h2, h3⟩ := hF; (first | omega | (simp only [World.size_alloc] at *; omega))))
  have s65 : w59.heap.size ≤ w64.heap.size := c63.size
  have BW := Lib.hid (BW.out.trans (c63.belowB BW.out.size (fun b hF => by obtain ⟨h2, h3⟩ := hF; (first | omega | (simp only [World.size_alloc] at *; omega)))))
  clear c63
  have la0 := Ba0.out.1
  have qa0_0 : w64.cell? ⟨w.heap.size, 0, none⟩ = some (.slice a0 n0 c0) := Ba0.out.2 0 _ rfl
  have la2 := Ba2.out.1
  obtain ⟨qa2_0, qa2_1, qa2_2, qa2_3, qa2_4, qa2_5, qa2_6, qa2_7⟩ := bx8 Ba2.out
  have la4 := Ba4.out.1
  obtain ⟨qa4_0, qa4_1, qa4_2, qa4_3⟩ := bx4 Ba4.out
  have lx0 := Bx0.out.1
  have qx0_0 : w64.cell? ⟨w19.heap.size, 0, none⟩ = some (.slice ca18 n0 cc18) := Bx0.out.2 0 _ rfl
  have lx4 := Bx4.out.1
  obtain ⟨qx4_0, qx4_1, qx4_2, qx4_3⟩ := bx4 Bx4.out
  go_wp2_with fail
  refine (markSumSumS ca22 n1 cc22 K63 _ _ _ O22.out (by omega) (by omega)).mono ?_
  rintro e w67 ⟨rfl, o66, c66⟩
  clear o66
  clear O22
  clear la0 qa0_0
  clear la2 qa2_0 qa2_1 qa2_2 qa2_3 qa2_4 qa2_5 qa2_6 qa2_7
  clear la4 qa4_0 qa4_1 qa4_2 qa4_3
  clear lx0 qx0_0
  clear lx4 qx4_0 qx4_1 qx4_2 qx4_3
  have O14 := Lib.hid (OwnEN.chg O14.out c66 (fun b hb hb2 hF => by have h2 := P22.out _ hF; omega))
  have O26 := Lib.hid (owns_chg O26.out c66 (fun b hb hF => by have h1 := P26.out b hb; have h2 := P22.out _ hF; omega))
  have O35 := Lib.hid (OwnEN.chg O35.out c66 (fun b hb hb2 hF => by have h2 := P22.out _ hF; omega))
  have Ba0 := Lib.hid (Ba0.out.chg c66 (fun hF => by have h2 := P22.out _ hF; omega))
  have Ba2 := Lib.hid (Ba2.out.chg c66 (fun hF => by have h2 := P22.out _ hF; omega))
  have Ba4 := Lib.hid (Ba4.out.chg c66 (fun hF => by have h2 := P22.out _ hF; omega))
  have Bx0 := Lib.hid (Bx0.out.chg c66 (fun hF => by have h2 := P22.out _ hF; omega))
  have Bx4 := Lib.hid (Bx4.out.chg c66 (fun hF => by have h2 := P22.out _ hF; omega))
  have s68 : w64.heap.size ≤ w67.heap.size := c66.size
  have BW := Lib.hid (BW.out.trans (c66.belowB BW.out.size (fun b hF => by have h2 := P22.out _ hF; omega)))
  clear c66
  have la0 := Ba0.out.1
  have qa0_0 : w67.cell? ⟨w.heap.size, 0, none⟩ = some (.slice a0 n0 c0) := Ba0.out.2 0 _ rfl
  have la2 := Ba2.out.1
  obtain ⟨qa2_0, qa2_1, qa2_2, qa2_3, qa2_4, qa2_5, qa2_6, qa2_7⟩ := bx8 Ba2.out
  have la4 := Ba4.out.1
  obtain ⟨qa4_0, qa4_1, qa4_2, qa4_3⟩ := bx4 Ba4.out
  have lx0 := Bx0.out.1
  have qx0_0 : w67.cell? ⟨w19.heap.size, 0, none⟩ = some (.slice ca18 n0 cc18) := Bx0.out.2 0 _ rfl
  have lx4 := Bx4.out.1
  obtain ⟨qx4_0, qx4_1, qx4_2, qx4_3⟩ := bx4 Bx4.out
  go_wp2_with fail
  refine (markAbsState on4 ca26 n4 cc26 lo4 hi4 (K63 + n1 * 3) _ _ _ O26.out (by omega) (by omega)).mono ?_
  rintro e w70 ⟨rfl, o69, c69⟩
  clear o69
  clear O26
  clear la0 qa0_0
  clear la2 qa2_0 qa2_1 qa2_2 qa2_3 qa2_4 qa2_5 qa2_6 qa2_7
  clear la4 qa4_0 qa4_1 qa4_2 qa4_3
  clear lx0 qx0_0
  clear lx4 qx4_0 qx4_1 qx4_2 qx4_3
  have O14 := Lib.hid (OwnEN.chg O14.out c69 (fun b hb hb2 hF => by have h2 := P26.out _ hF; omega))
  have O35 := Lib.hid (OwnEN.chg O35.out c69 (fun b hb hb2 hF => by have h2 := P26.out _ hF; omega))
  have Ba0 := Lib.hid (Ba0.out.chg c69 (fun hF => by have h2 := P26.out _ hF; omega))
  have Ba2 := Lib.hid (Ba2.out.chg c69 (fun hF => by have h2 := P26.out _ hF; omega))
  have Ba4 := Lib.hid (Ba4.out.chg c69 (fun hF => by have h2 := P26.out _ hF; omega))
  have Bx0 := Lib.hid (Bx0.out.chg c69 (fun hF => by have h2 := P26.out _ hF; omega))
  have Bx4 := Lib.hid (Bx4.out.chg c69 (fun hF => by have h2 := P26.out _ hF; omega))
  have s71 : w67.heap.size ≤ w70.heap.size := c69.size
  have BW := Lib.hid (BW.out.trans (c69.belowB BW.out.size (fun b hF => by have h2 := P26.out _ hF; omega)))
  clear c69
  have la0 := Ba0.out.1
  have qa0_0 : w70.cell? ⟨w.heap.size, 0, none⟩ = some (.slice a0 n0 c0) := Ba0.out.2 0 _ rfl
  have la2 := Ba2.out.1
  obtain ⟨qa2_0, qa2_1, qa2_2, qa2_3, qa2_4, qa2_5, qa2_6, qa2_7⟩ := bx8 Ba2.out
  have la4 := Ba4.out.1
  obtain ⟨qa4_0, qa4_1, qa4_2, qa4_3⟩ := bx4 Ba4.out
  have lx0 := Bx0.out.1
  have qx0_0 : w70.cell? ⟨w19.heap.size, 0, none⟩ = some (.slice ca18 n0 cc18) := Bx0.out.2 0 _ rfl
  have lx4 := Bx4.out.1
  obtain ⟨qx4_0, qx4_1, qx4_2, qx4_3⟩ := bx4 Bx4.out
  go_wp2_with fail
  refine (eqAbsEdgeST ca35 ca14 cc35 cc14 S _ (O35.out.o.rd M35.out hS4.out) (O14.out.o.rd M14.out hS4.out) (by omega)).mono ?_
  rintro e w73 ⟨rfl, g72⟩
  have GG74 : Grew w70 w73 := g72
  clear la0 qa0_0
  clear la2 qa2_0 qa2_1 qa2_2 qa2_3 qa2_4 qa2_5 qa2_6 qa2_7
  clear la4 qa4_0 qa4_1 qa4_2 qa4_3
  clear lx0 qx0_0
  clear lx4 qx4_0 qx4_1 qx4_2 qx4_3
  have O14 := Lib.hid (OwnEN.grew O14.out GG74)
  have O35 := Lib.hid (OwnEN.grew O35.out GG74)
  have Ba0 := Lib.hid (Ba0.out.grew GG74)
  have Ba2 := Lib.hid (Ba2.out.grew GG74)
  have Ba4 := Lib.hid (Ba4.out.grew GG74)
  have Bx0 := Lib.hid (Bx0.out.grew GG74)
  have Bx4 := Lib.hid (Bx4.out.grew GG74)
  have s75 : w70.heap.size ≤ w73.heap.size := GG74.size
  have BW := Lib.hid (grew_tr BW.out GG74)
  clear GG74 g72
  have la0 := Ba0.out.1
  have qa0_0 : w73.cell? ⟨w.heap.size, 0, none⟩ = some (.slice a0 n0 c0) := Ba0.out.2 0 _ rfl
  have la2 := Ba2.out.1
  obtain ⟨qa2_0, qa2_1, qa2_2, qa2_3, qa2_4, qa2_5, qa2_6, qa2_7⟩ := bx8 Ba2.out
  have la4 := Ba4.out.1
  obtain ⟨qa4_0, qa4_1, qa4_2, qa4_3⟩ := bx4 Ba4.out
  have lx0 := Bx0.out.1
  have qx0_0 : w73.cell? ⟨w19.heap.size, 0, none⟩ = some (.slice ca18 n0 cc18) := Bx0.out.2 0 _ rfl
  have lx4 := Bx4.out.1
  obtain ⟨qx4_0, qx4_1, qx4_2, qx4_3⟩ := bx4 Bx4.out
  have OG35 := Lib.hid (OwnG.ofN O35.out A35.out (fun m hm => hS4.out m.1 (by rw [← M35.out]; exact List.mem_map_of_mem hm)))
  have GL35 := Lib.hid (show (ms35.map egOf).length = S.length from by rw [List.length_map, ← M35.out, List.length_map])
  obtain ⟨KK, hKK⟩ : ∃ K, 1 + 12 * S.length = K := ⟨_, rfl⟩
  have HKK := Lib.hid hKK; clear hKK
  clear O35 A35
  go_wp2_with fail
  refine (markAbsEdgeS ca35 S.length cc35 1 (ms35.map egOf) _ _ _ OG35.out GL35.out (by omega) (by omega)).mono ?_
  rintro e w77 ⟨rfl, o76, c76⟩
  rw [HKK.out]
  clear OG35
  clear la0 qa0_0
  clear la2 qa2_0 qa2_1 qa2_2 qa2_3 qa2_4 qa2_5 qa2_6 qa2_7
  clear la4 qa4_0 qa4_1 qa4_2 qa4_3
  clear lx0 qx0_0
  clear lx4 qx4_0 qx4_1 qx4_2 qx4_3
  have O14 := Lib.hid (OwnEN.chg O14.out c76 (fun b hb hb2 hF => by obtain ⟨h2, h3⟩ := hF; (first | omega | (simp only [World.size_alloc] at *; omega))))
  have Ba0 := Lib.hid (Ba0.out.chg c76 (fun hF => by obtain ⟨h2, h3⟩ := hF; (first | omega | (simp only [World.size_alloc] at *; omega))))
  have Ba2 := Lib.hid (Ba2.out.chg c76 (fun hF => by obtain ⟨h2, h3⟩ := hF; (first | omega | (simp only [World.size_alloc] at *; omega))))
  have Ba4 := Lib.hid (Ba4.out.chg c76 (fun hF => by obtain ⟨h2, h3⟩ := hF; (first | omega | (simp only [World.size_alloc] at *; omega))))
  have Bx0 := Lib.hid (Bx0.out.chg c76 (fun hF => by obtain ⟨h2, h3⟩ := hF; (first | omega | (simp only [World.size_alloc] at *; omega))))
  have Bx4 := Lib.hid (Bx4.out.chg c76 (fun hF => by obtain ⟨h2, h3⟩ := hF; (first | omega | (simp only [World.size_alloc] at *; omega))))
  have s78 : w73.heap.size ≤ w77.heap.size := c76.size
  have BW := Lib.hid (BW.out.trans (c76.belowB BW.out.size (fun b hF => by obtain ⟨h2, h3⟩ := hF; (first | omega | (simp only [World.size_alloc] at *; omega)))))
  clear c76
  have la0 := Ba0.out.1
  have qa0_0 : w77.cell? ⟨w.heap.size, 0, none⟩ = some (.slice a0 n0 c0) := Ba0.out.2 0 _ rfl
  have la2 := Ba2.out.1
  obtain ⟨qa2_0, qa2_1, qa2_2, qa2_3, qa2_4, qa2_5, qa2_6, qa2_7⟩ := bx8 Ba2.out
  have la4 := Ba4.out.1
  obtain ⟨qa4_0, qa4_1, qa4_2, qa4_3⟩ := bx4 Ba4.out
  have lx0 := Bx0.out.1
  have qx0_0 : w77.cell? ⟨w19.heap.size, 0, none⟩ = some (.slice ca18 n0 cc18) := Bx0.out.2 0 _ rfl
  have lx4 := Bx4.out.1
  obtain ⟨qx4_0, qx4_1, qx4_2, qx4_3⟩ := bx4 Bx4.out
  have O35 := Lib.hid o76; clear o76
  go_wp2_with fail
  refine (heldAbsEdgeS ca35 S.length cc35 1 (ms35.map egOf) _ _ _ O35.out GL35.out (by omega) (by omega)).mono ?_
  rintro e w80 ⟨rfl, g79⟩
  rw [HKK.out]
  have GG81 : Grew w77 w80 := g79
  clear la0 qa0_0
  clear la2 qa2_0 qa2_1 qa2_2 qa2_3 qa2_4 qa2_5 qa2_6 qa2_7
  clear la4 qa4_0 qa4_1 qa4_2 qa4_3
  clear lx0 qx0_0
  clear lx4 qx4_0 qx4_1 qx4_2 qx4_3
  have O14 := Lib.hid (OwnEN.grew O14.out GG81)
  have O35 := Lib.hid (OwnG.grew O35.out GG81)
  have Ba0 := Lib.hid (Ba0.out.grew GG81)
  have Ba2 := Lib.hid (Ba2.out.grew GG81)
  have Ba4 := Lib.hid (Ba4.out.grew GG81)
  have Bx0 := Lib.hid (Bx0.out.grew GG81)
  have Bx4 := Lib.hid (Bx4.out.grew GG81)
  have s82 : w77.heap.size ≤ w80.heap.size := GG81.size
  have BW := Lib.hid (grew_tr BW.out GG81)
  clear GG81 g79
  have la0 := Ba0.out.1
  have qa0_0 : w80.cell? ⟨w.heap.size, 0, none⟩ = some (.slice a0 n0 c0) := Ba0.out.2 0 _ rfl
  have la2 := Ba2.out.1
  obtain ⟨qa2_0, qa2_1, qa2_2, qa2_3, qa2_4, qa2_5, qa2_6, qa2_7⟩ := bx8 Ba2.out
  have la4 := Ba4.out.1
  obtain ⟨qa4_0, qa4_1, qa4_2, qa4_3⟩ := bx4 Ba4.out
  have lx0 := Bx0.out.1
  have qx0_0 : w80.cell? ⟨w19.heap.size, 0, none⟩ = some (.slice ca18 n0 cc18) := Bx0.out.2 0 _ rfl
  have lx4 := Bx4.out.1
  obtain ⟨qx4_0, qx4_1, qx4_2, qx4_3⟩ := bx4 Bx4.out
  go_wp2_with fail
  go_region_held3 (fun W => W.cell? ⟨w.heap.size, 0, none⟩ = some (.slice a0 n0 c0) ∧ W.cell? ⟨w.heap.size + 1, 0, none⟩ = some (.int .i64 op2) ∧ W.cell? ⟨w.heap.size + 1, 1, none⟩ = some (.int .i64 d2) ∧ W.cell? ⟨w.heap.size + 1, 2, none⟩ = some (.int .i64 a2) ∧ W.cell? ⟨w.heap.size + 1, 3, none⟩ = some (.int .i64 b2) ∧ W.cell? ⟨w.heap.size + 1, 4, none⟩ = some (.int .i64 rel2) ∧ W.cell? ⟨w.heap.size + 1, 5, none⟩ = some (.int .i64 lo2) ∧ W.cell? ⟨w.heap.size + 1, 6, none⟩ = some (.int .i64 hi2) ∧ W.cell? ⟨w.heap.size + 1, 7, none⟩ = some (.int .i64 to2) ∧ W.cell? ⟨w.heap.size + 2, 0, none⟩ = some (.bool on4) ∧ W.cell? ⟨w.heap.size + 2, 1, none⟩ = some (.slice a4 n4 c4) ∧ W.cell? ⟨w.heap.size + 2, 2, none⟩ = some (.int .i64 lo4) ∧ W.cell? ⟨w.heap.size + 2, 3, none⟩ = some (.int .i64 hi4)) (first | with_reducible assumption | exact ⟨qa0_0, qa2_0, qa2_1, qa2_2, qa2_3, qa2_4, qa2_5, qa2_6, qa2_7, qa4_0, qa4_1, qa4_2, qa4_3⟩ | exact ⟨(ext_cellD _ _ ⟨w.heap.size, 0, none⟩ la0).trans qa0_0, (ext_cellD _ _ ⟨w.heap.size + 1, 0, none⟩ la2).trans qa2_0, (ext_cellD _ _ ⟨w.heap.size + 1, 1, none⟩ la2).trans qa2_1, (ext_cellD _ _ ⟨w.heap.size + 1, 2, none⟩ la2).trans qa2_2, (ext_cellD _ _ ⟨w.heap.size + 1, 3, none⟩ la2).trans qa2_3, (ext_cellD _ _ ⟨w.heap.size + 1, 4, none⟩ la2).trans qa2_4, (ext_cellD _ _ ⟨w.heap.size + 1, 5, none⟩ la2).trans qa2_5, (ext_cellD _ _ ⟨w.heap.size + 1, 6, none⟩ la2).trans qa2_6, (ext_cellD _ _ ⟨w.heap.size + 1, 7, none⟩ la2).trans qa2_7, (ext_cellD _ _ ⟨w.heap.size + 2, 0, none⟩ la4).trans qa4_0, (ext_cellD _ _ ⟨w.heap.size + 2, 1, none⟩ la4).trans qa4_1, (ext_cellD _ _ ⟨w.heap.size + 2, 2, none⟩ la4).trans qa4_2, (ext_cellD _ _ ⟨w.heap.size + 2, 3, none⟩ la4).trans qa4_3⟩)
    (first
    | (go_at_call 25; refine (toPrgProg a0 n0 c0 ps0 _ (HR0.out.grew (grew_d BW.out)) hz0 hyy0.out).mono ?_; rintro e w2 ⟨v83, ms83, rfl, o83, hm83, g83⟩; obtain ⟨ca83, cc83, rfl⟩ := owns_slice o83.2.1; have R83 := Lib.hid (prg_rd o83 hm83); clear o83 hm83; obtain ⟨y83, rfl⟩ := ext_of g83; clear g83)
    | (go_at_call 26; refine (toSumSumS a1 n1 c1 ss1 _ (HR1.out.grew staysSum (grew_ext (grew_d BW.out) _)) hz1).mono ?_; rintro e w2 ⟨v84, rfl, o84, g84⟩; obtain ⟨ca84, cc84, rfl⟩ := owns_slice o84; have R84 := Lib.hid (rdSum_of_own hln1.out o84); clear o84; have R83 := Lib.hid (RdL.grew stays_prc R83.out g84); obtain ⟨y84, rfl⟩ := ext_col g84; clear g84)
    | (go_at_call 27; refine (toInsIns ⟨op2, d2, a2, b2, rel2, lo2, hi2, to2⟩ _).mono ?_; rintro e w2 ⟨rfl, g85⟩; have R83 := Lib.hid (RdL.grew stays_prc R83.out g85); have R84 := Lib.hid (RdL.grew staysSum R84.out g85); obtain ⟨y85, rfl⟩ := ext_col g85; clear g85)
    | (go_at_call 28; refine (toAbsState on4 a4 n4 c4 xs4 lo4 hi4 _ (HR4.out.grew staysItv (grew_ext (grew_d BW.out) _)) hz4).mono ?_; rintro e w2 ⟨ca86, cc86, rfl, o86, g86⟩; have hcap86 := (owns_cap o86).1; have R86 := Lib.hid (rdItv_of_own hln4.out o86); clear o86; have R83 := Lib.hid (RdL.grew stays_prc R83.out g86); have R84 := Lib.hid (RdL.grew staysSum R84.out g86); obtain ⟨y86, rfl⟩ := ext_col g86; clear g86)
    | (go_at_call 12; refine (retEa_S (implAbsStep ca83 n0 cc83 ps0 ca84 n1 cc84 ss1 ⟨op2, d2, a2, b2, rel2, lo2, hi2, to2⟩ n3 on4 ca86 n4 cc86 xs4 lo4 hi4 _ R83.out hn0 R84.out hn1 R86.out hn4 hcap86) HS.out).mono ?_; rintro e w2 ⟨ca87, cc87, ms87, rfl, oo87, hm87, hap87, g87⟩; have oo87 := OwnE.mono oo87 (show w80.heap.size ≤ _ from (grew_ext (grew_d (Below.refl _ _)) _).size); obtain ⟨y87, rfl⟩ := ext_col g87; clear g87))
  clear R83 R84 R86 hcap86
  obtain ⟨w88, hw2⟩ : ∃ X, ext (w80).drew y87 = X := ⟨_, rfl⟩
  rw [hw2] at oo87 ⊢
  have g187 : Grew w80 w88 := by rw [← hw2]; exact grew_ext (grew_d (Below.refl _ _)) _
  clear hw2
  have o87 := OwnEN.of oo87
  clear oo87
  have M87 := Lib.hid hm87; clear hm87
  have A87 := Lib.hid hap87; clear hap87
  have GG89 : Grew w80 w88 := g187
  clear la0 qa0_0
  clear la2 qa2_0 qa2_1 qa2_2 qa2_3 qa2_4 qa2_5 qa2_6 qa2_7
  clear la4 qa4_0 qa4_1 qa4_2 qa4_3
  clear lx0 qx0_0
  clear lx4 qx4_0 qx4_1 qx4_2 qx4_3
  have O14 := Lib.hid (OwnEN.grew O14.out GG89)
  have O35 := Lib.hid (OwnG.grew O35.out GG89)
  have Ba0 := Lib.hid (Ba0.out.grew GG89)
  have Ba2 := Lib.hid (Ba2.out.grew GG89)
  have Ba4 := Lib.hid (Ba4.out.grew GG89)
  have Bx0 := Lib.hid (Bx0.out.grew GG89)
  have Bx4 := Lib.hid (Bx4.out.grew GG89)
  have s90 : w80.heap.size ≤ w88.heap.size := GG89.size
  have BW := Lib.hid (grew_tr BW.out GG89)
  clear GG89 g187
  have la0 := Ba0.out.1
  have qa0_0 : w88.cell? ⟨w.heap.size, 0, none⟩ = some (.slice a0 n0 c0) := Ba0.out.2 0 _ rfl
  have la2 := Ba2.out.1
  obtain ⟨qa2_0, qa2_1, qa2_2, qa2_3, qa2_4, qa2_5, qa2_6, qa2_7⟩ := bx8 Ba2.out
  have la4 := Ba4.out.1
  obtain ⟨qa4_0, qa4_1, qa4_2, qa4_3⟩ := bx4 Ba4.out
  have lx0 := Bx0.out.1
  have qx0_0 : w88.cell? ⟨w19.heap.size, 0, none⟩ = some (.slice ca18 n0 cc18) := Bx0.out.2 0 _ rfl
  have lx4 := Bx4.out.1
  obtain ⟨qx4_0, qx4_1, qx4_2, qx4_3⟩ := bx4 Bx4.out
  have O87 := Lib.hid o87; clear o87
  go_wp2_with fail
  refine (eqAbsEdgeST ca87 ca14 cc87 cc14 S _ (O87.out.o.rd M87.out hS4.out) (O14.out.o.rd M14.out hS4.out) (by omega)).mono ?_
  rintro e w92 ⟨rfl, g91⟩
  have GG93 : Grew w88 w92 := g91
  clear la0 qa0_0
  clear la2 qa2_0 qa2_1 qa2_2 qa2_3 qa2_4 qa2_5 qa2_6 qa2_7
  clear la4 qa4_0 qa4_1 qa4_2 qa4_3
  clear lx0 qx0_0
  clear lx4 qx4_0 qx4_1 qx4_2 qx4_3
  have O14 := Lib.hid (OwnEN.grew O14.out GG93)
  have O35 := Lib.hid (OwnG.grew O35.out GG93)
  have O87 := Lib.hid (OwnEN.grew O87.out GG93)
  have Ba0 := Lib.hid (Ba0.out.grew GG93)
  have Ba2 := Lib.hid (Ba2.out.grew GG93)
  have Ba4 := Lib.hid (Ba4.out.grew GG93)
  have Bx0 := Lib.hid (Bx0.out.grew GG93)
  have Bx4 := Lib.hid (Bx4.out.grew GG93)
  have s94 : w88.heap.size ≤ w92.heap.size := GG93.size
  have BW := Lib.hid (grew_tr BW.out GG93)
  clear GG93 g91
  have la0 := Ba0.out.1
  have qa0_0 : w92.cell? ⟨w.heap.size, 0, none⟩ = some (.slice a0 n0 c0) := Ba0.out.2 0 _ rfl
  have la2 := Ba2.out.1
  obtain ⟨qa2_0, qa2_1, qa2_2, qa2_3, qa2_4, qa2_5, qa2_6, qa2_7⟩ := bx8 Ba2.out
  have la4 := Ba4.out.1
  obtain ⟨qa4_0, qa4_1, qa4_2, qa4_3⟩ := bx4 Ba4.out
  have lx0 := Bx0.out.1
  have qx0_0 : w92.cell? ⟨w19.heap.size, 0, none⟩ = some (.slice ca18 n0 cc18) := Bx0.out.2 0 _ rfl
  have lx4 := Bx4.out.1
  obtain ⟨qx4_0, qx4_1, qx4_2, qx4_3⟩ := bx4 Bx4.out
  go_wp2_with fail
  refine (heldAbsEdgeS ca35 S.length cc35 1 (ms35.map egOf) _ _ _ O35.out GL35.out (by omega) (by omega)).mono ?_
  rintro e w96 ⟨rfl, g95⟩
  rw [HKK.out]
  have GG97 : Grew w92 w96 := g95
  clear la0 qa0_0
  clear la2 qa2_0 qa2_1 qa2_2 qa2_3 qa2_4 qa2_5 qa2_6 qa2_7
  clear la4 qa4_0 qa4_1 qa4_2 qa4_3
  clear lx0 qx0_0
  clear lx4 qx4_0 qx4_1 qx4_2 qx4_3
  have O14 := Lib.hid (OwnEN.grew O14.out GG97)
  have O35 := Lib.hid (OwnG.grew O35.out GG97)
  have O87 := Lib.hid (OwnEN.grew O87.out GG97)
  have Ba0 := Lib.hid (Ba0.out.grew GG97)
  have Ba2 := Lib.hid (Ba2.out.grew GG97)
  have Ba4 := Lib.hid (Ba4.out.grew GG97)
  have Bx0 := Lib.hid (Bx0.out.grew GG97)
  have Bx4 := Lib.hid (Bx4.out.grew GG97)
  have s98 : w92.heap.size ≤ w96.heap.size := GG97.size
  have BW := Lib.hid (grew_tr BW.out GG97)
  clear GG97 g95
  have la0 := Ba0.out.1
  have qa0_0 : w96.cell? ⟨w.heap.size, 0, none⟩ = some (.slice a0 n0 c0) := Ba0.out.2 0 _ rfl
  have la2 := Ba2.out.1
  obtain ⟨qa2_0, qa2_1, qa2_2, qa2_3, qa2_4, qa2_5, qa2_6, qa2_7⟩ := bx8 Ba2.out
  have la4 := Ba4.out.1
  obtain ⟨qa4_0, qa4_1, qa4_2, qa4_3⟩ := bx4 Ba4.out
  have lx0 := Bx0.out.1
  have qx0_0 : w96.cell? ⟨w19.heap.size, 0, none⟩ = some (.slice ca18 n0 cc18) := Bx0.out.2 0 _ rfl
  have lx4 := Bx4.out.1
  obtain ⟨qx4_0, qx4_1, qx4_2, qx4_3⟩ := bx4 Bx4.out
  go_wp2
  go_ret
  exact ⟨rfl, BW.out⟩
end Go.Proofs.YtpmfpgbpndobpaaGreat