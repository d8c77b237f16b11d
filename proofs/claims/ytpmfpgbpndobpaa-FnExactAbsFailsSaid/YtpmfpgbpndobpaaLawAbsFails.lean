/- The walk of the law FnExactAbsFails, program against reference. No condition. -/
import Derived.Test.YtpmfpgbpndobpaaFailJ
import Derived.Test.YtpmfpgbpndobpaaStT
import Derived.Test.YtpmfpgbpndobpaaState
import Derived.Test.YtpmfpgbpndobpaaEnter
import Derived.Test.YtpmfpgbpndobpaaOpenSt
namespace Go.Proofs.Ytpmfpgbpndobpaa
open Go.RowKit
set_option linter.unusedVariables false
set_option linter.unusedSimpArgs false
attribute [local go_sem] ext_cell ext_frozen ext_lt ext_le ext_le1 lt_s2 lt_s3 lt_s4 lt_s5 lt_s6 ext_lt1 ext_lt2 ext_lt3

set_option maxHeartbeats 8000000 in
theorem lawFnExactAbsFails (a0 : Option Addr) (n0 c0 : Nat) (ps0 : List Prc) (i1 : Ins) (on2 : Bool) (a2 : Option Addr) (n2 c2 : Nat) (xs2 : List Itv) (lo2 hi2 : Int) (w : World) (hr0 : RdP w a0 n0 ps0) (hf0 : PrgWf ps0) (hl0 : n0 ≤ c0) (hm0 : c0 ≤ maxLen) (hf1 : InsWf i1) (hr2 : RdL EItv 2 w a2 n2 xs2) (hf2 : (∀ x, x ∈ xs2 → ItvWf x) ∧ ItvWf ⟨lo2, hi2⟩) (hl2 : n2 ≤ c2) (hm2 : c2 ≤ maxLen) :
    Calls Try.prog 3 #[.agg #[.slice a0 n0 c0], i1.v, .agg #[.bool on2, .slice a2 n2 c2, .int .i64 lo2, .int .i64 hi2]] w fun e w' => e = .returned (.bool true) ∧ Grew w w' := by
  have hn0 : n0 ≤ 9223372036854775807 := by unfold maxLen at hm0; omega
  have HR0 := Lib.hid hr0; clear hr0 hf0 hl0 hm0
  have hq0 : decide (ps0 = ps0) = true := by simp
  obtain ⟨op1, d1, a1, b1, rel1, lo1, hi1, to1⟩ := i1
  clear hf1
  have hn2 : n2 ≤ 9223372036854775807 := by unfold maxLen at hm2; omega
  have hln2 := Lib.hid hr2.len
  have HR2 := Lib.hid hr2; clear hr2 hf2 hl2 hm2
  have hq2 : decide ((⟨on2, xs2, lo2, hi2⟩ : St) = ⟨on2, xs2, lo2, hi2⟩) = true := by simp
  obtain ⟨S, hS⟩ : ∃ S, absFailsB ps0 ⟨op1, d1, a1, b1, rel1, lo1, hi1, to1⟩ on2 xs2 lo2 hi2 = S := ⟨_, rfl⟩
  have HS := Lib.hid hS; clear hS
  have hqS : (S != S) = false := by simp
  have BW : Hid (Grew w w) := Lib.hid (Below.refl _ _)
  go_enter Try.func3, Try.ntmps3
  go_wp2_with fail
  refine (szPrgProg a0 n0 c0 ps0 1048576 _ (HR0.out.grew (grew_tr BW.out (grew_al (grew_al (grew_al (Below.refl _ w) (.cells #[.slice a0 n0 c0] 24)) (.cells #[.int .i64 op1, .int .i64 d1, .int .i64 a1, .int .i64 b1, .int .i64 rel1, .int .i64 lo1, .int .i64 hi1, .int .i64 to1] 26)) (.cells #[.bool on2, .slice a2 n2 c2, .int .i64 lo2, .int .i64 hi2] 31)))) (by omega) (by omega) hn0).mono ?_
  rintro e w1 ⟨z0, rfl, hz, g1⟩
  have GG2 : Grew w w1 := grew_tr (grew_al (grew_al (grew_al (Below.refl _ w) (.cells #[.slice a0 n0 c0] 24)) (.cells #[.int .i64 op1, .int .i64 d1, .int .i64 a1, .int .i64 b1, .int .i64 rel1, .int .i64 lo1, .int .i64 hi1, .int .i64 to1] 26)) (.cells #[.bool on2, .slice a2 n2 c2, .int .i64 lo2, .int .i64 hi2] 31)) g1
  have Ba0 := Lib.hid ((((Boxd.new w 24 #[.slice a0 n0 c0]).grew (grew_al (Below.refl _ _) (.cells #[.int .i64 op1, .int .i64 d1, .int .i64 a1, .int .i64 b1, .int .i64 rel1, .int .i64 lo1, .int .i64 hi1, .int .i64 to1] 26))).grew (grew_al (Below.refl _ _) (.cells #[.bool on2, .slice a2 n2 c2, .int .i64 lo2, .int .i64 hi2] 31))).grew g1)
  have Ba1 : Hid (Boxd w1 (w.heap.size + 1) #[.int .i64 op1, .int .i64 d1, .int .i64 a1, .int .i64 b1, .int .i64 rel1, .int .i64 lo1, .int .i64 hi1, .int .i64 to1]) := Lib.hid (by have hbx := ((Boxd.new (w.alloc (.cells #[.slice a0 n0 c0] 24)) 26 #[.int .i64 op1, .int .i64 d1, .int .i64 a1, .int .i64 b1, .int .i64 rel1, .int .i64 lo1, .int .i64 hi1, .int .i64 to1]).grew (grew_al (Below.refl _ _) (.cells #[.bool on2, .slice a2 n2 c2, .int .i64 lo2, .int .i64 hi2] 31))).grew g1; simpa only [World.size_alloc, Nat.add_assoc, Nat.reduceAdd] using hbx)
  have Ba2 : Hid (Boxd w1 (w.heap.size + 2) #[.bool on2, .slice a2 n2 c2, .int .i64 lo2, .int .i64 hi2]) := Lib.hid (by have hbx := (Boxd.new ((w.alloc (.cells #[.slice a0 n0 c0] 24)).alloc (.cells #[.int .i64 op1, .int .i64 d1, .int .i64 a1, .int .i64 b1, .int .i64 rel1, .int .i64 lo1, .int .i64 hi1, .int .i64 to1] 26)) 31 #[.bool on2, .slice a2 n2 c2, .int .i64 lo2, .int .i64 hi2]).grew g1; simpa only [World.size_alloc, Nat.add_assoc, Nat.reduceAdd] using hbx)
  have s3 : w.heap.size + 3 ≤ w1.heap.size := by have := g1.size; simp only [World.size_alloc, Nat.add_assoc, Nat.reduceAdd] at this; exact this
  have BW := Lib.hid (grew_tr BW.out GG2)
  clear GG2 g1
  have la0 := Ba0.out.1
  have qa0_0 : w1.cell? ⟨w.heap.size, 0, none⟩ = some (.slice a0 n0 c0) := Ba0.out.2 0 _ rfl
  have la1 := Ba1.out.1
  have qa1_0 : w1.cell? ⟨w.heap.size + 1, 0, none⟩ = some (.int .i64 op1) := Ba1.out.2 0 _ rfl
  have qa1_1 : w1.cell? ⟨w.heap.size + 1, 1, none⟩ = some (.int .i64 d1) := Ba1.out.2 1 _ rfl
  have qa1_2 : w1.cell? ⟨w.heap.size + 1, 2, none⟩ = some (.int .i64 a1) := Ba1.out.2 2 _ rfl
  have qa1_3 : w1.cell? ⟨w.heap.size + 1, 3, none⟩ = some (.int .i64 b1) := Ba1.out.2 3 _ rfl
  have qa1_4 : w1.cell? ⟨w.heap.size + 1, 4, none⟩ = some (.int .i64 rel1) := Ba1.out.2 4 _ rfl
  have qa1_5 : w1.cell? ⟨w.heap.size + 1, 5, none⟩ = some (.int .i64 lo1) := Ba1.out.2 5 _ rfl
  have qa1_6 : w1.cell? ⟨w.heap.size + 1, 6, none⟩ = some (.int .i64 hi1) := Ba1.out.2 6 _ rfl
  have qa1_7 : w1.cell? ⟨w.heap.size + 1, 7, none⟩ = some (.int .i64 to1) := Ba1.out.2 7 _ rfl
  have la2 := Ba2.out.1
  have qa2_0 : w1.cell? ⟨w.heap.size + 2, 0, none⟩ = some (.bool on2) := Ba2.out.2 0 _ rfl
  have qa2_1 : w1.cell? ⟨w.heap.size + 2, 1, none⟩ = some (.slice a2 n2 c2) := Ba2.out.2 1 _ rfl
  have qa2_2 : w1.cell? ⟨w.heap.size + 2, 2, none⟩ = some (.int .i64 lo2) := Ba2.out.2 2 _ rfl
  have qa2_3 : w1.cell? ⟨w.heap.size + 2, 3, none⟩ = some (.int .i64 hi2) := Ba2.out.2 3 _ rfl
  rcases hz with rfl | ⟨za, zb, hz0, hy0⟩
  · go_wp2
    go_ret
    exact ⟨rfl, BW.out⟩
  have hyy0 := Lib.hid hy0; clear hy0
  have hzn0 : 0 ≤ z0 := za
  have hzm0 : z0 ≤ 1048576 := by omega
  clear za zb
  have hzl0 : ¬ z0 < 0 := by omega
  have C := fun W => szAbsState on2 a2 n2 c2 lo2 hi2 z0 W (by omega) (by omega) hn2
  by_cases hs2 : z0 < (n2 : Int)
  · rw [if_pos hs2] at C
    have HC := Lib.hid C; clear C hs2
    go_wp2_with fail
    refine (HC.out _).mono ?_
    rintro e w2 ⟨rfl, g2⟩
    have BW := Lib.hid (grew_tr (BW.out) g2)
    go_wp2
    go_ret
    exact ⟨rfl, BW.out⟩
  rw [if_neg hs2] at C
  have hz2 : n2 ≤ 1048576 := by omega
  have hy2 : ¬ z0 - (n2 : Int) < 0 := by omega
  have HC := Lib.hid C; clear C hs2
  go_wp2_with fail
  refine (HC.out _).mono ?_
  rintro e w4 ⟨rfl, g1⟩
  have GG5 : Grew w1 w4 := g1
  clear la0 qa0_0
  clear la1 qa1_0 qa1_1 qa1_2 qa1_3 qa1_4 qa1_5 qa1_6 qa1_7
  clear la2 qa2_0 qa2_1 qa2_2 qa2_3
  have Ba0 := Lib.hid (Ba0.out.grew GG5)
  have Ba1 := Lib.hid (Ba1.out.grew GG5)
  have Ba2 := Lib.hid (Ba2.out.grew GG5)
  have s6 : w1.heap.size ≤ w4.heap.size := GG5.size
  have BW := Lib.hid (grew_tr BW.out GG5)
  clear GG5 g1
  have la0 := Ba0.out.1
  have qa0_0 : w4.cell? ⟨w.heap.size, 0, none⟩ = some (.slice a0 n0 c0) := Ba0.out.2 0 _ rfl
  have la1 := Ba1.out.1
  have qa1_0 : w4.cell? ⟨w.heap.size + 1, 0, none⟩ = some (.int .i64 op1) := Ba1.out.2 0 _ rfl
  have qa1_1 : w4.cell? ⟨w.heap.size + 1, 1, none⟩ = some (.int .i64 d1) := Ba1.out.2 1 _ rfl
  have qa1_2 : w4.cell? ⟨w.heap.size + 1, 2, none⟩ = some (.int .i64 a1) := Ba1.out.2 2 _ rfl
  have qa1_3 : w4.cell? ⟨w.heap.size + 1, 3, none⟩ = some (.int .i64 b1) := Ba1.out.2 3 _ rfl
  have qa1_4 : w4.cell? ⟨w.heap.size + 1, 4, none⟩ = some (.int .i64 rel1) := Ba1.out.2 4 _ rfl
  have qa1_5 : w4.cell? ⟨w.heap.size + 1, 5, none⟩ = some (.int .i64 lo1) := Ba1.out.2 5 _ rfl
  have qa1_6 : w4.cell? ⟨w.heap.size + 1, 6, none⟩ = some (.int .i64 hi1) := Ba1.out.2 6 _ rfl
  have qa1_7 : w4.cell? ⟨w.heap.size + 1, 7, none⟩ = some (.int .i64 to1) := Ba1.out.2 7 _ rfl
  have la2 := Ba2.out.1
  have qa2_0 : w4.cell? ⟨w.heap.size + 2, 0, none⟩ = some (.bool on2) := Ba2.out.2 0 _ rfl
  have qa2_1 : w4.cell? ⟨w.heap.size + 2, 1, none⟩ = some (.slice a2 n2 c2) := Ba2.out.2 1 _ rfl
  have qa2_2 : w4.cell? ⟨w.heap.size + 2, 2, none⟩ = some (.int .i64 lo2) := Ba2.out.2 2 _ rfl
  have qa2_3 : w4.cell? ⟨w.heap.size + 2, 3, none⟩ = some (.int .i64 hi2) := Ba2.out.2 3 _ rfl
  go_wp2_with fail
  go_region_held3 (fun W => W.cell? ⟨w.heap.size, 0, none⟩ = some (.slice a0 n0 c0) ∧ W.cell? ⟨w.heap.size + 1, 0, none⟩ = some (.int .i64 op1) ∧ W.cell? ⟨w.heap.size + 1, 1, none⟩ = some (.int .i64 d1) ∧ W.cell? ⟨w.heap.size + 1, 2, none⟩ = some (.int .i64 a1) ∧ W.cell? ⟨w.heap.size + 1, 3, none⟩ = some (.int .i64 b1) ∧ W.cell? ⟨w.heap.size + 1, 4, none⟩ = some (.int .i64 rel1) ∧ W.cell? ⟨w.heap.size + 1, 5, none⟩ = some (.int .i64 lo1) ∧ W.cell? ⟨w.heap.size + 1, 6, none⟩ = some (.int .i64 hi1) ∧ W.cell? ⟨w.heap.size + 1, 7, none⟩ = some (.int .i64 to1) ∧ W.cell? ⟨w.heap.size + 2, 0, none⟩ = some (.bool on2) ∧ W.cell? ⟨w.heap.size + 2, 1, none⟩ = some (.slice a2 n2 c2) ∧ W.cell? ⟨w.heap.size + 2, 2, none⟩ = some (.int .i64 lo2) ∧ W.cell? ⟨w.heap.size + 2, 3, none⟩ = some (.int .i64 hi2)) (first | assumption | exact ⟨qa0_0, qa1_0, qa1_1, qa1_2, qa1_3, qa1_4, qa1_5, qa1_6, qa1_7, qa2_0, qa2_1, qa2_2, qa2_3⟩ | exact ⟨(ext_cellD _ _ ⟨w.heap.size, 0, none⟩ la0).trans qa0_0, (ext_cellD _ _ ⟨w.heap.size + 1, 0, none⟩ la1).trans qa1_0, (ext_cellD _ _ ⟨w.heap.size + 1, 1, none⟩ la1).trans qa1_1, (ext_cellD _ _ ⟨w.heap.size + 1, 2, none⟩ la1).trans qa1_2, (ext_cellD _ _ ⟨w.heap.size + 1, 3, none⟩ la1).trans qa1_3, (ext_cellD _ _ ⟨w.heap.size + 1, 4, none⟩ la1).trans qa1_4, (ext_cellD _ _ ⟨w.heap.size + 1, 5, none⟩ la1).trans qa1_5, (ext_cellD _ _ ⟨w.heap.size + 1, 6, none⟩ la1).trans qa1_6, (ext_cellD _ _ ⟨w.heap.size + 1, 7, none⟩ la1).trans qa1_7, (ext_cellD _ _ ⟨w.heap.size + 2, 0, none⟩ la2).trans qa2_0, (ext_cellD _ _ ⟨w.heap.size + 2, 1, none⟩ la2).trans qa2_1, (ext_cellD _ _ ⟨w.heap.size + 2, 2, none⟩ la2).trans qa2_2, (ext_cellD _ _ ⟨w.heap.size + 2, 3, none⟩ la2).trans qa2_3⟩)
    (first
    | (go_at_call 7; refine (toPrgProg a0 n0 c0 ps0 _ (HR0.out.grew (grew_d BW.out)) hz0 hyy0.out).mono ?_; rintro e w2 ⟨v8, ms8, rfl, o8, hm8, g8⟩; obtain ⟨ca8, cc8, rfl⟩ := owns_slice o8.2.1; have R8 := Lib.hid (prg_rd o8 hm8); clear o8 hm8; obtain ⟨y8, rfl⟩ := ext_of g8; clear g8)
    | (go_at_call 8; refine (toInsIns ⟨op1, d1, a1, b1, rel1, lo1, hi1, to1⟩ _).mono ?_; rintro e w2 ⟨rfl, g9⟩; have R8 := Lib.hid (RdL.grew stays_prc R8.out g9); obtain ⟨y9, rfl⟩ := ext_col g9; clear g9)
    | (go_at_call 9; refine (toAbsState on2 a2 n2 c2 xs2 lo2 hi2 _ (HR2.out.grew staysItv (grew_ext (grew_d BW.out) _)) hz2).mono ?_; rintro e w2 ⟨ca10, cc10, rfl, o10, g10⟩; have hcap10 := (owns_cap o10).1; have R10 := Lib.hid (rdItv_of_own hln2.out o10); clear o10; have R8 := Lib.hid (RdL.grew stays_prc R8.out g10); obtain ⟨y10, rfl⟩ := ext_col g10; clear g10)
    | (go_at_call 6; refine (bool_is (specAbsFails ca8 n0 cc8 ps0 ⟨op1, d1, a1, b1, rel1, lo1, hi1, to1⟩ on2 ca10 n2 cc10 xs2 lo2 hi2 _ R8.out hn0 R10.out hn2) HS.out).mono ?_; rintro e w2 ⟨rfl, g11⟩; obtain ⟨y11, rfl⟩ := ext_col g11; clear g11))
  clear R8 R10 hcap10
  obtain ⟨w12, hw2⟩ : ∃ X, ext (w4).drew y11 = X := ⟨_, rfl⟩
  rw [hw2]
  have g111 : Grew w4 w12 := by rw [← hw2]; exact grew_ext (grew_d (Below.refl _ _)) _
  clear hw2
  have GG13 : Grew w4 w12 := g111
  clear la0 qa0_0
  clear la1 qa1_0 qa1_1 qa1_2 qa1_3 qa1_4 qa1_5 qa1_6 qa1_7
  clear la2 qa2_0 qa2_1 qa2_2 qa2_3
  have Ba0 := Lib.hid (Ba0.out.grew GG13)
  have Ba1 := Lib.hid (Ba1.out.grew GG13)
  have Ba2 := Lib.hid (Ba2.out.grew GG13)
  have s14 : w4.heap.size ≤ w12.heap.size := GG13.size
  have BW := Lib.hid (grew_tr BW.out GG13)
  clear GG13 g111
  have la0 := Ba0.out.1
  have qa0_0 : w12.cell? ⟨w.heap.size, 0, none⟩ = some (.slice a0 n0 c0) := Ba0.out.2 0 _ rfl
  have la1 := Ba1.out.1
  have qa1_0 : w12.cell? ⟨w.heap.size + 1, 0, none⟩ = some (.int .i64 op1) := Ba1.out.2 0 _ rfl
  have qa1_1 : w12.cell? ⟨w.heap.size + 1, 1, none⟩ = some (.int .i64 d1) := Ba1.out.2 1 _ rfl
  have qa1_2 : w12.cell? ⟨w.heap.size + 1, 2, none⟩ = some (.int .i64 a1) := Ba1.out.2 2 _ rfl
  have qa1_3 : w12.cell? ⟨w.heap.size + 1, 3, none⟩ = some (.int .i64 b1) := Ba1.out.2 3 _ rfl
  have qa1_4 : w12.cell? ⟨w.heap.size + 1, 4, none⟩ = some (.int .i64 rel1) := Ba1.out.2 4 _ rfl
  have qa1_5 : w12.cell? ⟨w.heap.size + 1, 5, none⟩ = some (.int .i64 lo1) := Ba1.out.2 5 _ rfl
  have qa1_6 : w12.cell? ⟨w.heap.size + 1, 6, none⟩ = some (.int .i64 hi1) := Ba1.out.2 6 _ rfl
  have qa1_7 : w12.cell? ⟨w.heap.size + 1, 7, none⟩ = some (.int .i64 to1) := Ba1.out.2 7 _ rfl
  have la2 := Ba2.out.1
  have qa2_0 : w12.cell? ⟨w.heap.size + 2, 0, none⟩ = some (.bool on2) := Ba2.out.2 0 _ rfl
  have qa2_1 : w12.cell? ⟨w.heap.size + 2, 1, none⟩ = some (.slice a2 n2 c2) := Ba2.out.2 1 _ rfl
  have qa2_2 : w12.cell? ⟨w.heap.size + 2, 2, none⟩ = some (.int .i64 lo2) := Ba2.out.2 2 _ rfl
  have qa2_3 : w12.cell? ⟨w.heap.size + 2, 3, none⟩ = some (.int .i64 hi2) := Ba2.out.2 3 _ rfl
  go_wp2_with fail
  refine (toPrgProg a0 n0 c0 ps0 _ (HR0.out.grew (BW.out)) hz0 hyy0.out).mono ?_
  rintro e w16 ⟨v15, ms15, rfl, o15, hm15, g15⟩
  obtain ⟨ca15, cc15, rfl⟩ := owns_slice o15.2.1
  have hq1515 := Lib.hid hm15; clear hm15
  have P15 := Lib.hid (OwnP.blk o15)
  have GG17 : Grew w12 w16 := g15
  clear la0 qa0_0
  clear la1 qa1_0 qa1_1 qa1_2 qa1_3 qa1_4 qa1_5 qa1_6 qa1_7
  clear la2 qa2_0 qa2_1 qa2_2 qa2_3
  have Ba0 := Lib.hid (Ba0.out.grew GG17)
  have Ba1 := Lib.hid (Ba1.out.grew GG17)
  have Ba2 := Lib.hid (Ba2.out.grew GG17)
  have s18 : w12.heap.size ≤ w16.heap.size := GG17.size
  have BW := Lib.hid (grew_tr BW.out GG17)
  clear GG17 g15
  have la0 := Ba0.out.1
  have qa0_0 : w16.cell? ⟨w.heap.size, 0, none⟩ = some (.slice a0 n0 c0) := Ba0.out.2 0 _ rfl
  have la1 := Ba1.out.1
  have qa1_0 : w16.cell? ⟨w.heap.size + 1, 0, none⟩ = some (.int .i64 op1) := Ba1.out.2 0 _ rfl
  have qa1_1 : w16.cell? ⟨w.heap.size + 1, 1, none⟩ = some (.int .i64 d1) := Ba1.out.2 1 _ rfl
  have qa1_2 : w16.cell? ⟨w.heap.size + 1, 2, none⟩ = some (.int .i64 a1) := Ba1.out.2 2 _ rfl
  have qa1_3 : w16.cell? ⟨w.heap.size + 1, 3, none⟩ = some (.int .i64 b1) := Ba1.out.2 3 _ rfl
  have qa1_4 : w16.cell? ⟨w.heap.size + 1, 4, none⟩ = some (.int .i64 rel1) := Ba1.out.2 4 _ rfl
  have qa1_5 : w16.cell? ⟨w.heap.size + 1, 5, none⟩ = some (.int .i64 lo1) := Ba1.out.2 5 _ rfl
  have qa1_6 : w16.cell? ⟨w.heap.size + 1, 6, none⟩ = some (.int .i64 hi1) := Ba1.out.2 6 _ rfl
  have qa1_7 : w16.cell? ⟨w.heap.size + 1, 7, none⟩ = some (.int .i64 to1) := Ba1.out.2 7 _ rfl
  have la2 := Ba2.out.1
  have qa2_0 : w16.cell? ⟨w.heap.size + 2, 0, none⟩ = some (.bool on2) := Ba2.out.2 0 _ rfl
  have qa2_1 : w16.cell? ⟨w.heap.size + 2, 1, none⟩ = some (.slice a2 n2 c2) := Ba2.out.2 1 _ rfl
  have qa2_2 : w16.cell? ⟨w.heap.size + 2, 2, none⟩ = some (.int .i64 lo2) := Ba2.out.2 2 _ rfl
  have qa2_3 : w16.cell? ⟨w.heap.size + 2, 3, none⟩ = some (.int .i64 hi2) := Ba2.out.2 3 _ rfl
  have O15 := Lib.hid o15; clear o15
  go_wp2_with fail
  refine (toAbsState on2 a2 n2 c2 xs2 lo2 hi2 _ (HR2.out.grew staysItv (grew_tr BW.out (grew_al (Below.refl _ w16) (.cells #[.slice ca15 n0 cc15] 37)))) hz2).mono ?_
  rintro e w20 ⟨ca19, cc19, rfl, o19, g19⟩
  have pp := o19.lt
  try simp only [World.size_alloc] at pp
  have P19 := Lib.hid pp; clear pp
  have hcap19 := (owns_cap o19).1
  have GG21 : Grew w16 w20 := grew_tr (grew_al (Below.refl _ w16) (.cells #[.slice ca15 n0 cc15] 37)) g19
  clear la0 qa0_0
  clear la1 qa1_0 qa1_1 qa1_2 qa1_3 qa1_4 qa1_5 qa1_6 qa1_7
  clear la2 qa2_0 qa2_1 qa2_2 qa2_3
  have O15 := Lib.hid (OwnP.grew O15.out GG21)
  have Ba0 := Lib.hid (Ba0.out.grew GG21)
  have Ba1 := Lib.hid (Ba1.out.grew GG21)
  have Ba2 := Lib.hid (Ba2.out.grew GG21)
  have Bx0 := Lib.hid ((Boxd.new w16 37 #[.slice ca15 n0 cc15]).grew g19)
  have s22 : w16.heap.size + 1 ≤ w20.heap.size := by have := g19.size; simp only [World.size_alloc, Nat.add_assoc, Nat.reduceAdd] at this; exact this
  have BW := Lib.hid (grew_tr BW.out GG21)
  clear GG21 g19
  have la0 := Ba0.out.1
  have qa0_0 : w20.cell? ⟨w.heap.size, 0, none⟩ = some (.slice a0 n0 c0) := Ba0.out.2 0 _ rfl
  have la1 := Ba1.out.1
  have qa1_0 : w20.cell? ⟨w.heap.size + 1, 0, none⟩ = some (.int .i64 op1) := Ba1.out.2 0 _ rfl
  have qa1_1 : w20.cell? ⟨w.heap.size + 1, 1, none⟩ = some (.int .i64 d1) := Ba1.out.2 1 _ rfl
  have qa1_2 : w20.cell? ⟨w.heap.size + 1, 2, none⟩ = some (.int .i64 a1) := Ba1.out.2 2 _ rfl
  have qa1_3 : w20.cell? ⟨w.heap.size + 1, 3, none⟩ = some (.int .i64 b1) := Ba1.out.2 3 _ rfl
  have qa1_4 : w20.cell? ⟨w.heap.size + 1, 4, none⟩ = some (.int .i64 rel1) := Ba1.out.2 4 _ rfl
  have qa1_5 : w20.cell? ⟨w.heap.size + 1, 5, none⟩ = some (.int .i64 lo1) := Ba1.out.2 5 _ rfl
  have qa1_6 : w20.cell? ⟨w.heap.size + 1, 6, none⟩ = some (.int .i64 hi1) := Ba1.out.2 6 _ rfl
  have qa1_7 : w20.cell? ⟨w.heap.size + 1, 7, none⟩ = some (.int .i64 to1) := Ba1.out.2 7 _ rfl
  have la2 := Ba2.out.1
  have qa2_0 : w20.cell? ⟨w.heap.size + 2, 0, none⟩ = some (.bool on2) := Ba2.out.2 0 _ rfl
  have qa2_1 : w20.cell? ⟨w.heap.size + 2, 1, none⟩ = some (.slice a2 n2 c2) := Ba2.out.2 1 _ rfl
  have qa2_2 : w20.cell? ⟨w.heap.size + 2, 2, none⟩ = some (.int .i64 lo2) := Ba2.out.2 2 _ rfl
  have qa2_3 : w20.cell? ⟨w.heap.size + 2, 3, none⟩ = some (.int .i64 hi2) := Ba2.out.2 3 _ rfl
  have lx0 := Bx0.out.1
  have qx0_0 : w20.cell? ⟨w16.heap.size, 0, none⟩ = some (.slice ca15 n0 cc15) := Bx0.out.2 0 _ rfl
  have O19 := Lib.hid o19; clear o19
  go_wp2_with fail
  refine wp_letH ?_
  intro w23 hE
  have g24 : Grew (w20.alloc (.cells #[.bool on2, .slice ca19 n2 cc19, .int .i64 lo2, .int .i64 hi2] 44)) w23 := by rw [hE]; exact Below.refl _ _
  clear hE
  have GG25 : Grew w20 w23 := grew_tr (grew_al (Below.refl _ w20) (.cells #[.bool on2, .slice ca19 n2 cc19, .int .i64 lo2, .int .i64 hi2] 44)) g24
  clear la0 qa0_0
  clear la1 qa1_0 qa1_1 qa1_2 qa1_3 qa1_4 qa1_5 qa1_6 qa1_7
  clear la2 qa2_0 qa2_1 qa2_2 qa2_3
  clear lx0 qx0_0
  have O15 := Lib.hid (OwnP.grew O15.out GG25)
  have O19 := Lib.hid (owns_grew O19.out GG25)
  have Ba0 := Lib.hid (Ba0.out.grew GG25)
  have Ba1 := Lib.hid (Ba1.out.grew GG25)
  have Ba2 := Lib.hid (Ba2.out.grew GG25)
  have Bx0 := Lib.hid (Bx0.out.grew GG25)
  have Bx2 := Lib.hid ((Boxd.new w20 44 #[.bool on2, .slice ca19 n2 cc19, .int .i64 lo2, .int .i64 hi2]).grew g24)
  have s26 : w20.heap.size + 1 ≤ w23.heap.size := by have := g24.size; simp only [World.size_alloc, Nat.add_assoc, Nat.reduceAdd] at this; exact this
  have BW := Lib.hid (grew_tr BW.out GG25)
  clear GG25 g24
  have la0 := Ba0.out.1
  have qa0_0 : w23.cell? ⟨w.heap.size, 0, none⟩ = some (.slice a0 n0 c0) := Ba0.out.2 0 _ rfl
  have la1 := Ba1.out.1
  have qa1_0 : w23.cell? ⟨w.heap.size + 1, 0, none⟩ = some (.int .i64 op1) := Ba1.out.2 0 _ rfl
  have qa1_1 : w23.cell? ⟨w.heap.size + 1, 1, none⟩ = some (.int .i64 d1) := Ba1.out.2 1 _ rfl
  have qa1_2 : w23.cell? ⟨w.heap.size + 1, 2, none⟩ = some (.int .i64 a1) := Ba1.out.2 2 _ rfl
  have qa1_3 : w23.cell? ⟨w.heap.size + 1, 3, none⟩ = some (.int .i64 b1) := Ba1.out.2 3 _ rfl
  have qa1_4 : w23.cell? ⟨w.heap.size + 1, 4, none⟩ = some (.int .i64 rel1) := Ba1.out.2 4 _ rfl
  have qa1_5 : w23.cell? ⟨w.heap.size + 1, 5, none⟩ = some (.int .i64 lo1) := Ba1.out.2 5 _ rfl
  have qa1_6 : w23.cell? ⟨w.heap.size + 1, 6, none⟩ = some (.int .i64 hi1) := Ba1.out.2 6 _ rfl
  have qa1_7 : w23.cell? ⟨w.heap.size + 1, 7, none⟩ = some (.int .i64 to1) := Ba1.out.2 7 _ rfl
  have la2 := Ba2.out.1
  have qa2_0 : w23.cell? ⟨w.heap.size + 2, 0, none⟩ = some (.bool on2) := Ba2.out.2 0 _ rfl
  have qa2_1 : w23.cell? ⟨w.heap.size + 2, 1, none⟩ = some (.slice a2 n2 c2) := Ba2.out.2 1 _ rfl
  have qa2_2 : w23.cell? ⟨w.heap.size + 2, 2, none⟩ = some (.int .i64 lo2) := Ba2.out.2 2 _ rfl
  have qa2_3 : w23.cell? ⟨w.heap.size + 2, 3, none⟩ = some (.int .i64 hi2) := Ba2.out.2 3 _ rfl
  have lx0 := Bx0.out.1
  have qx0_0 : w23.cell? ⟨w16.heap.size, 0, none⟩ = some (.slice ca15 n0 cc15) := Bx0.out.2 0 _ rfl
  have lx2 := Bx2.out.1
  have qx2_0 : w23.cell? ⟨w20.heap.size, 0, none⟩ = some (.bool on2) := Bx2.out.2 0 _ rfl
  have qx2_1 : w23.cell? ⟨w20.heap.size, 1, none⟩ = some (.slice ca19 n2 cc19) := Bx2.out.2 1 _ rfl
  have qx2_2 : w23.cell? ⟨w20.heap.size, 2, none⟩ = some (.int .i64 lo2) := Bx2.out.2 2 _ rfl
  have qx2_3 : w23.cell? ⟨w20.heap.size, 3, none⟩ = some (.int .i64 hi2) := Bx2.out.2 3 _ rfl
  go_wp2_with fail
  go_region_held3 (fun W => W.cell? ⟨w16.heap.size, 0, none⟩ = some (.slice ca15 n0 cc15) ∧ W.cell? ⟨w.heap.size + 1, 0, none⟩ = some (.int .i64 op1) ∧ W.cell? ⟨w.heap.size + 1, 1, none⟩ = some (.int .i64 d1) ∧ W.cell? ⟨w.heap.size + 1, 2, none⟩ = some (.int .i64 a1) ∧ W.cell? ⟨w.heap.size + 1, 3, none⟩ = some (.int .i64 b1) ∧ W.cell? ⟨w.heap.size + 1, 4, none⟩ = some (.int .i64 rel1) ∧ W.cell? ⟨w.heap.size + 1, 5, none⟩ = some (.int .i64 lo1) ∧ W.cell? ⟨w.heap.size + 1, 6, none⟩ = some (.int .i64 hi1) ∧ W.cell? ⟨w.heap.size + 1, 7, none⟩ = some (.int .i64 to1) ∧ W.cell? ⟨w20.heap.size, 0, none⟩ = some (.bool on2) ∧ W.cell? ⟨w20.heap.size, 1, none⟩ = some (.slice ca19 n2 cc19) ∧ W.cell? ⟨w20.heap.size, 2, none⟩ = some (.int .i64 lo2) ∧ W.cell? ⟨w20.heap.size, 3, none⟩ = some (.int .i64 hi2)) (first | assumption | exact ⟨qx0_0, qa1_0, qa1_1, qa1_2, qa1_3, qa1_4, qa1_5, qa1_6, qa1_7, qx2_0, qx2_1, qx2_2, qx2_3⟩ | exact ⟨(ext_cellD _ _ ⟨w16.heap.size, 0, none⟩ lx0).trans qx0_0, (ext_cellD _ _ ⟨w.heap.size + 1, 0, none⟩ la1).trans qa1_0, (ext_cellD _ _ ⟨w.heap.size + 1, 1, none⟩ la1).trans qa1_1, (ext_cellD _ _ ⟨w.heap.size + 1, 2, none⟩ la1).trans qa1_2, (ext_cellD _ _ ⟨w.heap.size + 1, 3, none⟩ la1).trans qa1_3, (ext_cellD _ _ ⟨w.heap.size + 1, 4, none⟩ la1).trans qa1_4, (ext_cellD _ _ ⟨w.heap.size + 1, 5, none⟩ la1).trans qa1_5, (ext_cellD _ _ ⟨w.heap.size + 1, 6, none⟩ la1).trans qa1_6, (ext_cellD _ _ ⟨w.heap.size + 1, 7, none⟩ la1).trans qa1_7, (ext_cellD _ _ ⟨w20.heap.size, 0, none⟩ lx2).trans qx2_0, (ext_cellD _ _ ⟨w20.heap.size, 1, none⟩ lx2).trans qx2_1, (ext_cellD _ _ ⟨w20.heap.size, 2, none⟩ lx2).trans qx2_2, (ext_cellD _ _ ⟨w20.heap.size, 3, none⟩ lx2).trans qx2_3⟩)
    (first
    | (go_at_call 8; refine (toInsIns ⟨op1, d1, a1, b1, rel1, lo1, hi1, to1⟩ _).mono ?_; rintro e w2 ⟨rfl, g27⟩; obtain ⟨y27, rfl⟩ := ext_of g27; clear g27)
    | (go_at_call 10; refine (bool_is (implAbsFails ca15 n0 cc15 ps0 ⟨op1, d1, a1, b1, rel1, lo1, hi1, to1⟩ on2 ca19 n2 cc19 xs2 lo2 hi2 _ (RdL.grew stays_prc (prg_rd O15.out hq1515.out) (grew_ext (grew_d (Below.refl _ _)) _)) hn0 (RdL.grew staysItv (rdItv_of_own hln2.out O19.out) (grew_ext (grew_d (Below.refl _ _)) _)) hn2 hcap19) HS.out).mono ?_; rintro e w2 ⟨rfl, g28⟩; obtain ⟨y28, rfl⟩ := ext_col g28; clear g28))
  obtain ⟨w29, hw2⟩ : ∃ X, ext (w23).drew y28 = X := ⟨_, rfl⟩
  rw [hw2]
  have g128 : Grew w23 w29 := by rw [← hw2]; exact grew_ext (grew_d (Below.refl _ _)) _
  clear hw2
  have GG30 : Grew w23 w29 := g128
  clear la0 qa0_0
  clear la1 qa1_0 qa1_1 qa1_2 qa1_3 qa1_4 qa1_5 qa1_6 qa1_7
  clear la2 qa2_0 qa2_1 qa2_2 qa2_3
  clear lx0 qx0_0
  clear lx2 qx2_0 qx2_1 qx2_2 qx2_3
  have O15 := Lib.hid (OwnP.grew O15.out GG30)
  have O19 := Lib.hid (owns_grew O19.out GG30)
  have Ba0 := Lib.hid (Ba0.out.grew GG30)
  have Ba1 := Lib.hid (Ba1.out.grew GG30)
  have Ba2 := Lib.hid (Ba2.out.grew GG30)
  have Bx0 := Lib.hid (Bx0.out.grew GG30)
  have Bx2 := Lib.hid (Bx2.out.grew GG30)
  have s31 : w23.heap.size ≤ w29.heap.size := GG30.size
  have BW := Lib.hid (grew_tr BW.out GG30)
  clear GG30 g128
  have la0 := Ba0.out.1
  have qa0_0 : w29.cell? ⟨w.heap.size, 0, none⟩ = some (.slice a0 n0 c0) := Ba0.out.2 0 _ rfl
  have la1 := Ba1.out.1
  have qa1_0 : w29.cell? ⟨w.heap.size + 1, 0, none⟩ = some (.int .i64 op1) := Ba1.out.2 0 _ rfl
  have qa1_1 : w29.cell? ⟨w.heap.size + 1, 1, none⟩ = some (.int .i64 d1) := Ba1.out.2 1 _ rfl
  have qa1_2 : w29.cell? ⟨w.heap.size + 1, 2, none⟩ = some (.int .i64 a1) := Ba1.out.2 2 _ rfl
  have qa1_3 : w29.cell? ⟨w.heap.size + 1, 3, none⟩ = some (.int .i64 b1) := Ba1.out.2 3 _ rfl
  have qa1_4 : w29.cell? ⟨w.heap.size + 1, 4, none⟩ = some (.int .i64 rel1) := Ba1.out.2 4 _ rfl
  have qa1_5 : w29.cell? ⟨w.heap.size + 1, 5, none⟩ = some (.int .i64 lo1) := Ba1.out.2 5 _ rfl
  have qa1_6 : w29.cell? ⟨w.heap.size + 1, 6, none⟩ = some (.int .i64 hi1) := Ba1.out.2 6 _ rfl
  have qa1_7 : w29.cell? ⟨w.heap.size + 1, 7, none⟩ = some (.int .i64 to1) := Ba1.out.2 7 _ rfl
  have la2 := Ba2.out.1
  have qa2_0 : w29.cell? ⟨w.heap.size + 2, 0, none⟩ = some (.bool on2) := Ba2.out.2 0 _ rfl
  have qa2_1 : w29.cell? ⟨w.heap.size + 2, 1, none⟩ = some (.slice a2 n2 c2) := Ba2.out.2 1 _ rfl
  have qa2_2 : w29.cell? ⟨w.heap.size + 2, 2, none⟩ = some (.int .i64 lo2) := Ba2.out.2 2 _ rfl
  have qa2_3 : w29.cell? ⟨w.heap.size + 2, 3, none⟩ = some (.int .i64 hi2) := Ba2.out.2 3 _ rfl
  have lx0 := Bx0.out.1
  have qx0_0 : w29.cell? ⟨w16.heap.size, 0, none⟩ = some (.slice ca15 n0 cc15) := Bx0.out.2 0 _ rfl
  have lx2 := Bx2.out.1
  have qx2_0 : w29.cell? ⟨w20.heap.size, 0, none⟩ = some (.bool on2) := Bx2.out.2 0 _ rfl
  have qx2_1 : w29.cell? ⟨w20.heap.size, 1, none⟩ = some (.slice ca19 n2 cc19) := Bx2.out.2 1 _ rfl
  have qx2_2 : w29.cell? ⟨w20.heap.size, 2, none⟩ = some (.int .i64 lo2) := Bx2.out.2 2 _ rfl
  have qx2_3 : w29.cell? ⟨w20.heap.size, 3, none⟩ = some (.int .i64 hi2) := Bx2.out.2 3 _ rfl
  go_wp2_with fail
  go_region_held3 (fun W => W.cell? ⟨w.heap.size, 0, none⟩ = some (.slice a0 n0 c0) ∧ W.cell? ⟨w16.heap.size, 0, none⟩ = some (.slice ca15 n0 cc15)) (first | assumption | exact ⟨qa0_0, qx0_0⟩ | exact ⟨(ext_cellD _ _ ⟨w.heap.size, 0, none⟩ la0).trans qa0_0, (ext_cellD _ _ ⟨w16.heap.size, 0, none⟩ lx0).trans qx0_0⟩)
    (first
    | (go_at_call 7; refine (toPrgProg a0 n0 c0 ps0 _ (HR0.out.grew (grew_d BW.out)) hz0 hyy0.out).mono ?_; rintro e w2 ⟨v32, ms32, rfl, o32, hm32, g32⟩; obtain ⟨ca32, cc32, rfl⟩ := owns_slice o32.2.1; have R32 := Lib.hid (prg_rd o32 hm32); clear o32 hm32; obtain ⟨y32, rfl⟩ := ext_of g32; clear g32)
    | (go_at_call 11; refine (eqPrgProg ca15 ca32 n0 n0 cc15 cc32 ps0 ps0 _ (RdL.grew stays_prc (prg_rd O15.out hq1515.out) (grew_ext (grew_d (Below.refl _ _)) _)) R32.out hn0 hn0).mono ?_; rintro e w2 ⟨rfl, g35⟩; obtain ⟨y35, rfl⟩ := ext_col g35; clear g35))
  clear R32
  obtain ⟨w34, hw2⟩ : ∃ X, ext (w29).drew y35 = X := ⟨_, rfl⟩
  rw [hw2]
  have g135 : Grew w29 w34 := by rw [← hw2]; exact grew_ext (grew_d (Below.refl _ _)) _
  clear hw2
  have GG36 : Grew w29 w34 := g135
  clear la0 qa0_0
  clear la1 qa1_0 qa1_1 qa1_2 qa1_3 qa1_4 qa1_5 qa1_6 qa1_7
  clear la2 qa2_0 qa2_1 qa2_2 qa2_3
  clear lx0 qx0_0
  clear lx2 qx2_0 qx2_1 qx2_2 qx2_3
  have O15 := Lib.hid (OwnP.grew O15.out GG36)
  have O19 := Lib.hid (owns_grew O19.out GG36)
  have Ba0 := Lib.hid (Ba0.out.grew GG36)
  have Ba1 := Lib.hid (Ba1.out.grew GG36)
  have Ba2 := Lib.hid (Ba2.out.grew GG36)
  have Bx0 := Lib.hid (Bx0.out.grew GG36)
  have Bx2 := Lib.hid (Bx2.out.grew GG36)
  have s37 : w29.heap.size ≤ w34.heap.size := GG36.size
  have BW := Lib.hid (grew_tr BW.out GG36)
  clear GG36 g135
  have la0 := Ba0.out.1
  have qa0_0 : w34.cell? ⟨w.heap.size, 0, none⟩ = some (.slice a0 n0 c0) := Ba0.out.2 0 _ rfl
  have la1 := Ba1.out.1
  have qa1_0 : w34.cell? ⟨w.heap.size + 1, 0, none⟩ = some (.int .i64 op1) := Ba1.out.2 0 _ rfl
  have qa1_1 : w34.cell? ⟨w.heap.size + 1, 1, none⟩ = some (.int .i64 d1) := Ba1.out.2 1 _ rfl
  have qa1_2 : w34.cell? ⟨w.heap.size + 1, 2, none⟩ = some (.int .i64 a1) := Ba1.out.2 2 _ rfl
  have qa1_3 : w34.cell? ⟨w.heap.size + 1, 3, none⟩ = some (.int .i64 b1) := Ba1.out.2 3 _ rfl
  have qa1_4 : w34.cell? ⟨w.heap.size + 1, 4, none⟩ = some (.int .i64 rel1) := Ba1.out.2 4 _ rfl
  have qa1_5 : w34.cell? ⟨w.heap.size + 1, 5, none⟩ = some (.int .i64 lo1) := Ba1.out.2 5 _ rfl
  have qa1_6 : w34.cell? ⟨w.heap.size + 1, 6, none⟩ = some (.int .i64 hi1) := Ba1.out.2 6 _ rfl
  have qa1_7 : w34.cell? ⟨w.heap.size + 1, 7, none⟩ = some (.int .i64 to1) := Ba1.out.2 7 _ rfl
  have la2 := Ba2.out.1
  have qa2_0 : w34.cell? ⟨w.heap.size + 2, 0, none⟩ = some (.bool on2) := Ba2.out.2 0 _ rfl
  have qa2_1 : w34.cell? ⟨w.heap.size + 2, 1, none⟩ = some (.slice a2 n2 c2) := Ba2.out.2 1 _ rfl
  have qa2_2 : w34.cell? ⟨w.heap.size + 2, 2, none⟩ = some (.int .i64 lo2) := Ba2.out.2 2 _ rfl
  have qa2_3 : w34.cell? ⟨w.heap.size + 2, 3, none⟩ = some (.int .i64 hi2) := Ba2.out.2 3 _ rfl
  have lx0 := Bx0.out.1
  have qx0_0 : w34.cell? ⟨w16.heap.size, 0, none⟩ = some (.slice ca15 n0 cc15) := Bx0.out.2 0 _ rfl
  have lx2 := Bx2.out.1
  have qx2_0 : w34.cell? ⟨w20.heap.size, 0, none⟩ = some (.bool on2) := Bx2.out.2 0 _ rfl
  have qx2_1 : w34.cell? ⟨w20.heap.size, 1, none⟩ = some (.slice ca19 n2 cc19) := Bx2.out.2 1 _ rfl
  have qx2_2 : w34.cell? ⟨w20.heap.size, 2, none⟩ = some (.int .i64 lo2) := Bx2.out.2 2 _ rfl
  have qx2_3 : w34.cell? ⟨w20.heap.size, 3, none⟩ = some (.int .i64 hi2) := Bx2.out.2 3 _ rfl
  go_wp2_with fail
  go_region_held3 (fun W => W.cell? ⟨w.heap.size + 2, 0, none⟩ = some (.bool on2) ∧ W.cell? ⟨w.heap.size + 2, 1, none⟩ = some (.slice a2 n2 c2) ∧ W.cell? ⟨w.heap.size + 2, 2, none⟩ = some (.int .i64 lo2) ∧ W.cell? ⟨w.heap.size + 2, 3, none⟩ = some (.int .i64 hi2) ∧ W.cell? ⟨w20.heap.size, 0, none⟩ = some (.bool on2) ∧ W.cell? ⟨w20.heap.size, 1, none⟩ = some (.slice ca19 n2 cc19) ∧ W.cell? ⟨w20.heap.size, 2, none⟩ = some (.int .i64 lo2) ∧ W.cell? ⟨w20.heap.size, 3, none⟩ = some (.int .i64 hi2)) (first | assumption | exact ⟨qa2_0, qa2_1, qa2_2, qa2_3, qx2_0, qx2_1, qx2_2, qx2_3⟩ | exact ⟨(ext_cellD _ _ ⟨w.heap.size + 2, 0, none⟩ la2).trans qa2_0, (ext_cellD _ _ ⟨w.heap.size + 2, 1, none⟩ la2).trans qa2_1, (ext_cellD _ _ ⟨w.heap.size + 2, 2, none⟩ la2).trans qa2_2, (ext_cellD _ _ ⟨w.heap.size + 2, 3, none⟩ la2).trans qa2_3, (ext_cellD _ _ ⟨w20.heap.size, 0, none⟩ lx2).trans qx2_0, (ext_cellD _ _ ⟨w20.heap.size, 1, none⟩ lx2).trans qx2_1, (ext_cellD _ _ ⟨w20.heap.size, 2, none⟩ lx2).trans qx2_2, (ext_cellD _ _ ⟨w20.heap.size, 3, none⟩ lx2).trans qx2_3⟩)
    (first
    | (go_at_call 9; refine (toAbsState on2 a2 n2 c2 xs2 lo2 hi2 _ (HR2.out.grew staysItv (grew_d BW.out)) hz2).mono ?_; rintro e w2 ⟨ca38, cc38, rfl, o38, g38⟩; have hcap38 := (owns_cap o38).1; have R38 := Lib.hid (rdItv_of_own hln2.out o38); clear o38; obtain ⟨y38, rfl⟩ := ext_of g38; clear g38)
    | (go_at_call 12; refine (eqAbsState on2 on2 ca19 ca38 n2 n2 cc19 cc38 xs2 xs2 lo2 hi2 lo2 hi2 _ (RdL.grew staysItv (rdItv_of_own hln2.out O19.out) (grew_ext (grew_d (Below.refl _ _)) _)) R38.out hn2 hn2).mono ?_; rintro e w2 ⟨rfl, g41⟩; obtain ⟨y41, rfl⟩ := ext_col g41; clear g41))
  clear R38 hcap38
  obtain ⟨w40, hw2⟩ : ∃ X, ext (w34).drew y41 = X := ⟨_, rfl⟩
  rw [hw2]
  have g141 : Grew w34 w40 := by rw [← hw2]; exact grew_ext (grew_d (Below.refl _ _)) _
  clear hw2
  have GG42 : Grew w34 w40 := g141
  clear la0 qa0_0
  clear la1 qa1_0 qa1_1 qa1_2 qa1_3 qa1_4 qa1_5 qa1_6 qa1_7
  clear la2 qa2_0 qa2_1 qa2_2 qa2_3
  clear lx0 qx0_0
  clear lx2 qx2_0 qx2_1 qx2_2 qx2_3
  have O15 := Lib.hid (OwnP.grew O15.out GG42)
  have O19 := Lib.hid (owns_grew O19.out GG42)
  have Ba0 := Lib.hid (Ba0.out.grew GG42)
  have Ba1 := Lib.hid (Ba1.out.grew GG42)
  have Ba2 := Lib.hid (Ba2.out.grew GG42)
  have Bx0 := Lib.hid (Bx0.out.grew GG42)
  have Bx2 := Lib.hid (Bx2.out.grew GG42)
  have s43 : w34.heap.size ≤ w40.heap.size := GG42.size
  have BW := Lib.hid (grew_tr BW.out GG42)
  clear GG42 g141
  have la0 := Ba0.out.1
  have qa0_0 : w40.cell? ⟨w.heap.size, 0, none⟩ = some (.slice a0 n0 c0) := Ba0.out.2 0 _ rfl
  have la1 := Ba1.out.1
  have qa1_0 : w40.cell? ⟨w.heap.size + 1, 0, none⟩ = some (.int .i64 op1) := Ba1.out.2 0 _ rfl
  have qa1_1 : w40.cell? ⟨w.heap.size + 1, 1, none⟩ = some (.int .i64 d1) := Ba1.out.2 1 _ rfl
  have qa1_2 : w40.cell? ⟨w.heap.size + 1, 2, none⟩ = some (.int .i64 a1) := Ba1.out.2 2 _ rfl
  have qa1_3 : w40.cell? ⟨w.heap.size + 1, 3, none⟩ = some (.int .i64 b1) := Ba1.out.2 3 _ rfl
  have qa1_4 : w40.cell? ⟨w.heap.size + 1, 4, none⟩ = some (.int .i64 rel1) := Ba1.out.2 4 _ rfl
  have qa1_5 : w40.cell? ⟨w.heap.size + 1, 5, none⟩ = some (.int .i64 lo1) := Ba1.out.2 5 _ rfl
  have qa1_6 : w40.cell? ⟨w.heap.size + 1, 6, none⟩ = some (.int .i64 hi1) := Ba1.out.2 6 _ rfl
  have qa1_7 : w40.cell? ⟨w.heap.size + 1, 7, none⟩ = some (.int .i64 to1) := Ba1.out.2 7 _ rfl
  have la2 := Ba2.out.1
  have qa2_0 : w40.cell? ⟨w.heap.size + 2, 0, none⟩ = some (.bool on2) := Ba2.out.2 0 _ rfl
  have qa2_1 : w40.cell? ⟨w.heap.size + 2, 1, none⟩ = some (.slice a2 n2 c2) := Ba2.out.2 1 _ rfl
  have qa2_2 : w40.cell? ⟨w.heap.size + 2, 2, none⟩ = some (.int .i64 lo2) := Ba2.out.2 2 _ rfl
  have qa2_3 : w40.cell? ⟨w.heap.size + 2, 3, none⟩ = some (.int .i64 hi2) := Ba2.out.2 3 _ rfl
  have lx0 := Bx0.out.1
  have qx0_0 : w40.cell? ⟨w16.heap.size, 0, none⟩ = some (.slice ca15 n0 cc15) := Bx0.out.2 0 _ rfl
  have lx2 := Bx2.out.1
  have qx2_0 : w40.cell? ⟨w20.heap.size, 0, none⟩ = some (.bool on2) := Bx2.out.2 0 _ rfl
  have qx2_1 : w40.cell? ⟨w20.heap.size, 1, none⟩ = some (.slice ca19 n2 cc19) := Bx2.out.2 1 _ rfl
  have qx2_2 : w40.cell? ⟨w20.heap.size, 2, none⟩ = some (.int .i64 lo2) := Bx2.out.2 2 _ rfl
  have qx2_3 : w40.cell? ⟨w20.heap.size, 3, none⟩ = some (.int .i64 hi2) := Bx2.out.2 3 _ rfl
  go_wp2
  go_ret
  exact ⟨rfl, BW.out⟩
end Go.Proofs.Ytpmfpgbpndobpaa