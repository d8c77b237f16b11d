/- The walk of the law FnExactRunDepth, program against reference. No condition. -/
import Derived.Test.YtmknnbbhhnmpaaaRunOkI
import Derived.Test.YtmknnbbhhnmpaaaPrgMark
import Derived.Test.YtmknnbbhhnmpaaaRunGlue
namespace Go.Proofs.Ytmknnbbhhnmpaaa
open Go.RowKit
set_option linter.unusedVariables false
set_option linter.unusedSimpArgs false
attribute [local go_sem] ext_cell ext_frozen ext_lt ext_le ext_le1 lt_s2 lt_s3 lt_s4 lt_s5 lt_s6 ext_lt1 ext_lt2 ext_lt3

set_option maxHeartbeats 8000000 in
theorem lawFnExactRunDepth (a0 : Option Addr) (n0 c0 : Nat) (ps0 : List Prc) (st1 : Int) (a1 : Option Addr) (n1 c1 : Nat) (ps1 : List Fr) (out1 proc1 pc1 : Int) (w : World) (hr0 : RdP w a0 n0 ps0) (hf0 : PrgWf ps0) (hl0 : n0 ≤ c0) (hm0 : c0 ≤ maxLen) (hr1 : RdF w a1 n1 ps1) (hf1 : RuWf ⟨st1, ps1, out1, proc1, pc1⟩) (hl1 : n1 ≤ c1) (hm1 : c1 ≤ maxLen) :
    Calls Try.prog 13 #[.agg #[.slice a0 n0 c0], .agg #[.int .i64 st1, .slice a1 n1 c1, .int .i64 out1, .int .i64 proc1, .int .i64 pc1]] w fun e w' => e = .returned (.bool true) ∧ Grew w w' := by
  have hn0 : n0 ≤ 9223372036854775807 := by unfold maxLen at hm0; omega
  have HR0 := Lib.hid hr0; clear hr0 hf0 hl0 hm0
  have hq0 : decide (ps0 = ps0) = true := by simp
  have hn1 : n1 ≤ 9223372036854775807 := by unfold maxLen at hm1; omega
  have HR1 := Lib.hid hr1; clear hr1 hf1 hl1 hm1
  have hq1 : decide ((⟨st1, ps1, out1, proc1, pc1⟩ : Ru) = ⟨st1, ps1, out1, proc1, pc1⟩) = true := by simp
  obtain ⟨S, hS⟩ : ∃ S, (if runOkB ps0 ⟨st1, ps1, out1, proc1, pc1⟩ then (n1 : Int) else 0) = S := ⟨_, rfl⟩
  have HS := Lib.hid hS; clear hS
  have hqS : (S != S) = false := by simp
  have BW : Hid (Grew w w) := Lib.hid (Below.refl _ _)
  go_enter Try.func13, Try.ntmps13
  go_wp2_with fail
  refine (szPrgProg a0 n0 c0 ps0 1048576 _ (HR0.out.grew (grew_tr BW.out (grew_al (grew_al (Below.refl _ w) (.cells #[.slice a0 n0 c0] 30)) (.cells #[.int .i64 st1, .slice a1 n1 c1, .int .i64 out1, .int .i64 proc1, .int .i64 pc1] 101)))) (by omega) (by omega) hn0).mono ?_
  rintro e w1 ⟨z0, rfl, hz, g1⟩
  have GG2 : Grew w w1 := grew_tr (grew_al (grew_al (Below.refl _ w) (.cells #[.slice a0 n0 c0] 30)) (.cells #[.int .i64 st1, .slice a1 n1 c1, .int .i64 out1, .int .i64 proc1, .int .i64 pc1] 101)) g1
  have Ba0 := Lib.hid (((Boxd.new w 30 #[.slice a0 n0 c0]).grew (grew_al (Below.refl _ _) (.cells #[.int .i64 st1, .slice a1 n1 c1, .int .i64 out1, .int .i64 proc1, .int .i64 pc1] 101))).grew g1)
  have Ba1 : Hid (Boxd w1 (w.heap.size + 1) #[.int .i64 st1, .slice a1 n1 c1, .int .i64 out1, .int .i64 proc1, .int .i64 pc1]) := Lib.hid (by have hbx := (Boxd.new (w.alloc (.cells #[.slice a0 n0 c0] 30)) 101 #[.int .i64 st1, .slice a1 n1 c1, .int .i64 out1, .int .i64 proc1, .int .i64 pc1]).grew g1; simpa only [World.size_alloc, Nat.add_assoc, Nat.reduceAdd] using hbx)
  have s3 : w.heap.size + 2 ≤ w1.heap.size := by have := g1.size; simp only [World.size_alloc, Nat.add_assoc, Nat.reduceAdd] at this; exact this
  have BW := Lib.hid (grew_tr BW.out GG2)
  clear GG2 g1
  have la0 := Ba0.out.1
  have qa0_0 : w1.cell? ⟨w.heap.size, 0, none⟩ = some (.slice a0 n0 c0) := Ba0.out.2 0 _ rfl
  have la1 := Ba1.out.1
  have qa1_0 : w1.cell? ⟨w.heap.size + 1, 0, none⟩ = some (.int .i64 st1) := Ba1.out.2 0 _ rfl
  have qa1_1 : w1.cell? ⟨w.heap.size + 1, 1, none⟩ = some (.slice a1 n1 c1) := Ba1.out.2 1 _ rfl
  have qa1_2 : w1.cell? ⟨w.heap.size + 1, 2, none⟩ = some (.int .i64 out1) := Ba1.out.2 2 _ rfl
  have qa1_3 : w1.cell? ⟨w.heap.size + 1, 3, none⟩ = some (.int .i64 proc1) := Ba1.out.2 3 _ rfl
  have qa1_4 : w1.cell? ⟨w.heap.size + 1, 4, none⟩ = some (.int .i64 pc1) := Ba1.out.2 4 _ rfl
  rcases hz with rfl | ⟨za, zb, hz0, hy0⟩
  · go_wp2
    go_ret
    exact ⟨rfl, BW.out⟩
  have hyy0 := Lib.hid hy0; clear hy0
  have hzn0 : 0 ≤ z0 := za
  have hzm0 : z0 ≤ 1048576 := by omega
  clear za zb
  have hzl0 : ¬ z0 < 0 := by omega
  go_wp2_with fail
  refine (szRunRun st1 a1 n1 c1 ps1 out1 proc1 pc1 z0 _ (HR1.out.grew (BW.out)) (by omega) (by omega) hn1).mono ?_
  rintro e w4 ⟨z1, rfl, hz, g1⟩
  have GG5 : Grew w1 w4 := g1
  clear la0 qa0_0
  clear la1 qa1_0 qa1_1 qa1_2 qa1_3 qa1_4
  have Ba0 := Lib.hid (Ba0.out.grew GG5)
  have Ba1 := Lib.hid (Ba1.out.grew GG5)
  have s6 : w1.heap.size ≤ w4.heap.size := GG5.size
  have BW := Lib.hid (grew_tr BW.out GG5)
  clear GG5 g1
  have la0 := Ba0.out.1
  have qa0_0 : w4.cell? ⟨w.heap.size, 0, none⟩ = some (.slice a0 n0 c0) := Ba0.out.2 0 _ rfl
  have la1 := Ba1.out.1
  have qa1_0 : w4.cell? ⟨w.heap.size + 1, 0, none⟩ = some (.int .i64 st1) := Ba1.out.2 0 _ rfl
  have qa1_1 : w4.cell? ⟨w.heap.size + 1, 1, none⟩ = some (.slice a1 n1 c1) := Ba1.out.2 1 _ rfl
  have qa1_2 : w4.cell? ⟨w.heap.size + 1, 2, none⟩ = some (.int .i64 out1) := Ba1.out.2 2 _ rfl
  have qa1_3 : w4.cell? ⟨w.heap.size + 1, 3, none⟩ = some (.int .i64 proc1) := Ba1.out.2 3 _ rfl
  have qa1_4 : w4.cell? ⟨w.heap.size + 1, 4, none⟩ = some (.int .i64 pc1) := Ba1.out.2 4 _ rfl
  rcases hz with rfl | ⟨za, zb, hz1, hy1⟩
  · go_wp2
    go_ret
    exact ⟨rfl, BW.out⟩
  have hyy1 := Lib.hid hy1; clear hy1
  have hzn1 : 0 ≤ z1 := za
  have hzm1 : z1 ≤ 1048576 := by omega
  clear za zb
  have hzl1 : ¬ z1 < 0 := by omega
  go_wp2_with fail
  go_region_held3 (fun W => W.cell? ⟨w.heap.size, 0, none⟩ = some (.slice a0 n0 c0) ∧ W.cell? ⟨w.heap.size + 1, 0, none⟩ = some (.int .i64 st1) ∧ W.cell? ⟨w.heap.size + 1, 1, none⟩ = some (.slice a1 n1 c1) ∧ W.cell? ⟨w.heap.size + 1, 2, none⟩ = some (.int .i64 out1) ∧ W.cell? ⟨w.heap.size + 1, 3, none⟩ = some (.int .i64 proc1) ∧ W.cell? ⟨w.heap.size + 1, 4, none⟩ = some (.int .i64 pc1)) (first | assumption | exact ⟨qa0_0, qa1_0, qa1_1, qa1_2, qa1_3, qa1_4⟩ | exact ⟨(ext_cellD _ _ ⟨w.heap.size, 0, none⟩ la0).trans qa0_0, (ext_cellD _ _ ⟨w.heap.size + 1, 0, none⟩ la1).trans qa1_0, (ext_cellD _ _ ⟨w.heap.size + 1, 1, none⟩ la1).trans qa1_1, (ext_cellD _ _ ⟨w.heap.size + 1, 2, none⟩ la1).trans qa1_2, (ext_cellD _ _ ⟨w.heap.size + 1, 3, none⟩ la1).trans qa1_3, (ext_cellD _ _ ⟨w.heap.size + 1, 4, none⟩ la1).trans qa1_4⟩)
    (first
    | (go_at_call 20; refine (toPrgProg a0 n0 c0 ps0 _ (HR0.out.grew (grew_d BW.out)) hz0 hyy0.out).mono ?_; rintro e w2 ⟨v8, ms8, rfl, o8, hm8, g8⟩; obtain ⟨ca8, cc8, rfl⟩ := owns_slice o8.2.1; have R8 := Lib.hid (prg_rd o8 hm8); clear o8 hm8; obtain ⟨y8, rfl⟩ := ext_of g8; clear g8)
    | (go_at_call 67; refine (toRunRun st1 a1 n1 c1 ps1 out1 proc1 pc1 _ (HR1.out.grew (grew_ext (grew_d BW.out) _)) hz1 hyy1.out).mono ?_; rintro e w2 ⟨v9, ms9, rfl, o9, hm9, g9⟩; obtain ⟨ca9, cc9, rfl⟩ := owns_slice o9.2.1; have R9 := Lib.hid (frs_rd o9 hm9); clear o9 hm9; have R8 := Lib.hid (RdL.grew stays_prc R8.out g9); obtain ⟨y9, rfl⟩ := ext_col g9; clear g9)
    | (go_at_call 68; refine (int_is (specRunDepth ca8 n0 cc8 ps0 st1 ca9 n1 cc9 ps1 out1 proc1 pc1 _ R8.out hn0 R9.out hn1) HS.out).mono ?_; rintro e w2 ⟨rfl, g10⟩; obtain ⟨y10, rfl⟩ := ext_col g10; clear g10))
  clear R8 R9
  obtain ⟨w11, hw2⟩ : ∃ X, ext (w4).drew y10 = X := ⟨_, rfl⟩
  rw [hw2]
  have g110 : Grew w4 w11 := by rw [← hw2]; exact grew_ext (grew_d (Below.refl _ _)) _
  clear hw2
  have GG12 : Grew w4 w11 := g110
  clear la0 qa0_0
  clear la1 qa1_0 qa1_1 qa1_2 qa1_3 qa1_4
  have Ba0 := Lib.hid (Ba0.out.grew GG12)
  have Ba1 := Lib.hid (Ba1.out.grew GG12)
  have s13 : w4.heap.size ≤ w11.heap.size := GG12.size
  have BW := Lib.hid (grew_tr BW.out GG12)
  clear GG12 g110
  have la0 := Ba0.out.1
  have qa0_0 : w11.cell? ⟨w.heap.size, 0, none⟩ = some (.slice a0 n0 c0) := Ba0.out.2 0 _ rfl
  have la1 := Ba1.out.1
  have qa1_0 : w11.cell? ⟨w.heap.size + 1, 0, none⟩ = some (.int .i64 st1) := Ba1.out.2 0 _ rfl
  have qa1_1 : w11.cell? ⟨w.heap.size + 1, 1, none⟩ = some (.slice a1 n1 c1) := Ba1.out.2 1 _ rfl
  have qa1_2 : w11.cell? ⟨w.heap.size + 1, 2, none⟩ = some (.int .i64 out1) := Ba1.out.2 2 _ rfl
  have qa1_3 : w11.cell? ⟨w.heap.size + 1, 3, none⟩ = some (.int .i64 proc1) := Ba1.out.2 3 _ rfl
  have qa1_4 : w11.cell? ⟨w.heap.size + 1, 4, none⟩ = some (.int .i64 pc1) := Ba1.out.2 4 _ rfl
  go_wp2_with fail
  refine (toPrgProg a0 n0 c0 ps0 _ (HR0.out.grew (BW.out)) hz0 hyy0.out).mono ?_
  rintro e w15 ⟨v14, ms14, rfl, o14, hm14, g14⟩
  obtain ⟨ca14, cc14, rfl⟩ := owns_slice o14.2.1
  have hq1414 := Lib.hid hm14; clear hm14
  have P14 := Lib.hid (ownP_blk o14)
  try simp only [World.size_alloc] at P14
  have GG16 : Grew w11 w15 := g14
  clear la0 qa0_0
  clear la1 qa1_0 qa1_1 qa1_2 qa1_3 qa1_4
  have Ba0 := Lib.hid (Ba0.out.grew GG16)
  have Ba1 := Lib.hid (Ba1.out.grew GG16)
  have s17 : w11.heap.size ≤ w15.heap.size := GG16.size
  have BW := Lib.hid (grew_tr BW.out GG16)
  clear GG16 g14
  have la0 := Ba0.out.1
  have qa0_0 : w15.cell? ⟨w.heap.size, 0, none⟩ = some (.slice a0 n0 c0) := Ba0.out.2 0 _ rfl
  have la1 := Ba1.out.1
  have qa1_0 : w15.cell? ⟨w.heap.size + 1, 0, none⟩ = some (.int .i64 st1) := Ba1.out.2 0 _ rfl
  have qa1_1 : w15.cell? ⟨w.heap.size + 1, 1, none⟩ = some (.slice a1 n1 c1) := Ba1.out.2 1 _ rfl
  have qa1_2 : w15.cell? ⟨w.heap.size + 1, 2, none⟩ = some (.int .i64 out1) := Ba1.out.2 2 _ rfl
  have qa1_3 : w15.cell? ⟨w.heap.size + 1, 3, none⟩ = some (.int .i64 proc1) := Ba1.out.2 3 _ rfl
  have qa1_4 : w15.cell? ⟨w.heap.size + 1, 4, none⟩ = some (.int .i64 pc1) := Ba1.out.2 4 _ rfl
  have O14 := Lib.hid o14; clear o14
  go_wp2_with fail
  refine (toRunRun st1 a1 n1 c1 ps1 out1 proc1 pc1 _ (HR1.out.grew (grew_tr BW.out (grew_al (Below.refl _ w15) (.cells #[.slice ca14 n0 cc14] 35)))) hz1 hyy1.out).mono ?_
  rintro e w19 ⟨v18, ms18, rfl, o18, hm18, g18⟩
  obtain ⟨ca18, cc18, rfl⟩ := owns_slice o18.2.1
  have hq1818 := Lib.hid hm18; clear hm18
  have P18 := Lib.hid (ownF_blk o18)
  try simp only [World.size_alloc] at P18
  have GG20 : Grew w15 w19 := grew_tr (grew_al (Below.refl _ w15) (.cells #[.slice ca14 n0 cc14] 35)) g18
  clear la0 qa0_0
  clear la1 qa1_0 qa1_1 qa1_2 qa1_3 qa1_4
  have O14 := Lib.hid (OwnP.grew O14.out GG20)
  have Ba0 := Lib.hid (Ba0.out.grew GG20)
  have Ba1 := Lib.hid (Ba1.out.grew GG20)
  have Bx0 := Lib.hid ((Boxd.new w15 35 #[.slice ca14 n0 cc14]).grew g18)
  have s21 : w15.heap.size + 1 ≤ w19.heap.size := by have := g18.size; simp only [World.size_alloc, Nat.add_assoc, Nat.reduceAdd] at this; exact this
  have BW := Lib.hid (grew_tr BW.out GG20)
  clear GG20 g18
  have la0 := Ba0.out.1
  have qa0_0 : w19.cell? ⟨w.heap.size, 0, none⟩ = some (.slice a0 n0 c0) := Ba0.out.2 0 _ rfl
  have la1 := Ba1.out.1
  have qa1_0 : w19.cell? ⟨w.heap.size + 1, 0, none⟩ = some (.int .i64 st1) := Ba1.out.2 0 _ rfl
  have qa1_1 : w19.cell? ⟨w.heap.size + 1, 1, none⟩ = some (.slice a1 n1 c1) := Ba1.out.2 1 _ rfl
  have qa1_2 : w19.cell? ⟨w.heap.size + 1, 2, none⟩ = some (.int .i64 out1) := Ba1.out.2 2 _ rfl
  have qa1_3 : w19.cell? ⟨w.heap.size + 1, 3, none⟩ = some (.int .i64 proc1) := Ba1.out.2 3 _ rfl
  have qa1_4 : w19.cell? ⟨w.heap.size + 1, 4, none⟩ = some (.int .i64 pc1) := Ba1.out.2 4 _ rfl
  have lx0 := Bx0.out.1
  have qx0_0 : w19.cell? ⟨w15.heap.size, 0, none⟩ = some (.slice ca14 n0 cc14) := Bx0.out.2 0 _ rfl
  have O18 := Lib.hid o18; clear o18
  go_wp2_with fail
  refine (int_is (implRunDepth ca14 n0 cc14 ps0 st1 ca18 n1 cc18 ps1 out1 proc1 pc1 _ (RdL.grew stays_prc (prg_rd O14.out hq1414.out) (grew_al (Below.refl _ w19) (.cells #[.int .i64 st1, .slice ca18 n1 cc18, .int .i64 out1, .int .i64 proc1, .int .i64 pc1] 88))) hn0 (RdL.grew stays_fr (frs_rd O18.out hq1818.out) (grew_al (Below.refl _ w19) (.cells #[.int .i64 st1, .slice ca18 n1 cc18, .int .i64 out1, .int .i64 proc1, .int .i64 pc1] 88))) hn1) HS.out).mono ?_
  rintro e w23 ⟨rfl, g22⟩
  have GG24 : Grew w19 w23 := grew_tr (grew_al (Below.refl _ w19) (.cells #[.int .i64 st1, .slice ca18 n1 cc18, .int .i64 out1, .int .i64 proc1, .int .i64 pc1] 88)) g22
  clear la0 qa0_0
  clear la1 qa1_0 qa1_1 qa1_2 qa1_3 qa1_4
  clear lx0 qx0_0
  have O14 := Lib.hid (OwnP.grew O14.out GG24)
  have O18 := Lib.hid (OwnF.grew O18.out GG24)
  have Ba0 := Lib.hid (Ba0.out.grew GG24)
  have Ba1 := Lib.hid (Ba1.out.grew GG24)
  have Bx0 := Lib.hid (Bx0.out.grew GG24)
  have Bx1 := Lib.hid ((Boxd.new w19 88 #[.int .i64 st1, .slice ca18 n1 cc18, .int .i64 out1, .int .i64 proc1, .int .i64 pc1]).grew g22)
  have s25 : w19.heap.size + 1 ≤ w23.heap.size := by have := g22.size; simp only [World.size_alloc, Nat.add_assoc, Nat.reduceAdd] at this; exact this
  have BW := Lib.hid (grew_tr BW.out GG24)
  clear GG24 g22
  have la0 := Ba0.out.1
  have qa0_0 : w23.cell? ⟨w.heap.size, 0, none⟩ = some (.slice a0 n0 c0) := Ba0.out.2 0 _ rfl
  have la1 := Ba1.out.1
  have qa1_0 : w23.cell? ⟨w.heap.size + 1, 0, none⟩ = some (.int .i64 st1) := Ba1.out.2 0 _ rfl
  have qa1_1 : w23.cell? ⟨w.heap.size + 1, 1, none⟩ = some (.slice a1 n1 c1) := Ba1.out.2 1 _ rfl
  have qa1_2 : w23.cell? ⟨w.heap.size + 1, 2, none⟩ = some (.int .i64 out1) := Ba1.out.2 2 _ rfl
  have qa1_3 : w23.cell? ⟨w.heap.size + 1, 3, none⟩ = some (.int .i64 proc1) := Ba1.out.2 3 _ rfl
  have qa1_4 : w23.cell? ⟨w.heap.size + 1, 4, none⟩ = some (.int .i64 pc1) := Ba1.out.2 4 _ rfl
  have lx0 := Bx0.out.1
  have qx0_0 : w23.cell? ⟨w15.heap.size, 0, none⟩ = some (.slice ca14 n0 cc14) := Bx0.out.2 0 _ rfl
  have lx1 := Bx1.out.1
  have qx1_0 : w23.cell? ⟨w19.heap.size, 0, none⟩ = some (.int .i64 st1) := Bx1.out.2 0 _ rfl
  have qx1_1 : w23.cell? ⟨w19.heap.size, 1, none⟩ = some (.slice ca18 n1 cc18) := Bx1.out.2 1 _ rfl
  have qx1_2 : w23.cell? ⟨w19.heap.size, 2, none⟩ = some (.int .i64 out1) := Bx1.out.2 2 _ rfl
  have qx1_3 : w23.cell? ⟨w19.heap.size, 3, none⟩ = some (.int .i64 proc1) := Bx1.out.2 3 _ rfl
  have qx1_4 : w23.cell? ⟨w19.heap.size, 4, none⟩ = some (.int .i64 pc1) := Bx1.out.2 4 _ rfl
  go_wp2_with fail
  go_region_held3 (fun W => W.cell? ⟨w.heap.size, 0, none⟩ = some (.slice a0 n0 c0) ∧ W.cell? ⟨w15.heap.size, 0, none⟩ = some (.slice ca14 n0 cc14)) (first | assumption | exact ⟨qa0_0, qx0_0⟩ | exact ⟨(ext_cellD _ _ ⟨w.heap.size, 0, none⟩ la0).trans qa0_0, (ext_cellD _ _ ⟨w15.heap.size, 0, none⟩ lx0).trans qx0_0⟩)
    (first
    | (go_at_call 20; refine (toPrgProg a0 n0 c0 ps0 _ (HR0.out.grew (grew_d BW.out)) hz0 hyy0.out).mono ?_; rintro e w2 ⟨v26, ms26, rfl, o26, hm26, g26⟩; obtain ⟨ca26, cc26, rfl⟩ := owns_slice o26.2.1; have R26 := Lib.hid (prg_rd o26 hm26); clear o26 hm26; obtain ⟨y26, rfl⟩ := ext_of g26; clear g26)
    | (go_at_call 22; refine (eqPrgProg ca14 ca26 n0 n0 cc14 cc26 ps0 ps0 _ (RdL.grew stays_prc (prg_rd O14.out hq1414.out) (grew_ext (grew_d (Below.refl _ _)) _)) R26.out hn0 hn0).mono ?_; rintro e w2 ⟨rfl, g29⟩; obtain ⟨y29, rfl⟩ := ext_col g29; clear g29))
  clear R26
  obtain ⟨w28, hw2⟩ : ∃ X, ext (w23).drew y29 = X := ⟨_, rfl⟩
  rw [hw2]
  have g129 : Grew w23 w28 := by rw [← hw2]; exact grew_ext (grew_d (Below.refl _ _)) _
  clear hw2
  have GG30 : Grew w23 w28 := g129
  clear la0 qa0_0
  clear la1 qa1_0 qa1_1 qa1_2 qa1_3 qa1_4
  clear lx0 qx0_0
  clear lx1 qx1_0 qx1_1 qx1_2 qx1_3 qx1_4
  have O14 := Lib.hid (OwnP.grew O14.out GG30)
  have O18 := Lib.hid (OwnF.grew O18.out GG30)
  have Ba0 := Lib.hid (Ba0.out.grew GG30)
  have Ba1 := Lib.hid (Ba1.out.grew GG30)
  have Bx0 := Lib.hid (Bx0.out.grew GG30)
  have Bx1 := Lib.hid (Bx1.out.grew GG30)
  have s31 : w23.heap.size ≤ w28.heap.size := GG30.size
  have BW := Lib.hid (grew_tr BW.out GG30)
  clear GG30 g129
  have la0 := Ba0.out.1
  have qa0_0 : w28.cell? ⟨w.heap.size, 0, none⟩ = some (.slice a0 n0 c0) := Ba0.out.2 0 _ rfl
  have la1 := Ba1.out.1
  have qa1_0 : w28.cell? ⟨w.heap.size + 1, 0, none⟩ = some (.int .i64 st1) := Ba1.out.2 0 _ rfl
  have qa1_1 : w28.cell? ⟨w.heap.size + 1, 1, none⟩ = some (.slice a1 n1 c1) := Ba1.out.2 1 _ rfl
  have qa1_2 : w28.cell? ⟨w.heap.size + 1, 2, none⟩ = some (.int .i64 out1) := Ba1.out.2 2 _ rfl
  have qa1_3 : w28.cell? ⟨w.heap.size + 1, 3, none⟩ = some (.int .i64 proc1) := Ba1.out.2 3 _ rfl
  have qa1_4 : w28.cell? ⟨w.heap.size + 1, 4, none⟩ = some (.int .i64 pc1) := Ba1.out.2 4 _ rfl
  have lx0 := Bx0.out.1
  have qx0_0 : w28.cell? ⟨w15.heap.size, 0, none⟩ = some (.slice ca14 n0 cc14) := Bx0.out.2 0 _ rfl
  have lx1 := Bx1.out.1
  have qx1_0 : w28.cell? ⟨w19.heap.size, 0, none⟩ = some (.int .i64 st1) := Bx1.out.2 0 _ rfl
  have qx1_1 : w28.cell? ⟨w19.heap.size, 1, none⟩ = some (.slice ca18 n1 cc18) := Bx1.out.2 1 _ rfl
  have qx1_2 : w28.cell? ⟨w19.heap.size, 2, none⟩ = some (.int .i64 out1) := Bx1.out.2 2 _ rfl
  have qx1_3 : w28.cell? ⟨w19.heap.size, 3, none⟩ = some (.int .i64 proc1) := Bx1.out.2 3 _ rfl
  have qx1_4 : w28.cell? ⟨w19.heap.size, 4, none⟩ = some (.int .i64 pc1) := Bx1.out.2 4 _ rfl
  go_wp2_with fail
  go_region_held3 (fun W => W.cell? ⟨w.heap.size + 1, 0, none⟩ = some (.int .i64 st1) ∧ W.cell? ⟨w.heap.size + 1, 1, none⟩ = some (.slice a1 n1 c1) ∧ W.cell? ⟨w.heap.size + 1, 2, none⟩ = some (.int .i64 out1) ∧ W.cell? ⟨w.heap.size + 1, 3, none⟩ = some (.int .i64 proc1) ∧ W.cell? ⟨w.heap.size + 1, 4, none⟩ = some (.int .i64 pc1) ∧ W.cell? ⟨w19.heap.size, 0, none⟩ = some (.int .i64 st1) ∧ W.cell? ⟨w19.heap.size, 1, none⟩ = some (.slice ca18 n1 cc18) ∧ W.cell? ⟨w19.heap.size, 2, none⟩ = some (.int .i64 out1) ∧ W.cell? ⟨w19.heap.size, 3, none⟩ = some (.int .i64 proc1) ∧ W.cell? ⟨w19.heap.size, 4, none⟩ = some (.int .i64 pc1)) (first | assumption | exact ⟨qa1_0, qa1_1, qa1_2, qa1_3, qa1_4, qx1_0, qx1_1, qx1_2, qx1_3, qx1_4⟩ | exact ⟨(ext_cellD _ _ ⟨w.heap.size + 1, 0, none⟩ la1).trans qa1_0, (ext_cellD _ _ ⟨w.heap.size + 1, 1, none⟩ la1).trans qa1_1, (ext_cellD _ _ ⟨w.heap.size + 1, 2, none⟩ la1).trans qa1_2, (ext_cellD _ _ ⟨w.heap.size + 1, 3, none⟩ la1).trans qa1_3, (ext_cellD _ _ ⟨w.heap.size + 1, 4, none⟩ la1).trans qa1_4, (ext_cellD _ _ ⟨w19.heap.size, 0, none⟩ lx1).trans qx1_0, (ext_cellD _ _ ⟨w19.heap.size, 1, none⟩ lx1).trans qx1_1, (ext_cellD _ _ ⟨w19.heap.size, 2, none⟩ lx1).trans qx1_2, (ext_cellD _ _ ⟨w19.heap.size, 3, none⟩ lx1).trans qx1_3, (ext_cellD _ _ ⟨w19.heap.size, 4, none⟩ lx1).trans qx1_4⟩)
    (first
    | (go_at_call 67; refine (toRunRun st1 a1 n1 c1 ps1 out1 proc1 pc1 _ (HR1.out.grew (grew_d BW.out)) hz1 hyy1.out).mono ?_; rintro e w2 ⟨v32, ms32, rfl, o32, hm32, g32⟩; obtain ⟨ca32, cc32, rfl⟩ := owns_slice o32.2.1; have R32 := Lib.hid (frs_rd o32 hm32); clear o32 hm32; obtain ⟨y32, rfl⟩ := ext_of g32; clear g32)
    | (go_at_call 56; refine (eqRunRun st1 st1 ca18 ca32 n1 n1 cc18 cc32 ps1 ps1 out1 proc1 pc1 out1 proc1 pc1 _ (RdL.grew stays_fr (frs_rd O18.out hq1818.out) (grew_ext (grew_d (Below.refl _ _)) _)) R32.out hn1 hn1 hyy1.out hyy1.out).mono ?_; rintro e w2 ⟨rfl, g35⟩; obtain ⟨y35, rfl⟩ := ext_col g35; clear g35))
  clear R32
  obtain ⟨w34, hw2⟩ : ∃ X, ext (w28).drew y35 = X := ⟨_, rfl⟩
  rw [hw2]
  have g135 : Grew w28 w34 := by rw [← hw2]; exact grew_ext (grew_d (Below.refl _ _)) _
  clear hw2
  have GG36 : Grew w28 w34 := g135
  clear la0 qa0_0
  clear la1 qa1_0 qa1_1 qa1_2 qa1_3 qa1_4
  clear lx0 qx0_0
  clear lx1 qx1_0 qx1_1 qx1_2 qx1_3 qx1_4
  have O14 := Lib.hid (OwnP.grew O14.out GG36)
  have O18 := Lib.hid (OwnF.grew O18.out GG36)
  have Ba0 := Lib.hid (Ba0.out.grew GG36)
  have Ba1 := Lib.hid (Ba1.out.grew GG36)
  have Bx0 := Lib.hid (Bx0.out.grew GG36)
  have Bx1 := Lib.hid (Bx1.out.grew GG36)
  have s37 : w28.heap.size ≤ w34.heap.size := GG36.size
  have BW := Lib.hid (grew_tr BW.out GG36)
  clear GG36 g135
  have la0 := Ba0.out.1
  have qa0_0 : w34.cell? ⟨w.heap.size, 0, none⟩ = some (.slice a0 n0 c0) := Ba0.out.2 0 _ rfl
  have la1 := Ba1.out.1
  have qa1_0 : w34.cell? ⟨w.heap.size + 1, 0, none⟩ = some (.int .i64 st1) := Ba1.out.2 0 _ rfl
  have qa1_1 : w34.cell? ⟨w.heap.size + 1, 1, none⟩ = some (.slice a1 n1 c1) := Ba1.out.2 1 _ rfl
  have qa1_2 : w34.cell? ⟨w.heap.size + 1, 2, none⟩ = some (.int .i64 out1) := Ba1.out.2 2 _ rfl
  have qa1_3 : w34.cell? ⟨w.heap.size + 1, 3, none⟩ = some (.int .i64 proc1) := Ba1.out.2 3 _ rfl
  have qa1_4 : w34.cell? ⟨w.heap.size + 1, 4, none⟩ = some (.int .i64 pc1) := Ba1.out.2 4 _ rfl
  have lx0 := Bx0.out.1
  have qx0_0 : w34.cell? ⟨w15.heap.size, 0, none⟩ = some (.slice ca14 n0 cc14) := Bx0.out.2 0 _ rfl
  have lx1 := Bx1.out.1
  have qx1_0 : w34.cell? ⟨w19.heap.size, 0, none⟩ = some (.int .i64 st1) := Bx1.out.2 0 _ rfl
  have qx1_1 : w34.cell? ⟨w19.heap.size, 1, none⟩ = some (.slice ca18 n1 cc18) := Bx1.out.2 1 _ rfl
  have qx1_2 : w34.cell? ⟨w19.heap.size, 2, none⟩ = some (.int .i64 out1) := Bx1.out.2 2 _ rfl
  have qx1_3 : w34.cell? ⟨w19.heap.size, 3, none⟩ = some (.int .i64 proc1) := Bx1.out.2 3 _ rfl
  have qx1_4 : w34.cell? ⟨w19.heap.size, 4, none⟩ = some (.int .i64 pc1) := Bx1.out.2 4 _ rfl
  go_wp2
  go_ret
  exact ⟨rfl, BW.out⟩
end Go.Proofs.Ytmknnbbhhnmpaaa