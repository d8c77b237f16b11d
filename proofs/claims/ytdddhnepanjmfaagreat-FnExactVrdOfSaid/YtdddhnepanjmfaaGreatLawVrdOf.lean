/- The walk of the law FnExactVrdOf, program against reference. No condition. -/
import Derived.Test.YtdddhnepanjmfaaGreatCe
import Derived.Test.YtdddhnepanjmfaaGreatCs
import Derived.Test.YtdddhnepanjmfaaGreatCt
import Derived.Test.YtdddhnepanjmfaaGreatMarkPB
namespace Go.Proofs.YtdddhnepanjmfaaGreat
open Go.RowKit
set_option linter.unusedVariables false
set_option linter.unusedSimpArgs false
attribute [local go_sem] ext_cell ext_frozen ext_lt ext_le ext_le1 lt_s2 lt_s3 lt_s4 lt_s5 lt_s6 ext_lt1 ext_lt2 ext_lt3

set_option maxHeartbeats 8000000 in
theorem lawFnExactVrdOf (a0 : Option Addr) (n0 c0 : Nat) (ps0 : List Prc) (a1 : Option Addr) (n1 c1 : Nat) (xs1 : List Crt) (w : World) (hr0 : RdP w a0 n0 ps0) (hf0 : PrgWf ps0) (hl0 : n0 ≤ c0) (hm0 : c0 ≤ maxLen) (hr1 : RdL ECrt 2 w a1 n1 xs1) (hf1 : True) (hl1 : n1 ≤ c1) (hm1 : c1 ≤ maxLen) :
    Calls Tryz.prog 3 #[.agg #[.slice a0 n0 c0], .slice a1 n1 c1] w fun e w' => e = .returned (.bool true) ∧ Grew w w' := by
  have hn0 : n0 ≤ 9223372036854775807 := by unfold maxLen at hm0; omega
  have HR0 := Lib.hid hr0; clear hr0 hf0 hl0 hm0
  have hq0 : decide (ps0 = ps0) = true := by simp
  have hn1 : n1 ≤ 9223372036854775807 := by unfold maxLen at hm1; omega
  have hln1 := Lib.hid hr1.len
  have HR1 := Lib.hid hr1; clear hr1 hf1 hl1 hm1
  obtain ⟨S, hS⟩ : ∃ S, vrdP ps0 xs1 = S := ⟨_, rfl⟩
  have HS := Lib.hid hS; clear hS
  obtain ⟨kd, S⟩ := S
  have hSl : S.length ≤ 1000 := vrdP_short HS.out
  have BW : Hid (Grew w w) := Lib.hid (Below.refl _ _)
  go_enter Tryz.func3, Tryz.ntmps3
  go_wp2_with fail
  refine (szPrgProg a0 n0 c0 ps0 1048576 _ (HR0.out.grew (grew_tr BW.out (grew_al (Below.refl _ w) (.cells #[.slice a0 n0 c0] 24)))) (by omega) (by omega) hn0).mono ?_
  rintro e w1 ⟨z0, rfl, hz, g1⟩
  have GG2 : Grew w w1 := grew_tr (grew_al (Below.refl _ w) (.cells #[.slice a0 n0 c0] 24)) g1
  have Ba0 := Lib.hid ((Boxd.new w 24 #[.slice a0 n0 c0]).grew g1)
  have s3 : w.heap.size + 1 ≤ w1.heap.size := by have := g1.size; simp only [World.size_alloc, Nat.add_assoc, Nat.reduceAdd] at this; exact this
  have BW := Lib.hid (grew_tr BW.out GG2)
  clear GG2 g1
  have la0 := Ba0.out.1
  have qa0_0 : w1.cell? ⟨w.heap.size, 0, none⟩ = some (.slice a0 n0 c0) := Ba0.out.2 0 _ rfl
  rcases hz with rfl | ⟨za, zb, hz0, hy0⟩
  · go_wp2
    go_ret
    exact ⟨rfl, BW.out⟩
  have hyy0 := Lib.hid hy0; clear hy0
  have hzn0 : 0 ≤ z0 := za
  have hzm0 : z0 ≤ 1048576 := by omega
  clear za zb
  have hzl0 : ¬ z0 < 0 := by omega
  obtain ⟨BK1, hbk1⟩ : ∃ b, bulkCs xs1 = b := ⟨_, rfl⟩
  have HBK1 := Lib.hid hbk1
  have CZ := Lib.hid fun W (h : RdL ECrt 2 W a1 n1 xs1) => szCrtCertS a1 n1 c1 xs1 z0 W h (by omega) (by omega) hn1
  rw [hbk1] at CZ
  clear hbk1
  by_cases hs1 : z0 < (BK1 : Int)
  · have hz := zOf_no hs1
    go_wp2_with fail
    refine (CZ.out _ (HR1.out.grew staysCrt (BW.out))).mono ?_
    rintro e w2 ⟨rfl, g2⟩
    have BW := Lib.hid (grew_tr (BW.out) g2)
    rw [hz]
    clear hz
    go_wp2
    go_ret
    exact ⟨rfl, BW.out⟩
  have hz := zOf_yes hs1
  go_wp2_with fail
  refine (CZ.out _ (HR1.out.grew staysCrt (BW.out))).mono ?_
  rintro e w4 ⟨rfl, g1⟩
  have GG5 : Grew w1 w4 := g1
  clear la0 qa0_0
  have Ba0 := Lib.hid (Ba0.out.grew GG5)
  have s6 : w1.heap.size ≤ w4.heap.size := GG5.size
  have BW := Lib.hid (grew_tr BW.out GG5)
  clear GG5 g1
  have la0 := Ba0.out.1
  have qa0_0 : w4.cell? ⟨w.heap.size, 0, none⟩ = some (.slice a0 n0 c0) := Ba0.out.2 0 _ rfl
  rw [hz]
  clear hz CZ
  have hzb1 : BK1 ≤ 1048576 := by omega
  obtain ⟨z1, hz1⟩ : ∃ z, z0 - (BK1 : Int) = z := ⟨_, rfl⟩
  rw [hz1]
  have hzl1 : ¬ z1 < 0 := by omega
  clear hz1 hs1
  go_wp2_with fail
  refine (toPrgProg a0 n0 c0 ps0 _ (HR0.out.grew (BW.out)) hz0 hyy0.out).mono ?_
  rintro e w8 ⟨v7, ms7, rfl, o7, hm7, g7⟩
  obtain ⟨ca7, cc7, rfl⟩ := owns_slice o7.2.1
  have hq77 := Lib.hid hm7; clear hm7
  have P7 := Lib.hid (OwnP.blk o7)
  have GG9 : Grew w4 w8 := g7
  clear la0 qa0_0
  have Ba0 := Lib.hid (Ba0.out.grew GG9)
  have s10 : w4.heap.size ≤ w8.heap.size := GG9.size
  have BW := Lib.hid (grew_tr BW.out GG9)
  clear GG9 g7
  have la0 := Ba0.out.1
  have qa0_0 : w8.cell? ⟨w.heap.size, 0, none⟩ = some (.slice a0 n0 c0) := Ba0.out.2 0 _ rfl
  have O7 := Lib.hid o7; clear o7
  go_wp2_with fail
  refine (toCrtCertS a1 n1 c1 xs1 _ (HR1.out.grew staysCrt (BW.out)) (by rw [HBK1.out]; omega)).mono ?_
  rintro e w12 ⟨v11, ms11, rfl, o11, hm11, g11⟩
  obtain ⟨ca11, cc11, he11⟩ := certs_slice o11.1 hm11 hln1.out
  subst he11
  try simp only [World.size_alloc] at o11
  have M11 := Lib.hid hm11; clear hm11
  have GG13 : Grew w8 w12 := g11
  clear la0 qa0_0
  have O7 := Lib.hid (OwnP.grew O7.out GG13)
  have Ba0 := Lib.hid (Ba0.out.grew GG13)
  have s14 : w8.heap.size ≤ w12.heap.size := GG13.size
  have BW := Lib.hid (grew_tr BW.out GG13)
  clear GG13 g11
  have la0 := Ba0.out.1
  have qa0_0 : w12.cell? ⟨w.heap.size, 0, none⟩ = some (.slice a0 n0 c0) := Ba0.out.2 0 _ rfl
  have O11 := Lib.hid o11; clear o11
  go_wp2_with fail
  refine (retVrd_of (specVrdOf ca7 n0 cc7 ps0 ca11 n1 cc11 xs1 _ (prg_rd O7.out hq77.out) hn0 (certs_rdX O11.out M11.out) hn1) HS.out).mono ?_
  rintro e w16 ⟨ca15, cc15, rfl, o15, g15⟩
  have pp := o15.lt
  try simp only [World.size_alloc] at pp
  have P15 := Lib.hid pp; clear pp
  have GG17 : Grew w12 w16 := g15
  clear la0 qa0_0
  have O7 := Lib.hid (OwnP.grew O7.out GG17)
  have O11 := Lib.hid (OwnR.grew goodCrt O11.out GG17)
  have Ba0 := Lib.hid (Ba0.out.grew GG17)
  have s18 : w12.heap.size ≤ w16.heap.size := GG17.size
  have BW := Lib.hid (grew_tr BW.out GG17)
  clear GG17 g15
  have la0 := Ba0.out.1
  have qa0_0 : w16.cell? ⟨w.heap.size, 0, none⟩ = some (.slice a0 n0 c0) := Ba0.out.2 0 _ rfl
  have O15 := Lib.hid o15; clear o15
  clear O7 P7 hq77
  clear O11 M11
  go_wp2_with fail
  refine (toPrgProg a0 n0 c0 ps0 _ (HR0.out.grew (grew_tr BW.out (grew_al (Below.refl _ w16) (.cells #[.int .i64 kd, .int .i64 0, .slice ca15 S.length cc15] 30)))) hz0 hyy0.out).mono ?_
  rintro e w20 ⟨v19, ms19, rfl, o19, hm19, g19⟩
  obtain ⟨ca19, cc19, rfl⟩ := owns_slice o19.2.1
  have hq1919 := Lib.hid hm19; clear hm19
  have P19 := Lib.hid (OwnP.blk o19)
  have GG21 : Grew w16 w20 := grew_tr (grew_al (Below.refl _ w16) (.cells #[.int .i64 kd, .int .i64 0, .slice ca15 S.length cc15] 30)) g19
  clear la0 qa0_0
  have O15 := Lib.hid (owns_grew O15.out GG21)
  have Ba0 := Lib.hid (Ba0.out.grew GG21)
  have Bw0 := Lib.hid ((Boxd.new w16 30 #[.int .i64 kd, .int .i64 0, .slice ca15 S.length cc15]).grew g19)
  have s22 : w16.heap.size + 1 ≤ w20.heap.size := by have := g19.size; simp only [World.size_alloc, Nat.add_assoc, Nat.reduceAdd] at this; exact this
  have BW := Lib.hid (grew_tr BW.out GG21)
  clear GG21 g19
  have la0 := Ba0.out.1
  have qa0_0 : w20.cell? ⟨w.heap.size, 0, none⟩ = some (.slice a0 n0 c0) := Ba0.out.2 0 _ rfl
  have lw0 := Bw0.out.1
  have qw0_0 : w20.cell? ⟨w16.heap.size, 0, none⟩ = some (.int .i64 kd) := Bw0.out.2 0 _ rfl
  have qw0_1 : w20.cell? ⟨w16.heap.size, 1, none⟩ = some (.int .i64 0) := Bw0.out.2 1 _ rfl
  have qw0_2 : w20.cell? ⟨w16.heap.size, 2, none⟩ = some (.slice ca15 S.length cc15) := Bw0.out.2 2 _ rfl
  have O19 := Lib.hid o19; clear o19
  go_wp2_with fail
  refine (toCrtCertS a1 n1 c1 xs1 _ (HR1.out.grew staysCrt (grew_tr BW.out (grew_al (Below.refl _ w20) (.cells #[.slice ca19 n0 cc19] 34)))) (by rw [HBK1.out]; omega)).mono ?_
  rintro e w24 ⟨v23, ms23, rfl, o23, hm23, g23⟩
  obtain ⟨ca23, cc23, he23⟩ := certs_slice o23.1 hm23 hln1.out
  subst he23
  try simp only [World.size_alloc] at o23
  have M23 := Lib.hid hm23; clear hm23
  have GG25 : Grew w20 w24 := grew_tr (grew_al (Below.refl _ w20) (.cells #[.slice ca19 n0 cc19] 34)) g23
  clear la0 qa0_0
  clear lw0 qw0_0 qw0_1 qw0_2
  have O15 := Lib.hid (owns_grew O15.out GG25)
  have O19 := Lib.hid (OwnP.grew O19.out GG25)
  have Ba0 := Lib.hid (Ba0.out.grew GG25)
  have Bw0 := Lib.hid (Bw0.out.grew GG25)
  have Bx0 := Lib.hid ((Boxd.new w20 34 #[.slice ca19 n0 cc19]).grew g23)
  have s26 : w20.heap.size + 1 ≤ w24.heap.size := by have := g23.size; simp only [World.size_alloc, Nat.add_assoc, Nat.reduceAdd] at this; exact this
  have BW := Lib.hid (grew_tr BW.out GG25)
  clear GG25 g23
  have la0 := Ba0.out.1
  have qa0_0 : w24.cell? ⟨w.heap.size, 0, none⟩ = some (.slice a0 n0 c0) := Ba0.out.2 0 _ rfl
  have lw0 := Bw0.out.1
  have qw0_0 : w24.cell? ⟨w16.heap.size, 0, none⟩ = some (.int .i64 kd) := Bw0.out.2 0 _ rfl
  have qw0_1 : w24.cell? ⟨w16.heap.size, 1, none⟩ = some (.int .i64 0) := Bw0.out.2 1 _ rfl
  have qw0_2 : w24.cell? ⟨w16.heap.size, 2, none⟩ = some (.slice ca15 S.length cc15) := Bw0.out.2 2 _ rfl
  have lx0 := Bx0.out.1
  have qx0_0 : w24.cell? ⟨w20.heap.size, 0, none⟩ = some (.slice ca19 n0 cc19) := Bx0.out.2 0 _ rfl
  have O23 := Lib.hid o23; clear o23
  go_wp2_with fail
  refine (retVrd_of (implVrdOf ca19 n0 cc19 ps0 ca23 n1 cc23 xs1 _ (prg_rd O19.out hq1919.out) hn0 (certs_rdX O23.out M23.out) hn1) HS.out).mono ?_
  rintro e w28 ⟨ca27, cc27, rfl, o27, g27⟩
  have pp := o27.lt
  try simp only [World.size_alloc] at pp
  have P27 := Lib.hid pp; clear pp
  have GG29 : Grew w24 w28 := g27
  clear la0 qa0_0
  clear lw0 qw0_0 qw0_1 qw0_2
  clear lx0 qx0_0
  have O15 := Lib.hid (owns_grew O15.out GG29)
  have O19 := Lib.hid (OwnP.grew O19.out GG29)
  have O23 := Lib.hid (OwnR.grew goodCrt O23.out GG29)
  have Ba0 := Lib.hid (Ba0.out.grew GG29)
  have Bw0 := Lib.hid (Bw0.out.grew GG29)
  have Bx0 := Lib.hid (Bx0.out.grew GG29)
  have s30 : w24.heap.size ≤ w28.heap.size := GG29.size
  have BW := Lib.hid (grew_tr BW.out GG29)
  clear GG29 g27
  have la0 := Ba0.out.1
  have qa0_0 : w28.cell? ⟨w.heap.size, 0, none⟩ = some (.slice a0 n0 c0) := Ba0.out.2 0 _ rfl
  have lw0 := Bw0.out.1
  have qw0_0 : w28.cell? ⟨w16.heap.size, 0, none⟩ = some (.int .i64 kd) := Bw0.out.2 0 _ rfl
  have qw0_1 : w28.cell? ⟨w16.heap.size, 1, none⟩ = some (.int .i64 0) := Bw0.out.2 1 _ rfl
  have qw0_2 : w28.cell? ⟨w16.heap.size, 2, none⟩ = some (.slice ca15 S.length cc15) := Bw0.out.2 2 _ rfl
  have lx0 := Bx0.out.1
  have qx0_0 : w28.cell? ⟨w20.heap.size, 0, none⟩ = some (.slice ca19 n0 cc19) := Bx0.out.2 0 _ rfl
  have O27 := Lib.hid o27; clear o27
  go_wp2_with fail
  refine (eqVrdVerdict kd 0 ca27 S.length cc27 ca15 cc15 S _ ((owns_rd O27.out).grew (grew_al (Below.refl _ w28) (.cells #[.int .i64 kd, .int .i64 0, .slice ca27 S.length cc27] 30))) ((owns_rd O15.out).grew (grew_al (Below.refl _ w28) (.cells #[.int .i64 kd, .int .i64 0, .slice ca27 S.length cc27] 30))) rfl (by omega)).mono ?_
  rintro e w32 ⟨rfl, g31⟩
  have GG33 : Grew w28 w32 := grew_tr (grew_al (Below.refl _ w28) (.cells #[.int .i64 kd, .int .i64 0, .slice ca27 S.length cc27] 30)) g31
  clear la0 qa0_0
  clear lw0 qw0_0 qw0_1 qw0_2
  clear lx0 qx0_0
  have O15 := Lib.hid (owns_grew O15.out GG33)
  have O19 := Lib.hid (OwnP.grew O19.out GG33)
  have O23 := Lib.hid (OwnR.grew goodCrt O23.out GG33)
  have O27 := Lib.hid (owns_grew O27.out GG33)
  have Ba0 := Lib.hid (Ba0.out.grew GG33)
  have Bw0 := Lib.hid (Bw0.out.grew GG33)
  have Bx0 := Lib.hid (Bx0.out.grew GG33)
  have Bg0 := Lib.hid ((Boxd.new w28 30 #[.int .i64 kd, .int .i64 0, .slice ca27 S.length cc27]).grew g31)
  have s34 : w28.heap.size + 1 ≤ w32.heap.size := by have := g31.size; simp only [World.size_alloc, Nat.add_assoc, Nat.reduceAdd] at this; exact this
  have BW := Lib.hid (grew_tr BW.out GG33)
  clear GG33 g31
  have la0 := Ba0.out.1
  have qa0_0 : w32.cell? ⟨w.heap.size, 0, none⟩ = some (.slice a0 n0 c0) := Ba0.out.2 0 _ rfl
  have lw0 := Bw0.out.1
  have qw0_0 : w32.cell? ⟨w16.heap.size, 0, none⟩ = some (.int .i64 kd) := Bw0.out.2 0 _ rfl
  have qw0_1 : w32.cell? ⟨w16.heap.size, 1, none⟩ = some (.int .i64 0) := Bw0.out.2 1 _ rfl
  have qw0_2 : w32.cell? ⟨w16.heap.size, 2, none⟩ = some (.slice ca15 S.length cc15) := Bw0.out.2 2 _ rfl
  have lx0 := Bx0.out.1
  have qx0_0 : w32.cell? ⟨w20.heap.size, 0, none⟩ = some (.slice ca19 n0 cc19) := Bx0.out.2 0 _ rfl
  have lg0 := Bg0.out.1
  have qg0_0 : w32.cell? ⟨w28.heap.size, 0, none⟩ = some (.int .i64 kd) := Bg0.out.2 0 _ rfl
  have qg0_1 : w32.cell? ⟨w28.heap.size, 1, none⟩ = some (.int .i64 0) := Bg0.out.2 1 _ rfl
  have qg0_2 : w32.cell? ⟨w28.heap.size, 2, none⟩ = some (.slice ca27 S.length cc27) := Bg0.out.2 2 _ rfl
  go_wp2_with fail
  go_region_held3 (fun W => W.cell? ⟨w.heap.size, 0, none⟩ = some (.slice a0 n0 c0) ∧ W.cell? ⟨w20.heap.size, 0, none⟩ = some (.slice ca19 n0 cc19)) (first | assumption | exact ⟨qa0_0, qx0_0⟩ | exact ⟨(ext_cellD _ _ ⟨w.heap.size, 0, none⟩ la0).trans qa0_0, (ext_cellD _ _ ⟨w20.heap.size, 0, none⟩ lx0).trans qx0_0⟩)
    (first
    | (go_at_call 7; refine (toPrgProg a0 n0 c0 ps0 _ (HR0.out.grew (grew_d BW.out)) hz0 hyy0.out).mono ?_; rintro e w2 ⟨v35, ms35, rfl, o35, hm35, g35⟩; obtain ⟨ca35, cc35, rfl⟩ := owns_slice o35.2.1; have R35 := Lib.hid (prg_rd o35 hm35); clear o35 hm35; obtain ⟨y35, rfl⟩ := ext_of g35; clear g35)
    | (go_at_call 11; refine (eqPrgProg ca19 ca35 n0 n0 cc19 cc35 ps0 ps0 _ (RdL.grew stays_prc (prg_rd O19.out hq1919.out) (grew_ext (grew_d (Below.refl _ _)) _)) R35.out hn0 hn0).mono ?_; rintro e w2 ⟨rfl, g38⟩; obtain ⟨y38, rfl⟩ := ext_col g38; clear g38))
  clear R35
  obtain ⟨w37, hw2⟩ : ∃ X, ext (w32).drew y38 = X := ⟨_, rfl⟩
  rw [hw2]
  have g138 : Grew w32 w37 := by rw [← hw2]; exact grew_ext (grew_d (Below.refl _ _)) _
  clear hw2
  have GG39 : Grew w32 w37 := g138
  clear la0 qa0_0
  clear lw0 qw0_0 qw0_1 qw0_2
  clear lx0 qx0_0
  clear lg0 qg0_0 qg0_1 qg0_2
  have O15 := Lib.hid (owns_grew O15.out GG39)
  have O19 := Lib.hid (OwnP.grew O19.out GG39)
  have O23 := Lib.hid (OwnR.grew goodCrt O23.out GG39)
  have O27 := Lib.hid (owns_grew O27.out GG39)
  have Ba0 := Lib.hid (Ba0.out.grew GG39)
  have Bw0 := Lib.hid (Bw0.out.grew GG39)
  have Bx0 := Lib.hid (Bx0.out.grew GG39)
  have Bg0 := Lib.hid (Bg0.out.grew GG39)
  have s40 : w32.heap.size ≤ w37.heap.size := GG39.size
  have BW := Lib.hid (grew_tr BW.out GG39)
  clear GG39 g138
  have la0 := Ba0.out.1
  have qa0_0 : w37.cell? ⟨w.heap.size, 0, none⟩ = some (.slice a0 n0 c0) := Ba0.out.2 0 _ rfl
  have lw0 := Bw0.out.1
  have qw0_0 : w37.cell? ⟨w16.heap.size, 0, none⟩ = some (.int .i64 kd) := Bw0.out.2 0 _ rfl
  have qw0_1 : w37.cell? ⟨w16.heap.size, 1, none⟩ = some (.int .i64 0) := Bw0.out.2 1 _ rfl
  have qw0_2 : w37.cell? ⟨w16.heap.size, 2, none⟩ = some (.slice ca15 S.length cc15) := Bw0.out.2 2 _ rfl
  have lx0 := Bx0.out.1
  have qx0_0 : w37.cell? ⟨w20.heap.size, 0, none⟩ = some (.slice ca19 n0 cc19) := Bx0.out.2 0 _ rfl
  have lg0 := Bg0.out.1
  have qg0_0 : w37.cell? ⟨w28.heap.size, 0, none⟩ = some (.int .i64 kd) := Bg0.out.2 0 _ rfl
  have qg0_1 : w37.cell? ⟨w28.heap.size, 1, none⟩ = some (.int .i64 0) := Bg0.out.2 1 _ rfl
  have qg0_2 : w37.cell? ⟨w28.heap.size, 2, none⟩ = some (.slice ca27 S.length cc27) := Bg0.out.2 2 _ rfl
  go_wp2_with fail
  refine (toCrtCertS a1 n1 c1 xs1 _ (HR1.out.grew staysCrt (BW.out)) (by rw [HBK1.out]; omega)).mono ?_
  rintro e w42 ⟨v41, ms41, rfl, o41, hm41, g41⟩
  obtain ⟨ca41, cc41, he41⟩ := certs_slice o41.1 hm41 hln1.out
  subst he41
  try simp only [World.size_alloc] at o41
  have M41 := Lib.hid hm41; clear hm41
  have GG43 : Grew w37 w42 := g41
  clear la0 qa0_0
  clear lw0 qw0_0 qw0_1 qw0_2
  clear lx0 qx0_0
  clear lg0 qg0_0 qg0_1 qg0_2
  have O15 := Lib.hid (owns_grew O15.out GG43)
  have O19 := Lib.hid (OwnP.grew O19.out GG43)
  have O23 := Lib.hid (OwnR.grew goodCrt O23.out GG43)
  have O27 := Lib.hid (owns_grew O27.out GG43)
  have Ba0 := Lib.hid (Ba0.out.grew GG43)
  have Bw0 := Lib.hid (Bw0.out.grew GG43)
  have Bx0 := Lib.hid (Bx0.out.grew GG43)
  have Bg0 := Lib.hid (Bg0.out.grew GG43)
  have s44 : w37.heap.size ≤ w42.heap.size := GG43.size
  have BW := Lib.hid (grew_tr BW.out GG43)
  clear GG43 g41
  have la0 := Ba0.out.1
  have qa0_0 : w42.cell? ⟨w.heap.size, 0, none⟩ = some (.slice a0 n0 c0) := Ba0.out.2 0 _ rfl
  have lw0 := Bw0.out.1
  have qw0_0 : w42.cell? ⟨w16.heap.size, 0, none⟩ = some (.int .i64 kd) := Bw0.out.2 0 _ rfl
  have qw0_1 : w42.cell? ⟨w16.heap.size, 1, none⟩ = some (.int .i64 0) := Bw0.out.2 1 _ rfl
  have qw0_2 : w42.cell? ⟨w16.heap.size, 2, none⟩ = some (.slice ca15 S.length cc15) := Bw0.out.2 2 _ rfl
  have lx0 := Bx0.out.1
  have qx0_0 : w42.cell? ⟨w20.heap.size, 0, none⟩ = some (.slice ca19 n0 cc19) := Bx0.out.2 0 _ rfl
  have lg0 := Bg0.out.1
  have qg0_0 : w42.cell? ⟨w28.heap.size, 0, none⟩ = some (.int .i64 kd) := Bg0.out.2 0 _ rfl
  have qg0_1 : w42.cell? ⟨w28.heap.size, 1, none⟩ = some (.int .i64 0) := Bg0.out.2 1 _ rfl
  have qg0_2 : w42.cell? ⟨w28.heap.size, 2, none⟩ = some (.slice ca27 S.length cc27) := Bg0.out.2 2 _ rfl
  have O41 := Lib.hid o41; clear o41
  go_wp2_with fail
  refine (eqCrtCertS ca23 n1 cc23 ca41 cc41 xs1 _ (certs_rdX O23.out M23.out) (certs_rdX O41.out M41.out) hn1).mono ?_
  rintro e w46 ⟨rfl, g45⟩
  have GG47 : Grew w42 w46 := g45
  clear la0 qa0_0
  clear lw0 qw0_0 qw0_1 qw0_2
  clear lx0 qx0_0
  clear lg0 qg0_0 qg0_1 qg0_2
  have O15 := Lib.hid (owns_grew O15.out GG47)
  have O19 := Lib.hid (OwnP.grew O19.out GG47)
  have O23 := Lib.hid (OwnR.grew goodCrt O23.out GG47)
  have O27 := Lib.hid (owns_grew O27.out GG47)
  have O41 := Lib.hid (OwnR.grew goodCrt O41.out GG47)
  have Ba0 := Lib.hid (Ba0.out.grew GG47)
  have Bw0 := Lib.hid (Bw0.out.grew GG47)
  have Bx0 := Lib.hid (Bx0.out.grew GG47)
  have Bg0 := Lib.hid (Bg0.out.grew GG47)
  have s48 : w42.heap.size ≤ w46.heap.size := GG47.size
  have BW := Lib.hid (grew_tr BW.out GG47)
  clear GG47 g45
  have la0 := Ba0.out.1
  have qa0_0 : w46.cell? ⟨w.heap.size, 0, none⟩ = some (.slice a0 n0 c0) := Ba0.out.2 0 _ rfl
  have lw0 := Bw0.out.1
  have qw0_0 : w46.cell? ⟨w16.heap.size, 0, none⟩ = some (.int .i64 kd) := Bw0.out.2 0 _ rfl
  have qw0_1 : w46.cell? ⟨w16.heap.size, 1, none⟩ = some (.int .i64 0) := Bw0.out.2 1 _ rfl
  have qw0_2 : w46.cell? ⟨w16.heap.size, 2, none⟩ = some (.slice ca15 S.length cc15) := Bw0.out.2 2 _ rfl
  have lx0 := Bx0.out.1
  have qx0_0 : w46.cell? ⟨w20.heap.size, 0, none⟩ = some (.slice ca19 n0 cc19) := Bx0.out.2 0 _ rfl
  have lg0 := Bg0.out.1
  have qg0_0 : w46.cell? ⟨w28.heap.size, 0, none⟩ = some (.int .i64 kd) := Bg0.out.2 0 _ rfl
  have qg0_1 : w46.cell? ⟨w28.heap.size, 1, none⟩ = some (.int .i64 0) := Bg0.out.2 1 _ rfl
  have qg0_2 : w46.cell? ⟨w28.heap.size, 2, none⟩ = some (.slice ca27 S.length cc27) := Bg0.out.2 2 _ rfl
  clear O41 M41
  go_wp2_with fail
  refine (markPrgProgB ca19 n0 cc19 1 _ _ _ _ O19.out P19.out (by omega) (by omega) (fun m hm => hyy0.out m.1 (by rw [← hq1919.out]; exact List.mem_map_of_mem hm))).mono ?_
  rintro e w50 ⟨K49, rfl, hKb49, c49⟩
  clear O19
  clear la0 qa0_0
  clear lw0 qw0_0 qw0_1 qw0_2
  clear lx0 qx0_0
  clear lg0 qg0_0 qg0_1 qg0_2
  have O15 := Lib.hid (owns_chg O15.out c49 (fun b hb hF => by have h1 := P15.out b hb; obtain ⟨h2, h3⟩ := hF; (first | omega | (simp only [World.size_alloc] at *; omega))))
  have O23 := Lib.hid (OwnR.chg goodCrt O23.out c49 (fun b hb hb2 hF => by obtain ⟨h2, h3⟩ := hF; (first | omega | (simp only [World.size_alloc] at *; omega))))
  have O27 := Lib.hid (owns_chg O27.out c49 (fun b hb hF => by have h1 := P27.out b hb; obtain ⟨h2, h3⟩ := hF; (first | omega | (simp only [World.size_alloc] at *; omega))))
  have Ba0 := Lib.hid (Ba0.out.chg c49 (fun hF => by obtain ⟨h2, h3⟩ := hF; (first | omega | (simp only [World.size_alloc] at *; omega))))
  have Bw0 := Lib.hid (Bw0.out.chg c49 (fun hF => by obtain ⟨h2, h3⟩ := hF; (first | omega | (simp only [World.size_alloc] at *; omega))))
  have Bx0 := Lib.hid (Bx0.out.chg c49 (fun hF => by obtain ⟨h2, h3⟩ := hF; (first | omega | (simp only [World.size_alloc] at *; omega))))
  have Bg0 := Lib.hid (Bg0.out.chg c49 (fun hF => by obtain ⟨h2, h3⟩ := hF; (first | omega | (simp only [World.size_alloc] at *; omega))))
  have s51 : w46.heap.size ≤ w50.heap.size := c49.size
  have BW := Lib.hid (BW.out.trans (c49.belowB BW.out.size (fun b hF => by obtain ⟨h2, h3⟩ := hF; (first | omega | (simp only [World.size_alloc] at *; omega)))))
  clear c49
  have la0 := Ba0.out.1
  have qa0_0 : w50.cell? ⟨w.heap.size, 0, none⟩ = some (.slice a0 n0 c0) := Ba0.out.2 0 _ rfl
  have lw0 := Bw0.out.1
  have qw0_0 : w50.cell? ⟨w16.heap.size, 0, none⟩ = some (.int .i64 kd) := Bw0.out.2 0 _ rfl
  have qw0_1 : w50.cell? ⟨w16.heap.size, 1, none⟩ = some (.int .i64 0) := Bw0.out.2 1 _ rfl
  have qw0_2 : w50.cell? ⟨w16.heap.size, 2, none⟩ = some (.slice ca15 S.length cc15) := Bw0.out.2 2 _ rfl
  have lx0 := Bx0.out.1
  have qx0_0 : w50.cell? ⟨w20.heap.size, 0, none⟩ = some (.slice ca19 n0 cc19) := Bx0.out.2 0 _ rfl
  have lg0 := Bg0.out.1
  have qg0_0 : w50.cell? ⟨w28.heap.size, 0, none⟩ = some (.int .i64 kd) := Bg0.out.2 0 _ rfl
  have qg0_1 : w50.cell? ⟨w28.heap.size, 1, none⟩ = some (.int .i64 0) := Bg0.out.2 1 _ rfl
  have qg0_2 : w50.cell? ⟨w28.heap.size, 2, none⟩ = some (.slice ca27 S.length cc27) := Bg0.out.2 2 _ rfl
  go_wp2_with fail
  refine (markCrtCertS _ _ _ ca23 n1 cc23 K49 _ O23.out (by rw [M23.out, HBK1.out]; omega) (by rw [M23.out, HBK1.out]; omega)).mono ?_
  rintro e w53 ⟨⟨K52, rfl, hKb52⟩, c52⟩
  clear O23
  clear la0 qa0_0
  clear lw0 qw0_0 qw0_1 qw0_2
  clear lx0 qx0_0
  clear lg0 qg0_0 qg0_1 qg0_2
  have O15 := Lib.hid (owns_chg O15.out c52 (fun b hb hF => by have h1 := P15.out b hb; obtain ⟨h2, h3⟩ := hF; (first | omega | (simp only [World.size_alloc] at *; omega))))
  have O27 := Lib.hid (owns_chg O27.out c52 (fun b hb hF => by have h1 := P27.out b hb; obtain ⟨h2, h3⟩ := hF; (first | omega | (simp only [World.size_alloc] at *; omega))))
  have Ba0 := Lib.hid (Ba0.out.chg c52 (fun hF => by obtain ⟨h2, h3⟩ := hF; (first | omega | (simp only [World.size_alloc] at *; omega))))
  have Bw0 := Lib.hid (Bw0.out.chg c52 (fun hF => by obtain ⟨h2, h3⟩ := hF; (first | omega | (simp only [World.size_alloc] at *; omega))))
  have Bx0 := Lib.hid (Bx0.out.chg c52 (fun hF => by obtain ⟨h2, h3⟩ := hF; (first | omega | (simp only [World.size_alloc] at *; omega))))
  have Bg0 := Lib.hid (Bg0.out.chg c52 (fun hF => by obtain ⟨h2, h3⟩ := hF; (first | omega | (simp only [World.size_alloc] at *; omega))))
  have s54 : w50.heap.size ≤ w53.heap.size := c52.size
  have BW := Lib.hid (BW.out.trans (c52.belowB BW.out.size (fun b hF => by obtain ⟨h2, h3⟩ := hF; (first | omega | (simp only [World.size_alloc] at *; omega)))))
  clear c52
  have la0 := Ba0.out.1
  have qa0_0 : w53.cell? ⟨w.heap.size, 0, none⟩ = some (.slice a0 n0 c0) := Ba0.out.2 0 _ rfl
  have lw0 := Bw0.out.1
  have qw0_0 : w53.cell? ⟨w16.heap.size, 0, none⟩ = some (.int .i64 kd) := Bw0.out.2 0 _ rfl
  have qw0_1 : w53.cell? ⟨w16.heap.size, 1, none⟩ = some (.int .i64 0) := Bw0.out.2 1 _ rfl
  have qw0_2 : w53.cell? ⟨w16.heap.size, 2, none⟩ = some (.slice ca15 S.length cc15) := Bw0.out.2 2 _ rfl
  have lx0 := Bx0.out.1
  have qx0_0 : w53.cell? ⟨w20.heap.size, 0, none⟩ = some (.slice ca19 n0 cc19) := Bx0.out.2 0 _ rfl
  have lg0 := Bg0.out.1
  have qg0_0 : w53.cell? ⟨w28.heap.size, 0, none⟩ = some (.int .i64 kd) := Bg0.out.2 0 _ rfl
  have qg0_1 : w53.cell? ⟨w28.heap.size, 1, none⟩ = some (.int .i64 0) := Bg0.out.2 1 _ rfl
  have qg0_2 : w53.cell? ⟨w28.heap.size, 2, none⟩ = some (.slice ca27 S.length cc27) := Bg0.out.2 2 _ rfl
  have hKn52 : ¬ ((K52 : Nat) : Int) < 0 := by omega
  clear hKb52
  go_wp2_with fail
  refine (eqVrdVerdict kd 0 ca27 S.length cc27 ca15 cc15 S _ (owns_rd O27.out) (owns_rd O15.out) rfl (by omega)).mono ?_
  rintro e w56 ⟨rfl, g55⟩
  have GG57 : Grew w53 w56 := g55
  clear la0 qa0_0
  clear lw0 qw0_0 qw0_1 qw0_2
  clear lx0 qx0_0
  clear lg0 qg0_0 qg0_1 qg0_2
  have O15 := Lib.hid (owns_grew O15.out GG57)
  have O27 := Lib.hid (owns_grew O27.out GG57)
  have Ba0 := Lib.hid (Ba0.out.grew GG57)
  have Bw0 := Lib.hid (Bw0.out.grew GG57)
  have Bx0 := Lib.hid (Bx0.out.grew GG57)
  have Bg0 := Lib.hid (Bg0.out.grew GG57)
  have s58 : w53.heap.size ≤ w56.heap.size := GG57.size
  have BW := Lib.hid (grew_tr BW.out GG57)
  clear GG57 g55
  have la0 := Ba0.out.1
  have qa0_0 : w56.cell? ⟨w.heap.size, 0, none⟩ = some (.slice a0 n0 c0) := Ba0.out.2 0 _ rfl
  have lw0 := Bw0.out.1
  have qw0_0 : w56.cell? ⟨w16.heap.size, 0, none⟩ = some (.int .i64 kd) := Bw0.out.2 0 _ rfl
  have qw0_1 : w56.cell? ⟨w16.heap.size, 1, none⟩ = some (.int .i64 0) := Bw0.out.2 1 _ rfl
  have qw0_2 : w56.cell? ⟨w16.heap.size, 2, none⟩ = some (.slice ca15 S.length cc15) := Bw0.out.2 2 _ rfl
  have lx0 := Bx0.out.1
  have qx0_0 : w56.cell? ⟨w20.heap.size, 0, none⟩ = some (.slice ca19 n0 cc19) := Bx0.out.2 0 _ rfl
  have lg0 := Bg0.out.1
  have qg0_0 : w56.cell? ⟨w28.heap.size, 0, none⟩ = some (.int .i64 kd) := Bg0.out.2 0 _ rfl
  have qg0_1 : w56.cell? ⟨w28.heap.size, 1, none⟩ = some (.int .i64 0) := Bg0.out.2 1 _ rfl
  have qg0_2 : w56.cell? ⟨w28.heap.size, 2, none⟩ = some (.slice ca27 S.length cc27) := Bg0.out.2 2 _ rfl
  go_wp2_with fail
  refine (markVrdVerdict kd 0 ca27 S.length cc27 1 _ _ _ O27.out (by omega) (by omega)).mono ?_
  rintro e w60 ⟨rfl, o59, c59⟩
  clear O27
  clear la0 qa0_0
  clear lw0 qw0_0 qw0_1 qw0_2
  clear lx0 qx0_0
  clear lg0 qg0_0 qg0_1 qg0_2
  have O15 := Lib.hid (owns_chg O15.out c59 (fun b hb hF => by have h1 := P15.out b hb; have h2 := P27.out _ hF; omega))
  have Ba0 := Lib.hid (Ba0.out.chg c59 (fun hF => by have h2 := P27.out _ hF; omega))
  have Bw0 := Lib.hid (Bw0.out.chg c59 (fun hF => by have h2 := P27.out _ hF; omega))
  have Bx0 := Lib.hid (Bx0.out.chg c59 (fun hF => by have h2 := P27.out _ hF; omega))
  have Bg0 := Lib.hid (Bg0.out.chg c59 (fun hF => by have h2 := P27.out _ hF; omega))
  have s61 : w56.heap.size ≤ w60.heap.size := c59.size
  have BW := Lib.hid (BW.out.trans (c59.belowB BW.out.size (fun b hF => by have h2 := P27.out _ hF; omega)))
  clear c59
  have la0 := Ba0.out.1
  have qa0_0 : w60.cell? ⟨w.heap.size, 0, none⟩ = some (.slice a0 n0 c0) := Ba0.out.2 0 _ rfl
  have lw0 := Bw0.out.1
  have qw0_0 : w60.cell? ⟨w16.heap.size, 0, none⟩ = some (.int .i64 kd) := Bw0.out.2 0 _ rfl
  have qw0_1 : w60.cell? ⟨w16.heap.size, 1, none⟩ = some (.int .i64 0) := Bw0.out.2 1 _ rfl
  have qw0_2 : w60.cell? ⟨w16.heap.size, 2, none⟩ = some (.slice ca15 S.length cc15) := Bw0.out.2 2 _ rfl
  have lx0 := Bx0.out.1
  have qx0_0 : w60.cell? ⟨w20.heap.size, 0, none⟩ = some (.slice ca19 n0 cc19) := Bx0.out.2 0 _ rfl
  have lg0 := Bg0.out.1
  have qg0_0 : w60.cell? ⟨w28.heap.size, 0, none⟩ = some (.int .i64 kd) := Bg0.out.2 0 _ rfl
  have qg0_1 : w60.cell? ⟨w28.heap.size, 1, none⟩ = some (.int .i64 0) := Bg0.out.2 1 _ rfl
  have qg0_2 : w60.cell? ⟨w28.heap.size, 2, none⟩ = some (.slice ca27 S.length cc27) := Bg0.out.2 2 _ rfl
  have O27 := Lib.hid o59; clear o59
  go_wp2_with fail
  refine (heldVrdVerdict kd 0 ca27 S.length cc27 1 _ (owns_rd O27.out) (by omega) (by omega)).mono ?_
  rintro e w63 ⟨rfl, g62⟩
  have GG64 : Grew w60 w63 := g62
  clear la0 qa0_0
  clear lw0 qw0_0 qw0_1 qw0_2
  clear lx0 qx0_0
  clear lg0 qg0_0 qg0_1 qg0_2
  have O15 := Lib.hid (owns_grew O15.out GG64)
  have O27 := Lib.hid (owns_grew O27.out GG64)
  have Ba0 := Lib.hid (Ba0.out.grew GG64)
  have Bw0 := Lib.hid (Bw0.out.grew GG64)
  have Bx0 := Lib.hid (Bx0.out.grew GG64)
  have Bg0 := Lib.hid (Bg0.out.grew GG64)
  have s65 : w60.heap.size ≤ w63.heap.size := GG64.size
  have BW := Lib.hid (grew_tr BW.out GG64)
  clear GG64 g62
  have la0 := Ba0.out.1
  have qa0_0 : w63.cell? ⟨w.heap.size, 0, none⟩ = some (.slice a0 n0 c0) := Ba0.out.2 0 _ rfl
  have lw0 := Bw0.out.1
  have qw0_0 : w63.cell? ⟨w16.heap.size, 0, none⟩ = some (.int .i64 kd) := Bw0.out.2 0 _ rfl
  have qw0_1 : w63.cell? ⟨w16.heap.size, 1, none⟩ = some (.int .i64 0) := Bw0.out.2 1 _ rfl
  have qw0_2 : w63.cell? ⟨w16.heap.size, 2, none⟩ = some (.slice ca15 S.length cc15) := Bw0.out.2 2 _ rfl
  have lx0 := Bx0.out.1
  have qx0_0 : w63.cell? ⟨w20.heap.size, 0, none⟩ = some (.slice ca19 n0 cc19) := Bx0.out.2 0 _ rfl
  have lg0 := Bg0.out.1
  have qg0_0 : w63.cell? ⟨w28.heap.size, 0, none⟩ = some (.int .i64 kd) := Bg0.out.2 0 _ rfl
  have qg0_1 : w63.cell? ⟨w28.heap.size, 1, none⟩ = some (.int .i64 0) := Bg0.out.2 1 _ rfl
  have qg0_2 : w63.cell? ⟨w28.heap.size, 2, none⟩ = some (.slice ca27 S.length cc27) := Bg0.out.2 2 _ rfl
  go_wp2_with fail
  refine (toPrgProg a0 n0 c0 ps0 _ (HR0.out.grew (BW.out)) hz0 hyy0.out).mono ?_
  rintro e w67 ⟨v66, ms66, rfl, o66, hm66, g66⟩
  obtain ⟨ca66, cc66, rfl⟩ := owns_slice o66.2.1
  have hq6666 := Lib.hid hm66; clear hm66
  have P66 := Lib.hid (OwnP.blk o66)
  have GG68 : Grew w63 w67 := g66
  clear la0 qa0_0
  clear lw0 qw0_0 qw0_1 qw0_2
  clear lx0 qx0_0
  clear lg0 qg0_0 qg0_1 qg0_2
  have O15 := Lib.hid (owns_grew O15.out GG68)
  have O27 := Lib.hid (owns_grew O27.out GG68)
  have Ba0 := Lib.hid (Ba0.out.grew GG68)
  have Bw0 := Lib.hid (Bw0.out.grew GG68)
  have Bx0 := Lib.hid (Bx0.out.grew GG68)
  have Bg0 := Lib.hid (Bg0.out.grew GG68)
  have s69 : w63.heap.size ≤ w67.heap.size := GG68.size
  have BW := Lib.hid (grew_tr BW.out GG68)
  clear GG68 g66
  have la0 := Ba0.out.1
  have qa0_0 : w67.cell? ⟨w.heap.size, 0, none⟩ = some (.slice a0 n0 c0) := Ba0.out.2 0 _ rfl
  have lw0 := Bw0.out.1
  have qw0_0 : w67.cell? ⟨w16.heap.size, 0, none⟩ = some (.int .i64 kd) := Bw0.out.2 0 _ rfl
  have qw0_1 : w67.cell? ⟨w16.heap.size, 1, none⟩ = some (.int .i64 0) := Bw0.out.2 1 _ rfl
  have qw0_2 : w67.cell? ⟨w16.heap.size, 2, none⟩ = some (.slice ca15 S.length cc15) := Bw0.out.2 2 _ rfl
  have lx0 := Bx0.out.1
  have qx0_0 : w67.cell? ⟨w20.heap.size, 0, none⟩ = some (.slice ca19 n0 cc19) := Bx0.out.2 0 _ rfl
  have lg0 := Bg0.out.1
  have qg0_0 : w67.cell? ⟨w28.heap.size, 0, none⟩ = some (.int .i64 kd) := Bg0.out.2 0 _ rfl
  have qg0_1 : w67.cell? ⟨w28.heap.size, 1, none⟩ = some (.int .i64 0) := Bg0.out.2 1 _ rfl
  have qg0_2 : w67.cell? ⟨w28.heap.size, 2, none⟩ = some (.slice ca27 S.length cc27) := Bg0.out.2 2 _ rfl
  have O66 := Lib.hid o66; clear o66
  go_wp2_with fail
  refine (toCrtCertS a1 n1 c1 xs1 _ (HR1.out.grew staysCrt (BW.out)) (by rw [HBK1.out]; omega)).mono ?_
  rintro e w71 ⟨v70, ms70, rfl, o70, hm70, g70⟩
  obtain ⟨ca70, cc70, he70⟩ := certs_slice o70.1 hm70 hln1.out
  subst he70
  try simp only [World.size_alloc] at o70
  have M70 := Lib.hid hm70; clear hm70
  have GG72 : Grew w67 w71 := g70
  clear la0 qa0_0
  clear lw0 qw0_0 qw0_1 qw0_2
  clear lx0 qx0_0
  clear lg0 qg0_0 qg0_1 qg0_2
  have O15 := Lib.hid (owns_grew O15.out GG72)
  have O27 := Lib.hid (owns_grew O27.out GG72)
  have O66 := Lib.hid (OwnP.grew O66.out GG72)
  have Ba0 := Lib.hid (Ba0.out.grew GG72)
  have Bw0 := Lib.hid (Bw0.out.grew GG72)
  have Bx0 := Lib.hid (Bx0.out.grew GG72)
  have Bg0 := Lib.hid (Bg0.out.grew GG72)
  have s73 : w67.heap.size ≤ w71.heap.size := GG72.size
  have BW := Lib.hid (grew_tr BW.out GG72)
  clear GG72 g70
  have la0 := Ba0.out.1
  have qa0_0 : w71.cell? ⟨w.heap.size, 0, none⟩ = some (.slice a0 n0 c0) := Ba0.out.2 0 _ rfl
  have lw0 := Bw0.out.1
  have qw0_0 : w71.cell? ⟨w16.heap.size, 0, none⟩ = some (.int .i64 kd) := Bw0.out.2 0 _ rfl
  have qw0_1 : w71.cell? ⟨w16.heap.size, 1, none⟩ = some (.int .i64 0) := Bw0.out.2 1 _ rfl
  have qw0_2 : w71.cell? ⟨w16.heap.size, 2, none⟩ = some (.slice ca15 S.length cc15) := Bw0.out.2 2 _ rfl
  have lx0 := Bx0.out.1
  have qx0_0 : w71.cell? ⟨w20.heap.size, 0, none⟩ = some (.slice ca19 n0 cc19) := Bx0.out.2 0 _ rfl
  have lg0 := Bg0.out.1
  have qg0_0 : w71.cell? ⟨w28.heap.size, 0, none⟩ = some (.int .i64 kd) := Bg0.out.2 0 _ rfl
  have qg0_1 : w71.cell? ⟨w28.heap.size, 1, none⟩ = some (.int .i64 0) := Bg0.out.2 1 _ rfl
  have qg0_2 : w71.cell? ⟨w28.heap.size, 2, none⟩ = some (.slice ca27 S.length cc27) := Bg0.out.2 2 _ rfl
  have O70 := Lib.hid o70; clear o70
  go_wp2_with fail
  refine (retVrd_of (implVrdOf ca66 n0 cc66 ps0 ca70 n1 cc70 xs1 _ (prg_rd O66.out hq6666.out) hn0 (certs_rdX O70.out M70.out) hn1) HS.out).mono ?_
  rintro e w75 ⟨ca74, cc74, rfl, o74, g74⟩
  have pp := o74.lt
  try simp only [World.size_alloc] at pp
  have P74 := Lib.hid pp; clear pp
  have GG76 : Grew w71 w75 := g74
  clear la0 qa0_0
  clear lw0 qw0_0 qw0_1 qw0_2
  clear lx0 qx0_0
  clear lg0 qg0_0 qg0_1 qg0_2
  have O15 := Lib.hid (owns_grew O15.out GG76)
  have O27 := Lib.hid (owns_grew O27.out GG76)
  have O66 := Lib.hid (OwnP.grew O66.out GG76)
  have O70 := Lib.hid (OwnR.grew goodCrt O70.out GG76)
  have Ba0 := Lib.hid (Ba0.out.grew GG76)
  have Bw0 := Lib.hid (Bw0.out.grew GG76)
  have Bx0 := Lib.hid (Bx0.out.grew GG76)
  have Bg0 := Lib.hid (Bg0.out.grew GG76)
  have s77 : w71.heap.size ≤ w75.heap.size := GG76.size
  have BW := Lib.hid (grew_tr BW.out GG76)
  clear GG76 g74
  have la0 := Ba0.out.1
  have qa0_0 : w75.cell? ⟨w.heap.size, 0, none⟩ = some (.slice a0 n0 c0) := Ba0.out.2 0 _ rfl
  have lw0 := Bw0.out.1
  have qw0_0 : w75.cell? ⟨w16.heap.size, 0, none⟩ = some (.int .i64 kd) := Bw0.out.2 0 _ rfl
  have qw0_1 : w75.cell? ⟨w16.heap.size, 1, none⟩ = some (.int .i64 0) := Bw0.out.2 1 _ rfl
  have qw0_2 : w75.cell? ⟨w16.heap.size, 2, none⟩ = some (.slice ca15 S.length cc15) := Bw0.out.2 2 _ rfl
  have lx0 := Bx0.out.1
  have qx0_0 : w75.cell? ⟨w20.heap.size, 0, none⟩ = some (.slice ca19 n0 cc19) := Bx0.out.2 0 _ rfl
  have lg0 := Bg0.out.1
  have qg0_0 : w75.cell? ⟨w28.heap.size, 0, none⟩ = some (.int .i64 kd) := Bg0.out.2 0 _ rfl
  have qg0_1 : w75.cell? ⟨w28.heap.size, 1, none⟩ = some (.int .i64 0) := Bg0.out.2 1 _ rfl
  have qg0_2 : w75.cell? ⟨w28.heap.size, 2, none⟩ = some (.slice ca27 S.length cc27) := Bg0.out.2 2 _ rfl
  have O74 := Lib.hid o74; clear o74
  clear O66 P66 hq6666
  clear O70 M70
  go_wp2_with fail
  refine (eqVrdVerdict kd 0 ca74 S.length cc74 ca15 cc15 S _ ((owns_rd O74.out).grew (grew_al (Below.refl _ w75) (.cells #[.int .i64 kd, .int .i64 0, .slice ca74 S.length cc74] 30))) ((owns_rd O15.out).grew (grew_al (Below.refl _ w75) (.cells #[.int .i64 kd, .int .i64 0, .slice ca74 S.length cc74] 30))) rfl (by omega)).mono ?_
  rintro e w79 ⟨rfl, g78⟩
  have GG80 : Grew w75 w79 := grew_tr (grew_al (Below.refl _ w75) (.cells #[.int .i64 kd, .int .i64 0, .slice ca74 S.length cc74] 30)) g78
  clear la0 qa0_0
  clear lw0 qw0_0 qw0_1 qw0_2
  clear lx0 qx0_0
  clear lg0 qg0_0 qg0_1 qg0_2
  have O15 := Lib.hid (owns_grew O15.out GG80)
  have O27 := Lib.hid (owns_grew O27.out GG80)
  have O74 := Lib.hid (owns_grew O74.out GG80)
  have Ba0 := Lib.hid (Ba0.out.grew GG80)
  have Bw0 := Lib.hid (Bw0.out.grew GG80)
  have Bx0 := Lib.hid (Bx0.out.grew GG80)
  have Bg0 := Lib.hid (Bg0.out.grew GG80)
  have Bh0 := Lib.hid ((Boxd.new w75 30 #[.int .i64 kd, .int .i64 0, .slice ca74 S.length cc74]).grew g78)
  have s81 : w75.heap.size + 1 ≤ w79.heap.size := by have := g78.size; simp only [World.size_alloc, Nat.add_assoc, Nat.reduceAdd] at this; exact this
  have BW := Lib.hid (grew_tr BW.out GG80)
  clear GG80 g78
  have la0 := Ba0.out.1
  have qa0_0 : w79.cell? ⟨w.heap.size, 0, none⟩ = some (.slice a0 n0 c0) := Ba0.out.2 0 _ rfl
  have lw0 := Bw0.out.1
  have qw0_0 : w79.cell? ⟨w16.heap.size, 0, none⟩ = some (.int .i64 kd) := Bw0.out.2 0 _ rfl
  have qw0_1 : w79.cell? ⟨w16.heap.size, 1, none⟩ = some (.int .i64 0) := Bw0.out.2 1 _ rfl
  have qw0_2 : w79.cell? ⟨w16.heap.size, 2, none⟩ = some (.slice ca15 S.length cc15) := Bw0.out.2 2 _ rfl
  have lx0 := Bx0.out.1
  have qx0_0 : w79.cell? ⟨w20.heap.size, 0, none⟩ = some (.slice ca19 n0 cc19) := Bx0.out.2 0 _ rfl
  have lg0 := Bg0.out.1
  have qg0_0 : w79.cell? ⟨w28.heap.size, 0, none⟩ = some (.int .i64 kd) := Bg0.out.2 0 _ rfl
  have qg0_1 : w79.cell? ⟨w28.heap.size, 1, none⟩ = some (.int .i64 0) := Bg0.out.2 1 _ rfl
  have qg0_2 : w79.cell? ⟨w28.heap.size, 2, none⟩ = some (.slice ca27 S.length cc27) := Bg0.out.2 2 _ rfl
  have lh0 := Bh0.out.1
  have qh0_0 : w79.cell? ⟨w75.heap.size, 0, none⟩ = some (.int .i64 kd) := Bh0.out.2 0 _ rfl
  have qh0_1 : w79.cell? ⟨w75.heap.size, 1, none⟩ = some (.int .i64 0) := Bh0.out.2 1 _ rfl
  have qh0_2 : w79.cell? ⟨w75.heap.size, 2, none⟩ = some (.slice ca74 S.length cc74) := Bh0.out.2 2 _ rfl
  go_wp2_with fail
  refine (heldVrdVerdict kd 0 ca27 S.length cc27 1 _ (owns_rd O27.out) (by omega) (by omega)).mono ?_
  rintro e w83 ⟨rfl, g82⟩
  have GG84 : Grew w79 w83 := g82
  clear la0 qa0_0
  clear lw0 qw0_0 qw0_1 qw0_2
  clear lx0 qx0_0
  clear lg0 qg0_0 qg0_1 qg0_2
  clear lh0 qh0_0 qh0_1 qh0_2
  have O15 := Lib.hid (owns_grew O15.out GG84)
  have O27 := Lib.hid (owns_grew O27.out GG84)
  have O74 := Lib.hid (owns_grew O74.out GG84)
  have Ba0 := Lib.hid (Ba0.out.grew GG84)
  have Bw0 := Lib.hid (Bw0.out.grew GG84)
  have Bx0 := Lib.hid (Bx0.out.grew GG84)
  have Bg0 := Lib.hid (Bg0.out.grew GG84)
  have Bh0 := Lib.hid (Bh0.out.grew GG84)
  have s85 : w79.heap.size ≤ w83.heap.size := GG84.size
  have BW := Lib.hid (grew_tr BW.out GG84)
  clear GG84 g82
  have la0 := Ba0.out.1
  have qa0_0 : w83.cell? ⟨w.heap.size, 0, none⟩ = some (.slice a0 n0 c0) := Ba0.out.2 0 _ rfl
  have lw0 := Bw0.out.1
  have qw0_0 : w83.cell? ⟨w16.heap.size, 0, none⟩ = some (.int .i64 kd) := Bw0.out.2 0 _ rfl
  have qw0_1 : w83.cell? ⟨w16.heap.size, 1, none⟩ = some (.int .i64 0) := Bw0.out.2 1 _ rfl
  have qw0_2 : w83.cell? ⟨w16.heap.size, 2, none⟩ = some (.slice ca15 S.length cc15) := Bw0.out.2 2 _ rfl
  have lx0 := Bx0.out.1
  have qx0_0 : w83.cell? ⟨w20.heap.size, 0, none⟩ = some (.slice ca19 n0 cc19) := Bx0.out.2 0 _ rfl
  have lg0 := Bg0.out.1
  have qg0_0 : w83.cell? ⟨w28.heap.size, 0, none⟩ = some (.int .i64 kd) := Bg0.out.2 0 _ rfl
  have qg0_1 : w83.cell? ⟨w28.heap.size, 1, none⟩ = some (.int .i64 0) := Bg0.out.2 1 _ rfl
  have qg0_2 : w83.cell? ⟨w28.heap.size, 2, none⟩ = some (.slice ca27 S.length cc27) := Bg0.out.2 2 _ rfl
  have lh0 := Bh0.out.1
  have qh0_0 : w83.cell? ⟨w75.heap.size, 0, none⟩ = some (.int .i64 kd) := Bh0.out.2 0 _ rfl
  have qh0_1 : w83.cell? ⟨w75.heap.size, 1, none⟩ = some (.int .i64 0) := Bh0.out.2 1 _ rfl
  have qh0_2 : w83.cell? ⟨w75.heap.size, 2, none⟩ = some (.slice ca74 S.length cc74) := Bh0.out.2 2 _ rfl
  go_wp2
  go_ret
  exact ⟨rfl, BW.out⟩
end Go.Proofs.YtdddhnepanjmfaaGreat