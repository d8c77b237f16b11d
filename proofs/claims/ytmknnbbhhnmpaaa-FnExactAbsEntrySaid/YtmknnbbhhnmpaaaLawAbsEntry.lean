/- The walk of the law FnExactAbsEntry, program against reference. No condition. -/
import Derived.Test.YtmknnbbhhnmpaaaState
import Derived.Test.YtmknnbbhhnmpaaaPrgMark
namespace Go.Proofs.Ytmknnbbhhnmpaaa
open Go.RowKit
set_option linter.unusedVariables false
attribute [local go_sem] ext_cell ext_frozen ext_lt ext_le ext_le1 lt_s2 lt_s3 lt_s4 lt_s5 lt_s6 ext_lt1 ext_lt2 ext_lt3

set_option maxHeartbeats 8000000 in
theorem lawFnExactAbsEntry (lo0 hi0 : Int) (a0 : Option Addr) (n0 c0 : Nat) (is0 : List Ins) (w : World) (hr0 : RdL EIns 8 w a0 n0 is0) (hf0 : PrcWf ⟨lo0, hi0, is0⟩) (hl0 : n0 ≤ c0) (hm0 : c0 ≤ maxLen) :
    Calls Try.prog 7 #[.agg #[.int .i64 lo0, .int .i64 hi0, .slice a0 n0 c0]] w fun e w' => e = .returned (.bool true) ∧ Grew w w' := by
  have hn0 : n0 ≤ 9223372036854775807 := by unfold maxLen at hm0; omega
  have hln0 := Lib.hid hr0.len
  have HR0 := Lib.hid hr0; clear hr0 hf0 hl0 hm0
  have hq0 : prcEqB ⟨lo0, hi0, is0⟩ ⟨lo0, hi0, is0⟩ = true := prcEqB_iff.2 rfl
  obtain ⟨S, hS⟩ : ∃ S, entrySt lo0 hi0 = S := ⟨_, rfl⟩
  have HS := Lib.hid hS; clear hS
  have hSl : S.vars.length ≤ 4 := by rw [← HS.out]; unfold entrySt; split <;> simp
  have hqS : decide (S = S) = true := by simp
  have BW : Hid (Grew w w) := Lib.hid (Below.refl _ _)
  go_enter Try.func7, Try.ntmps7
  have C := fun W => szPrcProc lo0 hi0 a0 n0 c0 1048576 W (by omega) (by omega) hn0
  by_cases hs0 : 1048576 < (n0 : Int)
  · rw [if_pos hs0] at C
    have HC := Lib.hid C; clear C hs0
    go_wp2_with fail
    refine (HC.out _).mono ?_
    rintro e w2 ⟨rfl, g2⟩
    have BW := Lib.hid (grew_tr (grew_tr BW.out (grew_al (Below.refl _ w) (.cells #[.int .i64 lo0, .int .i64 hi0, .slice a0 n0 c0] 59))) g2)
    go_wp2
    go_ret
    exact ⟨rfl, BW.out⟩
  rw [if_neg hs0] at C
  have hz0 : n0 ≤ 1048576 := by omega
  have hy0 : ¬ 1048576 - (n0 : Int) < 0 := by omega
  have HC := Lib.hid C; clear C hs0
  go_wp2_with fail
  refine (HC.out _).mono ?_
  rintro e w1 ⟨rfl, g1⟩
  have GG2 : Grew w w1 := grew_tr (grew_al (Below.refl _ w) (.cells #[.int .i64 lo0, .int .i64 hi0, .slice a0 n0 c0] 59)) g1
  have Ba0 := Lib.hid ((Boxd.new w 59 #[.int .i64 lo0, .int .i64 hi0, .slice a0 n0 c0]).grew g1)
  have s3 : w.heap.size + 1 ≤ w1.heap.size := by have := g1.size; simp only [World.size_alloc] at this; exact this
  have BW := Lib.hid (grew_tr BW.out GG2)
  clear GG2 g1
  have la0 := Ba0.out.1
  have qa0_0 : w1.cell? ⟨w.heap.size, 0, none⟩ = some (.int .i64 lo0) := Ba0.out.2 0 _ rfl
  have qa0_1 : w1.cell? ⟨w.heap.size, 1, none⟩ = some (.int .i64 hi0) := Ba0.out.2 1 _ rfl
  have qa0_2 : w1.cell? ⟨w.heap.size, 2, none⟩ = some (.slice a0 n0 c0) := Ba0.out.2 2 _ rfl
  go_wp2_with fail
  refine (toPrcProc lo0 hi0 a0 n0 c0 is0 _ (HR0.out.grew stays_ins (BW.out)) hz0).mono ?_
  rintro e w5 ⟨v4, rfl, o4, g4⟩
  obtain ⟨ca4, cc4, rfl⟩ := owns_slice o4
  have pp := o4.lt
  try simp only [World.size_alloc] at pp
  have P4 := Lib.hid pp; clear pp
  have GG6 : Grew w1 w5 := g4
  clear la0 qa0_0 qa0_1 qa0_2
  have Ba0 := Lib.hid (Ba0.out.grew GG6)
  have s7 : w1.heap.size ≤ w5.heap.size := GG6.size
  have BW := Lib.hid (grew_tr BW.out GG6)
  clear GG6 g4
  have la0 := Ba0.out.1
  have qa0_0 : w5.cell? ⟨w.heap.size, 0, none⟩ = some (.int .i64 lo0) := Ba0.out.2 0 _ rfl
  have qa0_1 : w5.cell? ⟨w.heap.size, 1, none⟩ = some (.int .i64 hi0) := Ba0.out.2 1 _ rfl
  have qa0_2 : w5.cell? ⟨w.heap.size, 2, none⟩ = some (.slice a0 n0 c0) := Ba0.out.2 2 _ rfl
  have O4 := Lib.hid o4; clear o4
  go_wp2_with fail
  refine (specAbsEntryS S HS.out _ _ rfl).mono ?_
  rintro e w9 ⟨val8, rfl, ⟨ca8, cc8, rfl, o8⟩, g8⟩
  have pp := o8.lt
  try simp only [World.size_alloc] at pp
  have P8 := Lib.hid pp; clear pp
  have GG10 : Grew w5 w9 := g8
  clear la0 qa0_0 qa0_1 qa0_2
  have O4 := Lib.hid (owns_grew O4.out GG10)
  have Ba0 := Lib.hid (Ba0.out.grew GG10)
  have s11 : w5.heap.size ≤ w9.heap.size := GG10.size
  have BW := Lib.hid (grew_tr BW.out GG10)
  clear GG10 g8
  have la0 := Ba0.out.1
  have qa0_0 : w9.cell? ⟨w.heap.size, 0, none⟩ = some (.int .i64 lo0) := Ba0.out.2 0 _ rfl
  have qa0_1 : w9.cell? ⟨w.heap.size, 1, none⟩ = some (.int .i64 hi0) := Ba0.out.2 1 _ rfl
  have qa0_2 : w9.cell? ⟨w.heap.size, 2, none⟩ = some (.slice a0 n0 c0) := Ba0.out.2 2 _ rfl
  have O8 := Lib.hid o8; clear o8
  clear O4 P4
  go_wp2_with fail
  refine (toPrcProc lo0 hi0 a0 n0 c0 is0 _ (HR0.out.grew stays_ins (grew_tr BW.out (grew_al (Below.refl _ w9) (.cells #[.bool S.on, .slice ca8 S.vars.length cc8, .int .i64 S.lo, .int .i64 S.hi] 65)))) hz0).mono ?_
  rintro e w13 ⟨v12, rfl, o12, g12⟩
  obtain ⟨ca12, cc12, rfl⟩ := owns_slice o12
  have pp := o12.lt
  try simp only [World.size_alloc] at pp
  have P12 := Lib.hid pp; clear pp
  have GG14 : Grew w9 w13 := grew_tr (grew_al (Below.refl _ w9) (.cells #[.bool S.on, .slice ca8 S.vars.length cc8, .int .i64 S.lo, .int .i64 S.hi] 65)) g12
  clear la0 qa0_0 qa0_1 qa0_2
  have O8 := Lib.hid (owns_grew O8.out GG14)
  have Ba0 := Lib.hid (Ba0.out.grew GG14)
  have Bw0 := Lib.hid ((Boxd.new w9 65 #[.bool S.on, .slice ca8 S.vars.length cc8, .int .i64 S.lo, .int .i64 S.hi]).grew g12)
  have s15 : w9.heap.size + 1 ≤ w13.heap.size := by have := g12.size; simp only [World.size_alloc] at this; exact this
  have BW := Lib.hid (grew_tr BW.out GG14)
  clear GG14 g12
  have la0 := Ba0.out.1
  have qa0_0 : w13.cell? ⟨w.heap.size, 0, none⟩ = some (.int .i64 lo0) := Ba0.out.2 0 _ rfl
  have qa0_1 : w13.cell? ⟨w.heap.size, 1, none⟩ = some (.int .i64 hi0) := Ba0.out.2 1 _ rfl
  have qa0_2 : w13.cell? ⟨w.heap.size, 2, none⟩ = some (.slice a0 n0 c0) := Ba0.out.2 2 _ rfl
  have lw0 := Bw0.out.1
  have qw0_0 : w13.cell? ⟨w9.heap.size, 0, none⟩ = some (.bool S.on) := Bw0.out.2 0 _ rfl
  have qw0_1 : w13.cell? ⟨w9.heap.size, 1, none⟩ = some (.slice ca8 S.vars.length cc8) := Bw0.out.2 1 _ rfl
  have qw0_2 : w13.cell? ⟨w9.heap.size, 2, none⟩ = some (.int .i64 S.lo) := Bw0.out.2 2 _ rfl
  have qw0_3 : w13.cell? ⟨w9.heap.size, 3, none⟩ = some (.int .i64 S.hi) := Bw0.out.2 3 _ rfl
  have O12 := Lib.hid o12; clear o12
  go_wp2_with fail
  refine (implAbsEntryS S HS.out _ _ rfl).mono ?_
  rintro e w17 ⟨val16, rfl, ⟨ca16, cc16, rfl, o16⟩, g16⟩
  have pp := o16.lt
  try simp only [World.size_alloc] at pp
  have P16 := Lib.hid pp; clear pp
  have GG18 : Grew w13 w17 := grew_tr (grew_al (Below.refl _ w13) (.cells #[.int .i64 lo0, .int .i64 hi0, .slice ca12 n0 cc12] 46)) g16
  clear la0 qa0_0 qa0_1 qa0_2
  clear lw0 qw0_0 qw0_1 qw0_2 qw0_3
  have O8 := Lib.hid (owns_grew O8.out GG18)
  have O12 := Lib.hid (owns_grew O12.out GG18)
  have Ba0 := Lib.hid (Ba0.out.grew GG18)
  have Bw0 := Lib.hid (Bw0.out.grew GG18)
  have Bx0 := Lib.hid ((Boxd.new w13 46 #[.int .i64 lo0, .int .i64 hi0, .slice ca12 n0 cc12]).grew g16)
  have s19 : w13.heap.size + 1 ≤ w17.heap.size := by have := g16.size; simp only [World.size_alloc] at this; exact this
  have BW := Lib.hid (grew_tr BW.out GG18)
  clear GG18 g16
  have la0 := Ba0.out.1
  have qa0_0 : w17.cell? ⟨w.heap.size, 0, none⟩ = some (.int .i64 lo0) := Ba0.out.2 0 _ rfl
  have qa0_1 : w17.cell? ⟨w.heap.size, 1, none⟩ = some (.int .i64 hi0) := Ba0.out.2 1 _ rfl
  have qa0_2 : w17.cell? ⟨w.heap.size, 2, none⟩ = some (.slice a0 n0 c0) := Ba0.out.2 2 _ rfl
  have lw0 := Bw0.out.1
  have qw0_0 : w17.cell? ⟨w9.heap.size, 0, none⟩ = some (.bool S.on) := Bw0.out.2 0 _ rfl
  have qw0_1 : w17.cell? ⟨w9.heap.size, 1, none⟩ = some (.slice ca8 S.vars.length cc8) := Bw0.out.2 1 _ rfl
  have qw0_2 : w17.cell? ⟨w9.heap.size, 2, none⟩ = some (.int .i64 S.lo) := Bw0.out.2 2 _ rfl
  have qw0_3 : w17.cell? ⟨w9.heap.size, 3, none⟩ = some (.int .i64 S.hi) := Bw0.out.2 3 _ rfl
  have lx0 := Bx0.out.1
  have qx0_0 : w17.cell? ⟨w13.heap.size, 0, none⟩ = some (.int .i64 lo0) := Bx0.out.2 0 _ rfl
  have qx0_1 : w17.cell? ⟨w13.heap.size, 1, none⟩ = some (.int .i64 hi0) := Bx0.out.2 1 _ rfl
  have qx0_2 : w17.cell? ⟨w13.heap.size, 2, none⟩ = some (.slice ca12 n0 cc12) := Bx0.out.2 2 _ rfl
  have O16 := Lib.hid o16; clear o16
  go_wp2_with fail
  refine (eqAbsState S.on S.on ca16 ca8 S.vars.length S.vars.length cc16 cc8 S.vars S.vars S.lo S.hi S.lo S.hi _ (RdL.grew staysItv (rdItv_of_own rfl O16.out) (grew_al (Below.refl _ w17) (.cells #[.bool S.on, .slice ca16 S.vars.length cc16, .int .i64 S.lo, .int .i64 S.hi] 65))) (RdL.grew staysItv (rdItv_of_own rfl O8.out) (grew_al (Below.refl _ w17) (.cells #[.bool S.on, .slice ca16 S.vars.length cc16, .int .i64 S.lo, .int .i64 S.hi] 65))) (by omega) (by omega)).mono ?_
  rintro e w21 ⟨rfl, g20⟩
  have GG22 : Grew w17 w21 := grew_tr (grew_al (Below.refl _ w17) (.cells #[.bool S.on, .slice ca16 S.vars.length cc16, .int .i64 S.lo, .int .i64 S.hi] 65)) g20
  clear la0 qa0_0 qa0_1 qa0_2
  clear lw0 qw0_0 qw0_1 qw0_2 qw0_3
  clear lx0 qx0_0 qx0_1 qx0_2
  have O8 := Lib.hid (owns_grew O8.out GG22)
  have O12 := Lib.hid (owns_grew O12.out GG22)
  have O16 := Lib.hid (owns_grew O16.out GG22)
  have Ba0 := Lib.hid (Ba0.out.grew GG22)
  have Bw0 := Lib.hid (Bw0.out.grew GG22)
  have Bx0 := Lib.hid (Bx0.out.grew GG22)
  have Bg0 := Lib.hid ((Boxd.new w17 65 #[.bool S.on, .slice ca16 S.vars.length cc16, .int .i64 S.lo, .int .i64 S.hi]).grew g20)
  have s23 : w17.heap.size + 1 ≤ w21.heap.size := by have := g20.size; simp only [World.size_alloc] at this; exact this
  have BW := Lib.hid (grew_tr BW.out GG22)
  clear GG22 g20
  have la0 := Ba0.out.1
  have qa0_0 : w21.cell? ⟨w.heap.size, 0, none⟩ = some (.int .i64 lo0) := Ba0.out.2 0 _ rfl
  have qa0_1 : w21.cell? ⟨w.heap.size, 1, none⟩ = some (.int .i64 hi0) := Ba0.out.2 1 _ rfl
  have qa0_2 : w21.cell? ⟨w.heap.size, 2, none⟩ = some (.slice a0 n0 c0) := Ba0.out.2 2 _ rfl
  have lw0 := Bw0.out.1
  have qw0_0 : w21.cell? ⟨w9.heap.size, 0, none⟩ = some (.bool S.on) := Bw0.out.2 0 _ rfl
  have qw0_1 : w21.cell? ⟨w9.heap.size, 1, none⟩ = some (.slice ca8 S.vars.length cc8) := Bw0.out.2 1 _ rfl
  have qw0_2 : w21.cell? ⟨w9.heap.size, 2, none⟩ = some (.int .i64 S.lo) := Bw0.out.2 2 _ rfl
  have qw0_3 : w21.cell? ⟨w9.heap.size, 3, none⟩ = some (.int .i64 S.hi) := Bw0.out.2 3 _ rfl
  have lx0 := Bx0.out.1
  have qx0_0 : w21.cell? ⟨w13.heap.size, 0, none⟩ = some (.int .i64 lo0) := Bx0.out.2 0 _ rfl
  have qx0_1 : w21.cell? ⟨w13.heap.size, 1, none⟩ = some (.int .i64 hi0) := Bx0.out.2 1 _ rfl
  have qx0_2 : w21.cell? ⟨w13.heap.size, 2, none⟩ = some (.slice ca12 n0 cc12) := Bx0.out.2 2 _ rfl
  have lg0 := Bg0.out.1
  have qg0_0 : w21.cell? ⟨w17.heap.size, 0, none⟩ = some (.bool S.on) := Bg0.out.2 0 _ rfl
  have qg0_1 : w21.cell? ⟨w17.heap.size, 1, none⟩ = some (.slice ca16 S.vars.length cc16) := Bg0.out.2 1 _ rfl
  have qg0_2 : w21.cell? ⟨w17.heap.size, 2, none⟩ = some (.int .i64 S.lo) := Bg0.out.2 2 _ rfl
  have qg0_3 : w21.cell? ⟨w17.heap.size, 3, none⟩ = some (.int .i64 S.hi) := Bg0.out.2 3 _ rfl
  go_wp2_with fail
  go_region_held3 (fun W => W.cell? ⟨w.heap.size, 0, none⟩ = some (.int .i64 lo0) ∧ W.cell? ⟨w.heap.size, 1, none⟩ = some (.int .i64 hi0) ∧ W.cell? ⟨w.heap.size, 2, none⟩ = some (.slice a0 n0 c0) ∧ W.cell? ⟨w13.heap.size, 0, none⟩ = some (.int .i64 lo0) ∧ W.cell? ⟨w13.heap.size, 1, none⟩ = some (.int .i64 hi0) ∧ W.cell? ⟨w13.heap.size, 2, none⟩ = some (.slice ca12 n0 cc12)) (first | assumption | exact ⟨qa0_0, qa0_1, qa0_2, qx0_0, qx0_1, qx0_2⟩ | exact ⟨(ext_cellD _ _ ⟨w.heap.size, 0, none⟩ la0).trans qa0_0, (ext_cellD _ _ ⟨w.heap.size, 1, none⟩ la0).trans qa0_1, (ext_cellD _ _ ⟨w.heap.size, 2, none⟩ la0).trans qa0_2, (ext_cellD _ _ ⟨w13.heap.size, 0, none⟩ lx0).trans qx0_0, (ext_cellD _ _ ⟨w13.heap.size, 1, none⟩ lx0).trans qx0_1, (ext_cellD _ _ ⟨w13.heap.size, 2, none⟩ lx0).trans qx0_2⟩)
    (first
    | (go_at_call 35; refine (toPrcProc lo0 hi0 a0 n0 c0 is0 _ (HR0.out.grew stays_ins (grew_d BW.out)) hz0).mono ?_; rintro e w2 ⟨v24, rfl, o24, g24⟩; obtain ⟨ca24, cc24, rfl⟩ := owns_slice o24; have R24 := Lib.hid (rdI_of_own hln0.out o24); clear o24; obtain ⟨y24, rfl⟩ := ext_of g24; clear g24)
    | (go_at_call 38; refine (eqPrcProc lo0 hi0 lo0 hi0 ca12 ca24 n0 n0 cc12 cc24 is0 is0 _ ((rdI_of_own hln0.out O12.out).grew stays_ins (grew_ext (grew_d (Below.refl _ _)) _)) R24.out hn0 hn0).mono ?_; rintro e w2 ⟨rfl, g27⟩; obtain ⟨y27, rfl⟩ := ext_col g27; clear g27))
  clear R24
  obtain ⟨w26, hw2⟩ : ∃ X, ext (w21).drew y27 = X := ⟨_, rfl⟩
  rw [hw2]
  have g127 : Grew w21 w26 := by rw [← hw2]; exact grew_ext (grew_d (Below.refl _ _)) _
  clear hw2
  have GG28 : Grew w21 w26 := g127
  clear la0 qa0_0 qa0_1 qa0_2
  clear lw0 qw0_0 qw0_1 qw0_2 qw0_3
  clear lx0 qx0_0 qx0_1 qx0_2
  clear lg0 qg0_0 qg0_1 qg0_2 qg0_3
  have O8 := Lib.hid (owns_grew O8.out GG28)
  have O12 := Lib.hid (owns_grew O12.out GG28)
  have O16 := Lib.hid (owns_grew O16.out GG28)
  have Ba0 := Lib.hid (Ba0.out.grew GG28)
  have Bw0 := Lib.hid (Bw0.out.grew GG28)
  have Bx0 := Lib.hid (Bx0.out.grew GG28)
  have Bg0 := Lib.hid (Bg0.out.grew GG28)
  have s29 : w21.heap.size ≤ w26.heap.size := GG28.size
  have BW := Lib.hid (grew_tr BW.out GG28)
  clear GG28 g127
  have la0 := Ba0.out.1
  have qa0_0 : w26.cell? ⟨w.heap.size, 0, none⟩ = some (.int .i64 lo0) := Ba0.out.2 0 _ rfl
  have qa0_1 : w26.cell? ⟨w.heap.size, 1, none⟩ = some (.int .i64 hi0) := Ba0.out.2 1 _ rfl
  have qa0_2 : w26.cell? ⟨w.heap.size, 2, none⟩ = some (.slice a0 n0 c0) := Ba0.out.2 2 _ rfl
  have lw0 := Bw0.out.1
  have qw0_0 : w26.cell? ⟨w9.heap.size, 0, none⟩ = some (.bool S.on) := Bw0.out.2 0 _ rfl
  have qw0_1 : w26.cell? ⟨w9.heap.size, 1, none⟩ = some (.slice ca8 S.vars.length cc8) := Bw0.out.2 1 _ rfl
  have qw0_2 : w26.cell? ⟨w9.heap.size, 2, none⟩ = some (.int .i64 S.lo) := Bw0.out.2 2 _ rfl
  have qw0_3 : w26.cell? ⟨w9.heap.size, 3, none⟩ = some (.int .i64 S.hi) := Bw0.out.2 3 _ rfl
  have lx0 := Bx0.out.1
  have qx0_0 : w26.cell? ⟨w13.heap.size, 0, none⟩ = some (.int .i64 lo0) := Bx0.out.2 0 _ rfl
  have qx0_1 : w26.cell? ⟨w13.heap.size, 1, none⟩ = some (.int .i64 hi0) := Bx0.out.2 1 _ rfl
  have qx0_2 : w26.cell? ⟨w13.heap.size, 2, none⟩ = some (.slice ca12 n0 cc12) := Bx0.out.2 2 _ rfl
  have lg0 := Bg0.out.1
  have qg0_0 : w26.cell? ⟨w17.heap.size, 0, none⟩ = some (.bool S.on) := Bg0.out.2 0 _ rfl
  have qg0_1 : w26.cell? ⟨w17.heap.size, 1, none⟩ = some (.slice ca16 S.vars.length cc16) := Bg0.out.2 1 _ rfl
  have qg0_2 : w26.cell? ⟨w17.heap.size, 2, none⟩ = some (.int .i64 S.lo) := Bg0.out.2 2 _ rfl
  have qg0_3 : w26.cell? ⟨w17.heap.size, 3, none⟩ = some (.int .i64 S.hi) := Bg0.out.2 3 _ rfl
  go_wp2_with fail
  refine (markPrcProc lo0 hi0 ca12 n0 cc12 1 _ _ _ O12.out (by omega) (by omega)).mono ?_
  rintro e w31 ⟨rfl, o30, c30⟩
  clear o30
  clear O12
  clear la0 qa0_0 qa0_1 qa0_2
  clear lw0 qw0_0 qw0_1 qw0_2 qw0_3
  clear lx0 qx0_0 qx0_1 qx0_2
  clear lg0 qg0_0 qg0_1 qg0_2 qg0_3
  have O8 := Lib.hid (owns_chg O8.out c30 (fun b hb hF => by have h1 := P8.out b hb; have h2 := P12.out _ hF; omega))
  have O16 := Lib.hid (owns_chg O16.out c30 (fun b hb hF => by have h1 := P16.out b hb; have h2 := P12.out _ hF; omega))
  have Ba0 := Lib.hid (Ba0.out.chg c30 (fun hF => by have h2 := P12.out _ hF; omega))
  have Bw0 := Lib.hid (Bw0.out.chg c30 (fun hF => by have h2 := P12.out _ hF; omega))
  have Bx0 := Lib.hid (Bx0.out.chg c30 (fun hF => by have h2 := P12.out _ hF; omega))
  have Bg0 := Lib.hid (Bg0.out.chg c30 (fun hF => by have h2 := P12.out _ hF; omega))
  have s32 : w26.heap.size ≤ w31.heap.size := c30.size
  have BW := Lib.hid (BW.out.trans (c30.belowB BW.out.size (fun b hF => by have h2 := P12.out _ hF; omega)))
  clear c30
  have la0 := Ba0.out.1
  have qa0_0 : w31.cell? ⟨w.heap.size, 0, none⟩ = some (.int .i64 lo0) := Ba0.out.2 0 _ rfl
  have qa0_1 : w31.cell? ⟨w.heap.size, 1, none⟩ = some (.int .i64 hi0) := Ba0.out.2 1 _ rfl
  have qa0_2 : w31.cell? ⟨w.heap.size, 2, none⟩ = some (.slice a0 n0 c0) := Ba0.out.2 2 _ rfl
  have lw0 := Bw0.out.1
  have qw0_0 : w31.cell? ⟨w9.heap.size, 0, none⟩ = some (.bool S.on) := Bw0.out.2 0 _ rfl
  have qw0_1 : w31.cell? ⟨w9.heap.size, 1, none⟩ = some (.slice ca8 S.vars.length cc8) := Bw0.out.2 1 _ rfl
  have qw0_2 : w31.cell? ⟨w9.heap.size, 2, none⟩ = some (.int .i64 S.lo) := Bw0.out.2 2 _ rfl
  have qw0_3 : w31.cell? ⟨w9.heap.size, 3, none⟩ = some (.int .i64 S.hi) := Bw0.out.2 3 _ rfl
  have lx0 := Bx0.out.1
  have qx0_0 : w31.cell? ⟨w13.heap.size, 0, none⟩ = some (.int .i64 lo0) := Bx0.out.2 0 _ rfl
  have qx0_1 : w31.cell? ⟨w13.heap.size, 1, none⟩ = some (.int .i64 hi0) := Bx0.out.2 1 _ rfl
  have qx0_2 : w31.cell? ⟨w13.heap.size, 2, none⟩ = some (.slice ca12 n0 cc12) := Bx0.out.2 2 _ rfl
  have lg0 := Bg0.out.1
  have qg0_0 : w31.cell? ⟨w17.heap.size, 0, none⟩ = some (.bool S.on) := Bg0.out.2 0 _ rfl
  have qg0_1 : w31.cell? ⟨w17.heap.size, 1, none⟩ = some (.slice ca16 S.vars.length cc16) := Bg0.out.2 1 _ rfl
  have qg0_2 : w31.cell? ⟨w17.heap.size, 2, none⟩ = some (.int .i64 S.lo) := Bg0.out.2 2 _ rfl
  have qg0_3 : w31.cell? ⟨w17.heap.size, 3, none⟩ = some (.int .i64 S.hi) := Bg0.out.2 3 _ rfl
  go_wp2_with fail
  refine (eqAbsState S.on S.on ca16 ca8 S.vars.length S.vars.length cc16 cc8 S.vars S.vars S.lo S.hi S.lo S.hi _ (rdItv_of_own rfl O16.out) (rdItv_of_own rfl O8.out) (by omega) (by omega)).mono ?_
  rintro e w34 ⟨rfl, g33⟩
  have GG35 : Grew w31 w34 := g33
  clear la0 qa0_0 qa0_1 qa0_2
  clear lw0 qw0_0 qw0_1 qw0_2 qw0_3
  clear lx0 qx0_0 qx0_1 qx0_2
  clear lg0 qg0_0 qg0_1 qg0_2 qg0_3
  have O8 := Lib.hid (owns_grew O8.out GG35)
  have O16 := Lib.hid (owns_grew O16.out GG35)
  have Ba0 := Lib.hid (Ba0.out.grew GG35)
  have Bw0 := Lib.hid (Bw0.out.grew GG35)
  have Bx0 := Lib.hid (Bx0.out.grew GG35)
  have Bg0 := Lib.hid (Bg0.out.grew GG35)
  have s36 : w31.heap.size ≤ w34.heap.size := GG35.size
  have BW := Lib.hid (grew_tr BW.out GG35)
  clear GG35 g33
  have la0 := Ba0.out.1
  have qa0_0 : w34.cell? ⟨w.heap.size, 0, none⟩ = some (.int .i64 lo0) := Ba0.out.2 0 _ rfl
  have qa0_1 : w34.cell? ⟨w.heap.size, 1, none⟩ = some (.int .i64 hi0) := Ba0.out.2 1 _ rfl
  have qa0_2 : w34.cell? ⟨w.heap.size, 2, none⟩ = some (.slice a0 n0 c0) := Ba0.out.2 2 _ rfl
  have lw0 := Bw0.out.1
  have qw0_0 : w34.cell? ⟨w9.heap.size, 0, none⟩ = some (.bool S.on) := Bw0.out.2 0 _ rfl
  have qw0_1 : w34.cell? ⟨w9.heap.size, 1, none⟩ = some (.slice ca8 S.vars.length cc8) := Bw0.out.2 1 _ rfl
  have qw0_2 : w34.cell? ⟨w9.heap.size, 2, none⟩ = some (.int .i64 S.lo) := Bw0.out.2 2 _ rfl
  have qw0_3 : w34.cell? ⟨w9.heap.size, 3, none⟩ = some (.int .i64 S.hi) := Bw0.out.2 3 _ rfl
  have lx0 := Bx0.out.1
  have qx0_0 : w34.cell? ⟨w13.heap.size, 0, none⟩ = some (.int .i64 lo0) := Bx0.out.2 0 _ rfl
  have qx0_1 : w34.cell? ⟨w13.heap.size, 1, none⟩ = some (.int .i64 hi0) := Bx0.out.2 1 _ rfl
  have qx0_2 : w34.cell? ⟨w13.heap.size, 2, none⟩ = some (.slice ca12 n0 cc12) := Bx0.out.2 2 _ rfl
  have lg0 := Bg0.out.1
  have qg0_0 : w34.cell? ⟨w17.heap.size, 0, none⟩ = some (.bool S.on) := Bg0.out.2 0 _ rfl
  have qg0_1 : w34.cell? ⟨w17.heap.size, 1, none⟩ = some (.slice ca16 S.vars.length cc16) := Bg0.out.2 1 _ rfl
  have qg0_2 : w34.cell? ⟨w17.heap.size, 2, none⟩ = some (.int .i64 S.lo) := Bg0.out.2 2 _ rfl
  have qg0_3 : w34.cell? ⟨w17.heap.size, 3, none⟩ = some (.int .i64 S.hi) := Bg0.out.2 3 _ rfl
  go_wp2_with fail
  refine (markAbsState S.on ca16 S.vars.length cc16 S.lo S.hi 1 _ _ _ O16.out (by omega) (by omega)).mono ?_
  rintro e w38 ⟨rfl, o37, c37⟩
  clear O16
  clear la0 qa0_0 qa0_1 qa0_2
  clear lw0 qw0_0 qw0_1 qw0_2 qw0_3
  clear lx0 qx0_0 qx0_1 qx0_2
  clear lg0 qg0_0 qg0_1 qg0_2 qg0_3
  have O8 := Lib.hid (owns_chg O8.out c37 (fun b hb hF => by have h1 := P8.out b hb; have h2 := P16.out _ hF; omega))
  have Ba0 := Lib.hid (Ba0.out.chg c37 (fun hF => by have h2 := P16.out _ hF; omega))
  have Bw0 := Lib.hid (Bw0.out.chg c37 (fun hF => by have h2 := P16.out _ hF; omega))
  have Bx0 := Lib.hid (Bx0.out.chg c37 (fun hF => by have h2 := P16.out _ hF; omega))
  have Bg0 := Lib.hid (Bg0.out.chg c37 (fun hF => by have h2 := P16.out _ hF; omega))
  have s39 : w34.heap.size ≤ w38.heap.size := c37.size
  have BW := Lib.hid (BW.out.trans (c37.belowB BW.out.size (fun b hF => by have h2 := P16.out _ hF; omega)))
  clear c37
  have la0 := Ba0.out.1
  have qa0_0 : w38.cell? ⟨w.heap.size, 0, none⟩ = some (.int .i64 lo0) := Ba0.out.2 0 _ rfl
  have qa0_1 : w38.cell? ⟨w.heap.size, 1, none⟩ = some (.int .i64 hi0) := Ba0.out.2 1 _ rfl
  have qa0_2 : w38.cell? ⟨w.heap.size, 2, none⟩ = some (.slice a0 n0 c0) := Ba0.out.2 2 _ rfl
  have lw0 := Bw0.out.1
  have qw0_0 : w38.cell? ⟨w9.heap.size, 0, none⟩ = some (.bool S.on) := Bw0.out.2 0 _ rfl
  have qw0_1 : w38.cell? ⟨w9.heap.size, 1, none⟩ = some (.slice ca8 S.vars.length cc8) := Bw0.out.2 1 _ rfl
  have qw0_2 : w38.cell? ⟨w9.heap.size, 2, none⟩ = some (.int .i64 S.lo) := Bw0.out.2 2 _ rfl
  have qw0_3 : w38.cell? ⟨w9.heap.size, 3, none⟩ = some (.int .i64 S.hi) := Bw0.out.2 3 _ rfl
  have lx0 := Bx0.out.1
  have qx0_0 : w38.cell? ⟨w13.heap.size, 0, none⟩ = some (.int .i64 lo0) := Bx0.out.2 0 _ rfl
  have qx0_1 : w38.cell? ⟨w13.heap.size, 1, none⟩ = some (.int .i64 hi0) := Bx0.out.2 1 _ rfl
  have qx0_2 : w38.cell? ⟨w13.heap.size, 2, none⟩ = some (.slice ca12 n0 cc12) := Bx0.out.2 2 _ rfl
  have lg0 := Bg0.out.1
  have qg0_0 : w38.cell? ⟨w17.heap.size, 0, none⟩ = some (.bool S.on) := Bg0.out.2 0 _ rfl
  have qg0_1 : w38.cell? ⟨w17.heap.size, 1, none⟩ = some (.slice ca16 S.vars.length cc16) := Bg0.out.2 1 _ rfl
  have qg0_2 : w38.cell? ⟨w17.heap.size, 2, none⟩ = some (.int .i64 S.lo) := Bg0.out.2 2 _ rfl
  have qg0_3 : w38.cell? ⟨w17.heap.size, 3, none⟩ = some (.int .i64 S.hi) := Bg0.out.2 3 _ rfl
  have O16 := Lib.hid o37; clear o37
  go_wp2_with fail
  refine (heldAbsState S.on ca16 S.vars.length cc16 S.lo S.hi 1 _ (owns_rd O16.out) (by omega) (by omega)).mono ?_
  rintro e w41 ⟨rfl, g40⟩
  have GG42 : Grew w38 w41 := g40
  clear la0 qa0_0 qa0_1 qa0_2
  clear lw0 qw0_0 qw0_1 qw0_2 qw0_3
  clear lx0 qx0_0 qx0_1 qx0_2
  clear lg0 qg0_0 qg0_1 qg0_2 qg0_3
  have O8 := Lib.hid (owns_grew O8.out GG42)
  have O16 := Lib.hid (owns_grew O16.out GG42)
  have Ba0 := Lib.hid (Ba0.out.grew GG42)
  have Bw0 := Lib.hid (Bw0.out.grew GG42)
  have Bx0 := Lib.hid (Bx0.out.grew GG42)
  have Bg0 := Lib.hid (Bg0.out.grew GG42)
  have s43 : w38.heap.size ≤ w41.heap.size := GG42.size
  have BW := Lib.hid (grew_tr BW.out GG42)
  clear GG42 g40
  have la0 := Ba0.out.1
  have qa0_0 : w41.cell? ⟨w.heap.size, 0, none⟩ = some (.int .i64 lo0) := Ba0.out.2 0 _ rfl
  have qa0_1 : w41.cell? ⟨w.heap.size, 1, none⟩ = some (.int .i64 hi0) := Ba0.out.2 1 _ rfl
  have qa0_2 : w41.cell? ⟨w.heap.size, 2, none⟩ = some (.slice a0 n0 c0) := Ba0.out.2 2 _ rfl
  have lw0 := Bw0.out.1
  have qw0_0 : w41.cell? ⟨w9.heap.size, 0, none⟩ = some (.bool S.on) := Bw0.out.2 0 _ rfl
  have qw0_1 : w41.cell? ⟨w9.heap.size, 1, none⟩ = some (.slice ca8 S.vars.length cc8) := Bw0.out.2 1 _ rfl
  have qw0_2 : w41.cell? ⟨w9.heap.size, 2, none⟩ = some (.int .i64 S.lo) := Bw0.out.2 2 _ rfl
  have qw0_3 : w41.cell? ⟨w9.heap.size, 3, none⟩ = some (.int .i64 S.hi) := Bw0.out.2 3 _ rfl
  have lx0 := Bx0.out.1
  have qx0_0 : w41.cell? ⟨w13.heap.size, 0, none⟩ = some (.int .i64 lo0) := Bx0.out.2 0 _ rfl
  have qx0_1 : w41.cell? ⟨w13.heap.size, 1, none⟩ = some (.int .i64 hi0) := Bx0.out.2 1 _ rfl
  have qx0_2 : w41.cell? ⟨w13.heap.size, 2, none⟩ = some (.slice ca12 n0 cc12) := Bx0.out.2 2 _ rfl
  have lg0 := Bg0.out.1
  have qg0_0 : w41.cell? ⟨w17.heap.size, 0, none⟩ = some (.bool S.on) := Bg0.out.2 0 _ rfl
  have qg0_1 : w41.cell? ⟨w17.heap.size, 1, none⟩ = some (.slice ca16 S.vars.length cc16) := Bg0.out.2 1 _ rfl
  have qg0_2 : w41.cell? ⟨w17.heap.size, 2, none⟩ = some (.int .i64 S.lo) := Bg0.out.2 2 _ rfl
  have qg0_3 : w41.cell? ⟨w17.heap.size, 3, none⟩ = some (.int .i64 S.hi) := Bg0.out.2 3 _ rfl
  go_wp2_with fail
  refine (toPrcProc lo0 hi0 a0 n0 c0 is0 _ (HR0.out.grew stays_ins (BW.out)) hz0).mono ?_
  rintro e w45 ⟨v44, rfl, o44, g44⟩
  obtain ⟨ca44, cc44, rfl⟩ := owns_slice o44
  have pp := o44.lt
  try simp only [World.size_alloc] at pp
  have P44 := Lib.hid pp; clear pp
  have GG46 : Grew w41 w45 := g44
  clear la0 qa0_0 qa0_1 qa0_2
  clear lw0 qw0_0 qw0_1 qw0_2 qw0_3
  clear lx0 qx0_0 qx0_1 qx0_2
  clear lg0 qg0_0 qg0_1 qg0_2 qg0_3
  have O8 := Lib.hid (owns_grew O8.out GG46)
  have O16 := Lib.hid (owns_grew O16.out GG46)
  have Ba0 := Lib.hid (Ba0.out.grew GG46)
  have Bw0 := Lib.hid (Bw0.out.grew GG46)
  have Bx0 := Lib.hid (Bx0.out.grew GG46)
  have Bg0 := Lib.hid (Bg0.out.grew GG46)
  have s47 : w41.heap.size ≤ w45.heap.size := GG46.size
  have BW := Lib.hid (grew_tr BW.out GG46)
  clear GG46 g44
  have la0 := Ba0.out.1
  have qa0_0 : w45.cell? ⟨w.heap.size, 0, none⟩ = some (.int .i64 lo0) := Ba0.out.2 0 _ rfl
  have qa0_1 : w45.cell? ⟨w.heap.size, 1, none⟩ = some (.int .i64 hi0) := Ba0.out.2 1 _ rfl
  have qa0_2 : w45.cell? ⟨w.heap.size, 2, none⟩ = some (.slice a0 n0 c0) := Ba0.out.2 2 _ rfl
  have lw0 := Bw0.out.1
  have qw0_0 : w45.cell? ⟨w9.heap.size, 0, none⟩ = some (.bool S.on) := Bw0.out.2 0 _ rfl
  have qw0_1 : w45.cell? ⟨w9.heap.size, 1, none⟩ = some (.slice ca8 S.vars.length cc8) := Bw0.out.2 1 _ rfl
  have qw0_2 : w45.cell? ⟨w9.heap.size, 2, none⟩ = some (.int .i64 S.lo) := Bw0.out.2 2 _ rfl
  have qw0_3 : w45.cell? ⟨w9.heap.size, 3, none⟩ = some (.int .i64 S.hi) := Bw0.out.2 3 _ rfl
  have lx0 := Bx0.out.1
  have qx0_0 : w45.cell? ⟨w13.heap.size, 0, none⟩ = some (.int .i64 lo0) := Bx0.out.2 0 _ rfl
  have qx0_1 : w45.cell? ⟨w13.heap.size, 1, none⟩ = some (.int .i64 hi0) := Bx0.out.2 1 _ rfl
  have qx0_2 : w45.cell? ⟨w13.heap.size, 2, none⟩ = some (.slice ca12 n0 cc12) := Bx0.out.2 2 _ rfl
  have lg0 := Bg0.out.1
  have qg0_0 : w45.cell? ⟨w17.heap.size, 0, none⟩ = some (.bool S.on) := Bg0.out.2 0 _ rfl
  have qg0_1 : w45.cell? ⟨w17.heap.size, 1, none⟩ = some (.slice ca16 S.vars.length cc16) := Bg0.out.2 1 _ rfl
  have qg0_2 : w45.cell? ⟨w17.heap.size, 2, none⟩ = some (.int .i64 S.lo) := Bg0.out.2 2 _ rfl
  have qg0_3 : w45.cell? ⟨w17.heap.size, 3, none⟩ = some (.int .i64 S.hi) := Bg0.out.2 3 _ rfl
  have O44 := Lib.hid o44; clear o44
  go_wp2_with fail
  refine (implAbsEntryS S HS.out _ _ rfl).mono ?_
  rintro e w49 ⟨val48, rfl, ⟨ca48, cc48, rfl, o48⟩, g48⟩
  have pp := o48.lt
  try simp only [World.size_alloc] at pp
  have P48 := Lib.hid pp; clear pp
  have GG50 : Grew w45 w49 := g48
  clear la0 qa0_0 qa0_1 qa0_2
  clear lw0 qw0_0 qw0_1 qw0_2 qw0_3
  clear lx0 qx0_0 qx0_1 qx0_2
  clear lg0 qg0_0 qg0_1 qg0_2 qg0_3
  have O8 := Lib.hid (owns_grew O8.out GG50)
  have O16 := Lib.hid (owns_grew O16.out GG50)
  have O44 := Lib.hid (owns_grew O44.out GG50)
  have Ba0 := Lib.hid (Ba0.out.grew GG50)
  have Bw0 := Lib.hid (Bw0.out.grew GG50)
  have Bx0 := Lib.hid (Bx0.out.grew GG50)
  have Bg0 := Lib.hid (Bg0.out.grew GG50)
  have s51 : w45.heap.size ≤ w49.heap.size := GG50.size
  have BW := Lib.hid (grew_tr BW.out GG50)
  clear GG50 g48
  have la0 := Ba0.out.1
  have qa0_0 : w49.cell? ⟨w.heap.size, 0, none⟩ = some (.int .i64 lo0) := Ba0.out.2 0 _ rfl
  have qa0_1 : w49.cell? ⟨w.heap.size, 1, none⟩ = some (.int .i64 hi0) := Ba0.out.2 1 _ rfl
  have qa0_2 : w49.cell? ⟨w.heap.size, 2, none⟩ = some (.slice a0 n0 c0) := Ba0.out.2 2 _ rfl
  have lw0 := Bw0.out.1
  have qw0_0 : w49.cell? ⟨w9.heap.size, 0, none⟩ = some (.bool S.on) := Bw0.out.2 0 _ rfl
  have qw0_1 : w49.cell? ⟨w9.heap.size, 1, none⟩ = some (.slice ca8 S.vars.length cc8) := Bw0.out.2 1 _ rfl
  have qw0_2 : w49.cell? ⟨w9.heap.size, 2, none⟩ = some (.int .i64 S.lo) := Bw0.out.2 2 _ rfl
  have qw0_3 : w49.cell? ⟨w9.heap.size, 3, none⟩ = some (.int .i64 S.hi) := Bw0.out.2 3 _ rfl
  have lx0 := Bx0.out.1
  have qx0_0 : w49.cell? ⟨w13.heap.size, 0, none⟩ = some (.int .i64 lo0) := Bx0.out.2 0 _ rfl
  have qx0_1 : w49.cell? ⟨w13.heap.size, 1, none⟩ = some (.int .i64 hi0) := Bx0.out.2 1 _ rfl
  have qx0_2 : w49.cell? ⟨w13.heap.size, 2, none⟩ = some (.slice ca12 n0 cc12) := Bx0.out.2 2 _ rfl
  have lg0 := Bg0.out.1
  have qg0_0 : w49.cell? ⟨w17.heap.size, 0, none⟩ = some (.bool S.on) := Bg0.out.2 0 _ rfl
  have qg0_1 : w49.cell? ⟨w17.heap.size, 1, none⟩ = some (.slice ca16 S.vars.length cc16) := Bg0.out.2 1 _ rfl
  have qg0_2 : w49.cell? ⟨w17.heap.size, 2, none⟩ = some (.int .i64 S.lo) := Bg0.out.2 2 _ rfl
  have qg0_3 : w49.cell? ⟨w17.heap.size, 3, none⟩ = some (.int .i64 S.hi) := Bg0.out.2 3 _ rfl
  have O48 := Lib.hid o48; clear o48
  clear O44 P44
  go_wp2_with fail
  refine (eqAbsState S.on S.on ca48 ca8 S.vars.length S.vars.length cc48 cc8 S.vars S.vars S.lo S.hi S.lo S.hi _ (RdL.grew staysItv (rdItv_of_own rfl O48.out) (grew_al (Below.refl _ w49) (.cells #[.bool S.on, .slice ca48 S.vars.length cc48, .int .i64 S.lo, .int .i64 S.hi] 65))) (RdL.grew staysItv (rdItv_of_own rfl O8.out) (grew_al (Below.refl _ w49) (.cells #[.bool S.on, .slice ca48 S.vars.length cc48, .int .i64 S.lo, .int .i64 S.hi] 65))) (by omega) (by omega)).mono ?_
  rintro e w53 ⟨rfl, g52⟩
  have GG54 : Grew w49 w53 := grew_tr (grew_al (Below.refl _ w49) (.cells #[.bool S.on, .slice ca48 S.vars.length cc48, .int .i64 S.lo, .int .i64 S.hi] 65)) g52
  clear la0 qa0_0 qa0_1 qa0_2
  clear lw0 qw0_0 qw0_1 qw0_2 qw0_3
  clear lx0 qx0_0 qx0_1 qx0_2
  clear lg0 qg0_0 qg0_1 qg0_2 qg0_3
  have O8 := Lib.hid (owns_grew O8.out GG54)
  have O16 := Lib.hid (owns_grew O16.out GG54)
  have O48 := Lib.hid (owns_grew O48.out GG54)
  have Ba0 := Lib.hid (Ba0.out.grew GG54)
  have Bw0 := Lib.hid (Bw0.out.grew GG54)
  have Bx0 := Lib.hid (Bx0.out.grew GG54)
  have Bg0 := Lib.hid (Bg0.out.grew GG54)
  have Bh0 := Lib.hid ((Boxd.new w49 65 #[.bool S.on, .slice ca48 S.vars.length cc48, .int .i64 S.lo, .int .i64 S.hi]).grew g52)
  have s55 : w49.heap.size + 1 ≤ w53.heap.size := by have := g52.size; simp only [World.size_alloc] at this; exact this
  have BW := Lib.hid (grew_tr BW.out GG54)
  clear GG54 g52
  have la0 := Ba0.out.1
  have qa0_0 : w53.cell? ⟨w.heap.size, 0, none⟩ = some (.int .i64 lo0) := Ba0.out.2 0 _ rfl
  have qa0_1 : w53.cell? ⟨w.heap.size, 1, none⟩ = some (.int .i64 hi0) := Ba0.out.2 1 _ rfl
  have qa0_2 : w53.cell? ⟨w.heap.size, 2, none⟩ = some (.slice a0 n0 c0) := Ba0.out.2 2 _ rfl
  have lw0 := Bw0.out.1
  have qw0_0 : w53.cell? ⟨w9.heap.size, 0, none⟩ = some (.bool S.on) := Bw0.out.2 0 _ rfl
  have qw0_1 : w53.cell? ⟨w9.heap.size, 1, none⟩ = some (.slice ca8 S.vars.length cc8) := Bw0.out.2 1 _ rfl
  have qw0_2 : w53.cell? ⟨w9.heap.size, 2, none⟩ = some (.int .i64 S.lo) := Bw0.out.2 2 _ rfl
  have qw0_3 : w53.cell? ⟨w9.heap.size, 3, none⟩ = some (.int .i64 S.hi) := Bw0.out.2 3 _ rfl
  have lx0 := Bx0.out.1
  have qx0_0 : w53.cell? ⟨w13.heap.size, 0, none⟩ = some (.int .i64 lo0) := Bx0.out.2 0 _ rfl
  have qx0_1 : w53.cell? ⟨w13.heap.size, 1, none⟩ = some (.int .i64 hi0) := Bx0.out.2 1 _ rfl
  have qx0_2 : w53.cell? ⟨w13.heap.size, 2, none⟩ = some (.slice ca12 n0 cc12) := Bx0.out.2 2 _ rfl
  have lg0 := Bg0.out.1
  have qg0_0 : w53.cell? ⟨w17.heap.size, 0, none⟩ = some (.bool S.on) := Bg0.out.2 0 _ rfl
  have qg0_1 : w53.cell? ⟨w17.heap.size, 1, none⟩ = some (.slice ca16 S.vars.length cc16) := Bg0.out.2 1 _ rfl
  have qg0_2 : w53.cell? ⟨w17.heap.size, 2, none⟩ = some (.int .i64 S.lo) := Bg0.out.2 2 _ rfl
  have qg0_3 : w53.cell? ⟨w17.heap.size, 3, none⟩ = some (.int .i64 S.hi) := Bg0.out.2 3 _ rfl
  have lh0 := Bh0.out.1
  have qh0_0 : w53.cell? ⟨w49.heap.size, 0, none⟩ = some (.bool S.on) := Bh0.out.2 0 _ rfl
  have qh0_1 : w53.cell? ⟨w49.heap.size, 1, none⟩ = some (.slice ca48 S.vars.length cc48) := Bh0.out.2 1 _ rfl
  have qh0_2 : w53.cell? ⟨w49.heap.size, 2, none⟩ = some (.int .i64 S.lo) := Bh0.out.2 2 _ rfl
  have qh0_3 : w53.cell? ⟨w49.heap.size, 3, none⟩ = some (.int .i64 S.hi) := Bh0.out.2 3 _ rfl
  go_wp2_with fail
  refine (heldAbsState S.on ca16 S.vars.length cc16 S.lo S.hi 1 _ (owns_rd O16.out) (by omega) (by omega)).mono ?_
  rintro e w57 ⟨rfl, g56⟩
  have GG58 : Grew w53 w57 := g56
  clear la0 qa0_0 qa0_1 qa0_2
  clear lw0 qw0_0 qw0_1 qw0_2 qw0_3
  clear lx0 qx0_0 qx0_1 qx0_2
  clear lg0 qg0_0 qg0_1 qg0_2 qg0_3
  clear lh0 qh0_0 qh0_1 qh0_2 qh0_3
  have O8 := Lib.hid (owns_grew O8.out GG58)
  have O16 := Lib.hid (owns_grew O16.out GG58)
  have O48 := Lib.hid (owns_grew O48.out GG58)
  have Ba0 := Lib.hid (Ba0.out.grew GG58)
  have Bw0 := Lib.hid (Bw0.out.grew GG58)
  have Bx0 := Lib.hid (Bx0.out.grew GG58)
  have Bg0 := Lib.hid (Bg0.out.grew GG58)
  have Bh0 := Lib.hid (Bh0.out.grew GG58)
  have s59 : w53.heap.size ≤ w57.heap.size := GG58.size
  have BW := Lib.hid (grew_tr BW.out GG58)
  clear GG58 g56
  have la0 := Ba0.out.1
  have qa0_0 : w57.cell? ⟨w.heap.size, 0, none⟩ = some (.int .i64 lo0) := Ba0.out.2 0 _ rfl
  have qa0_1 : w57.cell? ⟨w.heap.size, 1, none⟩ = some (.int .i64 hi0) := Ba0.out.2 1 _ rfl
  have qa0_2 : w57.cell? ⟨w.heap.size, 2, none⟩ = some (.slice a0 n0 c0) := Ba0.out.2 2 _ rfl
  have lw0 := Bw0.out.1
  have qw0_0 : w57.cell? ⟨w9.heap.size, 0, none⟩ = some (.bool S.on) := Bw0.out.2 0 _ rfl
  have qw0_1 : w57.cell? ⟨w9.heap.size, 1, none⟩ = some (.slice ca8 S.vars.length cc8) := Bw0.out.2 1 _ rfl
  have qw0_2 : w57.cell? ⟨w9.heap.size, 2, none⟩ = some (.int .i64 S.lo) := Bw0.out.2 2 _ rfl
  have qw0_3 : w57.cell? ⟨w9.heap.size, 3, none⟩ = some (.int .i64 S.hi) := Bw0.out.2 3 _ rfl
  have lx0 := Bx0.out.1
  have qx0_0 : w57.cell? ⟨w13.heap.size, 0, none⟩ = some (.int .i64 lo0) := Bx0.out.2 0 _ rfl
  have qx0_1 : w57.cell? ⟨w13.heap.size, 1, none⟩ = some (.int .i64 hi0) := Bx0.out.2 1 _ rfl
  have qx0_2 : w57.cell? ⟨w13.heap.size, 2, none⟩ = some (.slice ca12 n0 cc12) := Bx0.out.2 2 _ rfl
  have lg0 := Bg0.out.1
  have qg0_0 : w57.cell? ⟨w17.heap.size, 0, none⟩ = some (.bool S.on) := Bg0.out.2 0 _ rfl
  have qg0_1 : w57.cell? ⟨w17.heap.size, 1, none⟩ = some (.slice ca16 S.vars.length cc16) := Bg0.out.2 1 _ rfl
  have qg0_2 : w57.cell? ⟨w17.heap.size, 2, none⟩ = some (.int .i64 S.lo) := Bg0.out.2 2 _ rfl
  have qg0_3 : w57.cell? ⟨w17.heap.size, 3, none⟩ = some (.int .i64 S.hi) := Bg0.out.2 3 _ rfl
  have lh0 := Bh0.out.1
  have qh0_0 : w57.cell? ⟨w49.heap.size, 0, none⟩ = some (.bool S.on) := Bh0.out.2 0 _ rfl
  have qh0_1 : w57.cell? ⟨w49.heap.size, 1, none⟩ = some (.slice ca48 S.vars.length cc48) := Bh0.out.2 1 _ rfl
  have qh0_2 : w57.cell? ⟨w49.heap.size, 2, none⟩ = some (.int .i64 S.lo) := Bh0.out.2 2 _ rfl
  have qh0_3 : w57.cell? ⟨w49.heap.size, 3, none⟩ = some (.int .i64 S.hi) := Bh0.out.2 3 _ rfl
  go_wp2
  go_ret
  exact ⟨rfl, BW.out⟩
end Go.Proofs.Ytmknnbbhhnmpaaa