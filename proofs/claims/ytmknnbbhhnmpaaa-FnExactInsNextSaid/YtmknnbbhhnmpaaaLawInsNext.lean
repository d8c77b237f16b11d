/- The walk of the law FnExactInsNext, program against reference. No condition. -/
import Derived.Test.YtmknnbbhhnmpaaaNext
import Derived.Test.YtmknnbbhhnmpaaaPrgMark
namespace Go.Proofs.Ytmknnbbhhnmpaaa
open Go.RowKit
set_option linter.unusedVariables false
attribute [local go_sem] ext_cell ext_frozen ext_lt ext_le ext_le1 lt_s2 lt_s3 lt_s4 lt_s5 lt_s6 ext_lt1 ext_lt2 ext_lt3

set_option maxHeartbeats 8000000 in
theorem lawFnExactInsNext (i0 : Ins) (n1 : Int) (w : World) (hf0 : InsWf i0) (hn1 : I64 n1) :
    Calls Try.prog 14 #[i0.v, .int .i64 n1] w fun e w' => e = .returned (.bool true) ∧ Grew w w' := by
  obtain ⟨op0, d0, a0, b0, rel0, lo0, hi0, to0⟩ := i0
  clear hf0
  obtain ⟨S, hS⟩ : ∃ S, nextL ⟨op0, d0, a0, b0, rel0, lo0, hi0, to0⟩ n1 = S := ⟨_, rfl⟩
  have HS := Lib.hid hS; clear hS
  have hSl : S.length ≤ 2 := by rw [← HS.out]; exact next_len _ _
  have hqS : decide (S = S) = true := by simp
  have BW : Hid (Grew w w) := Lib.hid (Below.refl _ _)
  go_enter Try.func14, Try.ntmps14
  go_wp2_with fail
  refine (toInsIns ⟨op0, d0, a0, b0, rel0, lo0, hi0, to0⟩ _).mono ?_
  rintro e w2 ⟨rfl, g1⟩
  have GG3 : Grew w w2 := grew_tr (grew_al (Below.refl _ w) (.cells #[.int .i64 op0, .int .i64 d0, .int .i64 a0, .int .i64 b0, .int .i64 rel0, .int .i64 lo0, .int .i64 hi0, .int .i64 to0] 23)) g1
  have Ba0 := Lib.hid ((Boxd.new w 23 #[.int .i64 op0, .int .i64 d0, .int .i64 a0, .int .i64 b0, .int .i64 rel0, .int .i64 lo0, .int .i64 hi0, .int .i64 to0]).grew g1)
  have s4 : w.heap.size + 1 ≤ w2.heap.size := by have := g1.size; simp only [World.size_alloc] at this; exact this
  have BW := Lib.hid (grew_tr BW.out GG3)
  clear GG3 g1
  have la0 := Ba0.out.1
  have qa0_0 : w2.cell? ⟨w.heap.size, 0, none⟩ = some (.int .i64 op0) := Ba0.out.2 0 _ rfl
  have qa0_1 : w2.cell? ⟨w.heap.size, 1, none⟩ = some (.int .i64 d0) := Ba0.out.2 1 _ rfl
  have qa0_2 : w2.cell? ⟨w.heap.size, 2, none⟩ = some (.int .i64 a0) := Ba0.out.2 2 _ rfl
  have qa0_3 : w2.cell? ⟨w.heap.size, 3, none⟩ = some (.int .i64 b0) := Ba0.out.2 3 _ rfl
  have qa0_4 : w2.cell? ⟨w.heap.size, 4, none⟩ = some (.int .i64 rel0) := Ba0.out.2 4 _ rfl
  have qa0_5 : w2.cell? ⟨w.heap.size, 5, none⟩ = some (.int .i64 lo0) := Ba0.out.2 5 _ rfl
  have qa0_6 : w2.cell? ⟨w.heap.size, 6, none⟩ = some (.int .i64 hi0) := Ba0.out.2 6 _ rfl
  have qa0_7 : w2.cell? ⟨w.heap.size, 7, none⟩ = some (.int .i64 to0) := Ba0.out.2 7 _ rfl
  go_wp2_with fail
  refine (retIs_of (specInsNext ⟨op0, d0, a0, b0, rel0, lo0, hi0, to0⟩ n1 _) HS.out).mono ?_
  rintro e w6 ⟨ca5, cc5, rfl, o5, g5⟩
  have pp := o5.lt
  try simp only [World.size_alloc] at pp
  have P5 := Lib.hid pp; clear pp
  have GG7 : Grew w2 w6 := g5
  clear la0 qa0_0 qa0_1 qa0_2 qa0_3 qa0_4 qa0_5 qa0_6 qa0_7
  have Ba0 := Lib.hid (Ba0.out.grew GG7)
  have s8 : w2.heap.size ≤ w6.heap.size := GG7.size
  have BW := Lib.hid (grew_tr BW.out GG7)
  clear GG7 g5
  have la0 := Ba0.out.1
  have qa0_0 : w6.cell? ⟨w.heap.size, 0, none⟩ = some (.int .i64 op0) := Ba0.out.2 0 _ rfl
  have qa0_1 : w6.cell? ⟨w.heap.size, 1, none⟩ = some (.int .i64 d0) := Ba0.out.2 1 _ rfl
  have qa0_2 : w6.cell? ⟨w.heap.size, 2, none⟩ = some (.int .i64 a0) := Ba0.out.2 2 _ rfl
  have qa0_3 : w6.cell? ⟨w.heap.size, 3, none⟩ = some (.int .i64 b0) := Ba0.out.2 3 _ rfl
  have qa0_4 : w6.cell? ⟨w.heap.size, 4, none⟩ = some (.int .i64 rel0) := Ba0.out.2 4 _ rfl
  have qa0_5 : w6.cell? ⟨w.heap.size, 5, none⟩ = some (.int .i64 lo0) := Ba0.out.2 5 _ rfl
  have qa0_6 : w6.cell? ⟨w.heap.size, 6, none⟩ = some (.int .i64 hi0) := Ba0.out.2 6 _ rfl
  have qa0_7 : w6.cell? ⟨w.heap.size, 7, none⟩ = some (.int .i64 to0) := Ba0.out.2 7 _ rfl
  have O5 := Lib.hid o5; clear o5
  go_wp2_with fail
  refine (toInsIns ⟨op0, d0, a0, b0, rel0, lo0, hi0, to0⟩ _).mono ?_
  rintro e w10 ⟨rfl, g9⟩
  have GG11 : Grew w6 w10 := g9
  clear la0 qa0_0 qa0_1 qa0_2 qa0_3 qa0_4 qa0_5 qa0_6 qa0_7
  have O5 := Lib.hid (owns_grew O5.out GG11)
  have Ba0 := Lib.hid (Ba0.out.grew GG11)
  have s12 : w6.heap.size ≤ w10.heap.size := GG11.size
  have BW := Lib.hid (grew_tr BW.out GG11)
  clear GG11 g9
  have la0 := Ba0.out.1
  have qa0_0 : w10.cell? ⟨w.heap.size, 0, none⟩ = some (.int .i64 op0) := Ba0.out.2 0 _ rfl
  have qa0_1 : w10.cell? ⟨w.heap.size, 1, none⟩ = some (.int .i64 d0) := Ba0.out.2 1 _ rfl
  have qa0_2 : w10.cell? ⟨w.heap.size, 2, none⟩ = some (.int .i64 a0) := Ba0.out.2 2 _ rfl
  have qa0_3 : w10.cell? ⟨w.heap.size, 3, none⟩ = some (.int .i64 b0) := Ba0.out.2 3 _ rfl
  have qa0_4 : w10.cell? ⟨w.heap.size, 4, none⟩ = some (.int .i64 rel0) := Ba0.out.2 4 _ rfl
  have qa0_5 : w10.cell? ⟨w.heap.size, 5, none⟩ = some (.int .i64 lo0) := Ba0.out.2 5 _ rfl
  have qa0_6 : w10.cell? ⟨w.heap.size, 6, none⟩ = some (.int .i64 hi0) := Ba0.out.2 6 _ rfl
  have qa0_7 : w10.cell? ⟨w.heap.size, 7, none⟩ = some (.int .i64 to0) := Ba0.out.2 7 _ rfl
  go_wp2_with fail
  refine (retIs_of (implInsNext ⟨op0, d0, a0, b0, rel0, lo0, hi0, to0⟩ n1 _) HS.out).mono ?_
  rintro e w14 ⟨ca13, cc13, rfl, o13, g13⟩
  have pp := o13.lt
  try simp only [World.size_alloc] at pp
  have P13 := Lib.hid pp; clear pp
  have GG15 : Grew w10 w14 := g13
  clear la0 qa0_0 qa0_1 qa0_2 qa0_3 qa0_4 qa0_5 qa0_6 qa0_7
  have O5 := Lib.hid (owns_grew O5.out GG15)
  have Ba0 := Lib.hid (Ba0.out.grew GG15)
  have s16 : w10.heap.size ≤ w14.heap.size := GG15.size
  have BW := Lib.hid (grew_tr BW.out GG15)
  clear GG15 g13
  have la0 := Ba0.out.1
  have qa0_0 : w14.cell? ⟨w.heap.size, 0, none⟩ = some (.int .i64 op0) := Ba0.out.2 0 _ rfl
  have qa0_1 : w14.cell? ⟨w.heap.size, 1, none⟩ = some (.int .i64 d0) := Ba0.out.2 1 _ rfl
  have qa0_2 : w14.cell? ⟨w.heap.size, 2, none⟩ = some (.int .i64 a0) := Ba0.out.2 2 _ rfl
  have qa0_3 : w14.cell? ⟨w.heap.size, 3, none⟩ = some (.int .i64 b0) := Ba0.out.2 3 _ rfl
  have qa0_4 : w14.cell? ⟨w.heap.size, 4, none⟩ = some (.int .i64 rel0) := Ba0.out.2 4 _ rfl
  have qa0_5 : w14.cell? ⟨w.heap.size, 5, none⟩ = some (.int .i64 lo0) := Ba0.out.2 5 _ rfl
  have qa0_6 : w14.cell? ⟨w.heap.size, 6, none⟩ = some (.int .i64 hi0) := Ba0.out.2 6 _ rfl
  have qa0_7 : w14.cell? ⟨w.heap.size, 7, none⟩ = some (.int .i64 to0) := Ba0.out.2 7 _ rfl
  have O13 := Lib.hid o13; clear o13
  go_wp2_with fail
  refine (eqIntG ca13 S.length cc13 ca5 S.length cc5 S S _ (owns_rd O13.out) (owns_rd O5.out) (by omega) (by omega)).mono ?_
  rintro e w18 ⟨rfl, g17⟩
  have GG19 : Grew w14 w18 := g17
  clear la0 qa0_0 qa0_1 qa0_2 qa0_3 qa0_4 qa0_5 qa0_6 qa0_7
  have O5 := Lib.hid (owns_grew O5.out GG19)
  have O13 := Lib.hid (owns_grew O13.out GG19)
  have Ba0 := Lib.hid (Ba0.out.grew GG19)
  have s20 : w14.heap.size ≤ w18.heap.size := GG19.size
  have BW := Lib.hid (grew_tr BW.out GG19)
  clear GG19 g17
  have la0 := Ba0.out.1
  have qa0_0 : w18.cell? ⟨w.heap.size, 0, none⟩ = some (.int .i64 op0) := Ba0.out.2 0 _ rfl
  have qa0_1 : w18.cell? ⟨w.heap.size, 1, none⟩ = some (.int .i64 d0) := Ba0.out.2 1 _ rfl
  have qa0_2 : w18.cell? ⟨w.heap.size, 2, none⟩ = some (.int .i64 a0) := Ba0.out.2 2 _ rfl
  have qa0_3 : w18.cell? ⟨w.heap.size, 3, none⟩ = some (.int .i64 b0) := Ba0.out.2 3 _ rfl
  have qa0_4 : w18.cell? ⟨w.heap.size, 4, none⟩ = some (.int .i64 rel0) := Ba0.out.2 4 _ rfl
  have qa0_5 : w18.cell? ⟨w.heap.size, 5, none⟩ = some (.int .i64 lo0) := Ba0.out.2 5 _ rfl
  have qa0_6 : w18.cell? ⟨w.heap.size, 6, none⟩ = some (.int .i64 hi0) := Ba0.out.2 6 _ rfl
  have qa0_7 : w18.cell? ⟨w.heap.size, 7, none⟩ = some (.int .i64 to0) := Ba0.out.2 7 _ rfl
  go_wp2_with fail
  refine (markIntS ca13 S.length cc13 1 _ _ _ O13.out (by omega) (by omega)).mono ?_
  rintro e w22 ⟨rfl, o21, c21⟩
  clear O13
  clear la0 qa0_0 qa0_1 qa0_2 qa0_3 qa0_4 qa0_5 qa0_6 qa0_7
  have O5 := Lib.hid (owns_chg O5.out c21 (fun b hb hF => by have h1 := P5.out b hb; have h2 := P13.out _ hF; omega))
  have Ba0 := Lib.hid (Ba0.out.chg c21 (fun hF => by have h2 := P13.out _ hF; omega))
  have s23 : w18.heap.size ≤ w22.heap.size := c21.size
  have BW := Lib.hid (BW.out.trans (c21.belowB BW.out.size (fun b hF => by have h2 := P13.out _ hF; omega)))
  clear c21
  have la0 := Ba0.out.1
  have qa0_0 : w22.cell? ⟨w.heap.size, 0, none⟩ = some (.int .i64 op0) := Ba0.out.2 0 _ rfl
  have qa0_1 : w22.cell? ⟨w.heap.size, 1, none⟩ = some (.int .i64 d0) := Ba0.out.2 1 _ rfl
  have qa0_2 : w22.cell? ⟨w.heap.size, 2, none⟩ = some (.int .i64 a0) := Ba0.out.2 2 _ rfl
  have qa0_3 : w22.cell? ⟨w.heap.size, 3, none⟩ = some (.int .i64 b0) := Ba0.out.2 3 _ rfl
  have qa0_4 : w22.cell? ⟨w.heap.size, 4, none⟩ = some (.int .i64 rel0) := Ba0.out.2 4 _ rfl
  have qa0_5 : w22.cell? ⟨w.heap.size, 5, none⟩ = some (.int .i64 lo0) := Ba0.out.2 5 _ rfl
  have qa0_6 : w22.cell? ⟨w.heap.size, 6, none⟩ = some (.int .i64 hi0) := Ba0.out.2 6 _ rfl
  have qa0_7 : w22.cell? ⟨w.heap.size, 7, none⟩ = some (.int .i64 to0) := Ba0.out.2 7 _ rfl
  have O13 := Lib.hid o21; clear o21
  go_wp2_with fail
  refine (heldIntG ca13 S.length cc13 1 _ (owns_rd O13.out) (by omega) (by omega)).mono ?_
  rintro e w25 ⟨rfl, g24⟩
  have GG26 : Grew w22 w25 := g24
  clear la0 qa0_0 qa0_1 qa0_2 qa0_3 qa0_4 qa0_5 qa0_6 qa0_7
  have O5 := Lib.hid (owns_grew O5.out GG26)
  have O13 := Lib.hid (owns_grew O13.out GG26)
  have Ba0 := Lib.hid (Ba0.out.grew GG26)
  have s27 : w22.heap.size ≤ w25.heap.size := GG26.size
  have BW := Lib.hid (grew_tr BW.out GG26)
  clear GG26 g24
  have la0 := Ba0.out.1
  have qa0_0 : w25.cell? ⟨w.heap.size, 0, none⟩ = some (.int .i64 op0) := Ba0.out.2 0 _ rfl
  have qa0_1 : w25.cell? ⟨w.heap.size, 1, none⟩ = some (.int .i64 d0) := Ba0.out.2 1 _ rfl
  have qa0_2 : w25.cell? ⟨w.heap.size, 2, none⟩ = some (.int .i64 a0) := Ba0.out.2 2 _ rfl
  have qa0_3 : w25.cell? ⟨w.heap.size, 3, none⟩ = some (.int .i64 b0) := Ba0.out.2 3 _ rfl
  have qa0_4 : w25.cell? ⟨w.heap.size, 4, none⟩ = some (.int .i64 rel0) := Ba0.out.2 4 _ rfl
  have qa0_5 : w25.cell? ⟨w.heap.size, 5, none⟩ = some (.int .i64 lo0) := Ba0.out.2 5 _ rfl
  have qa0_6 : w25.cell? ⟨w.heap.size, 6, none⟩ = some (.int .i64 hi0) := Ba0.out.2 6 _ rfl
  have qa0_7 : w25.cell? ⟨w.heap.size, 7, none⟩ = some (.int .i64 to0) := Ba0.out.2 7 _ rfl
  go_wp2_with fail
  refine (toInsIns ⟨op0, d0, a0, b0, rel0, lo0, hi0, to0⟩ _).mono ?_
  rintro e w29 ⟨rfl, g28⟩
  have GG30 : Grew w25 w29 := g28
  clear la0 qa0_0 qa0_1 qa0_2 qa0_3 qa0_4 qa0_5 qa0_6 qa0_7
  have O5 := Lib.hid (owns_grew O5.out GG30)
  have O13 := Lib.hid (owns_grew O13.out GG30)
  have Ba0 := Lib.hid (Ba0.out.grew GG30)
  have s31 : w25.heap.size ≤ w29.heap.size := GG30.size
  have BW := Lib.hid (grew_tr BW.out GG30)
  clear GG30 g28
  have la0 := Ba0.out.1
  have qa0_0 : w29.cell? ⟨w.heap.size, 0, none⟩ = some (.int .i64 op0) := Ba0.out.2 0 _ rfl
  have qa0_1 : w29.cell? ⟨w.heap.size, 1, none⟩ = some (.int .i64 d0) := Ba0.out.2 1 _ rfl
  have qa0_2 : w29.cell? ⟨w.heap.size, 2, none⟩ = some (.int .i64 a0) := Ba0.out.2 2 _ rfl
  have qa0_3 : w29.cell? ⟨w.heap.size, 3, none⟩ = some (.int .i64 b0) := Ba0.out.2 3 _ rfl
  have qa0_4 : w29.cell? ⟨w.heap.size, 4, none⟩ = some (.int .i64 rel0) := Ba0.out.2 4 _ rfl
  have qa0_5 : w29.cell? ⟨w.heap.size, 5, none⟩ = some (.int .i64 lo0) := Ba0.out.2 5 _ rfl
  have qa0_6 : w29.cell? ⟨w.heap.size, 6, none⟩ = some (.int .i64 hi0) := Ba0.out.2 6 _ rfl
  have qa0_7 : w29.cell? ⟨w.heap.size, 7, none⟩ = some (.int .i64 to0) := Ba0.out.2 7 _ rfl
  go_wp2_with fail
  refine (retIs_of (implInsNext ⟨op0, d0, a0, b0, rel0, lo0, hi0, to0⟩ n1 _) HS.out).mono ?_
  rintro e w33 ⟨ca32, cc32, rfl, o32, g32⟩
  have pp := o32.lt
  try simp only [World.size_alloc] at pp
  have P32 := Lib.hid pp; clear pp
  have GG34 : Grew w29 w33 := g32
  clear la0 qa0_0 qa0_1 qa0_2 qa0_3 qa0_4 qa0_5 qa0_6 qa0_7
  have O5 := Lib.hid (owns_grew O5.out GG34)
  have O13 := Lib.hid (owns_grew O13.out GG34)
  have Ba0 := Lib.hid (Ba0.out.grew GG34)
  have s35 : w29.heap.size ≤ w33.heap.size := GG34.size
  have BW := Lib.hid (grew_tr BW.out GG34)
  clear GG34 g32
  have la0 := Ba0.out.1
  have qa0_0 : w33.cell? ⟨w.heap.size, 0, none⟩ = some (.int .i64 op0) := Ba0.out.2 0 _ rfl
  have qa0_1 : w33.cell? ⟨w.heap.size, 1, none⟩ = some (.int .i64 d0) := Ba0.out.2 1 _ rfl
  have qa0_2 : w33.cell? ⟨w.heap.size, 2, none⟩ = some (.int .i64 a0) := Ba0.out.2 2 _ rfl
  have qa0_3 : w33.cell? ⟨w.heap.size, 3, none⟩ = some (.int .i64 b0) := Ba0.out.2 3 _ rfl
  have qa0_4 : w33.cell? ⟨w.heap.size, 4, none⟩ = some (.int .i64 rel0) := Ba0.out.2 4 _ rfl
  have qa0_5 : w33.cell? ⟨w.heap.size, 5, none⟩ = some (.int .i64 lo0) := Ba0.out.2 5 _ rfl
  have qa0_6 : w33.cell? ⟨w.heap.size, 6, none⟩ = some (.int .i64 hi0) := Ba0.out.2 6 _ rfl
  have qa0_7 : w33.cell? ⟨w.heap.size, 7, none⟩ = some (.int .i64 to0) := Ba0.out.2 7 _ rfl
  have O32 := Lib.hid o32; clear o32
  go_wp2_with fail
  refine (eqIntG ca32 S.length cc32 ca5 S.length cc5 S S _ (owns_rd O32.out) (owns_rd O5.out) (by omega) (by omega)).mono ?_
  rintro e w37 ⟨rfl, g36⟩
  have GG38 : Grew w33 w37 := g36
  clear la0 qa0_0 qa0_1 qa0_2 qa0_3 qa0_4 qa0_5 qa0_6 qa0_7
  have O5 := Lib.hid (owns_grew O5.out GG38)
  have O13 := Lib.hid (owns_grew O13.out GG38)
  have O32 := Lib.hid (owns_grew O32.out GG38)
  have Ba0 := Lib.hid (Ba0.out.grew GG38)
  have s39 : w33.heap.size ≤ w37.heap.size := GG38.size
  have BW := Lib.hid (grew_tr BW.out GG38)
  clear GG38 g36
  have la0 := Ba0.out.1
  have qa0_0 : w37.cell? ⟨w.heap.size, 0, none⟩ = some (.int .i64 op0) := Ba0.out.2 0 _ rfl
  have qa0_1 : w37.cell? ⟨w.heap.size, 1, none⟩ = some (.int .i64 d0) := Ba0.out.2 1 _ rfl
  have qa0_2 : w37.cell? ⟨w.heap.size, 2, none⟩ = some (.int .i64 a0) := Ba0.out.2 2 _ rfl
  have qa0_3 : w37.cell? ⟨w.heap.size, 3, none⟩ = some (.int .i64 b0) := Ba0.out.2 3 _ rfl
  have qa0_4 : w37.cell? ⟨w.heap.size, 4, none⟩ = some (.int .i64 rel0) := Ba0.out.2 4 _ rfl
  have qa0_5 : w37.cell? ⟨w.heap.size, 5, none⟩ = some (.int .i64 lo0) := Ba0.out.2 5 _ rfl
  have qa0_6 : w37.cell? ⟨w.heap.size, 6, none⟩ = some (.int .i64 hi0) := Ba0.out.2 6 _ rfl
  have qa0_7 : w37.cell? ⟨w.heap.size, 7, none⟩ = some (.int .i64 to0) := Ba0.out.2 7 _ rfl
  go_wp2_with fail
  refine (heldIntG ca13 S.length cc13 1 _ (owns_rd O13.out) (by omega) (by omega)).mono ?_
  rintro e w41 ⟨rfl, g40⟩
  have GG42 : Grew w37 w41 := g40
  clear la0 qa0_0 qa0_1 qa0_2 qa0_3 qa0_4 qa0_5 qa0_6 qa0_7
  have O5 := Lib.hid (owns_grew O5.out GG42)
  have O13 := Lib.hid (owns_grew O13.out GG42)
  have O32 := Lib.hid (owns_grew O32.out GG42)
  have Ba0 := Lib.hid (Ba0.out.grew GG42)
  have s43 : w37.heap.size ≤ w41.heap.size := GG42.size
  have BW := Lib.hid (grew_tr BW.out GG42)
  clear GG42 g40
  have la0 := Ba0.out.1
  have qa0_0 : w41.cell? ⟨w.heap.size, 0, none⟩ = some (.int .i64 op0) := Ba0.out.2 0 _ rfl
  have qa0_1 : w41.cell? ⟨w.heap.size, 1, none⟩ = some (.int .i64 d0) := Ba0.out.2 1 _ rfl
  have qa0_2 : w41.cell? ⟨w.heap.size, 2, none⟩ = some (.int .i64 a0) := Ba0.out.2 2 _ rfl
  have qa0_3 : w41.cell? ⟨w.heap.size, 3, none⟩ = some (.int .i64 b0) := Ba0.out.2 3 _ rfl
  have qa0_4 : w41.cell? ⟨w.heap.size, 4, none⟩ = some (.int .i64 rel0) := Ba0.out.2 4 _ rfl
  have qa0_5 : w41.cell? ⟨w.heap.size, 5, none⟩ = some (.int .i64 lo0) := Ba0.out.2 5 _ rfl
  have qa0_6 : w41.cell? ⟨w.heap.size, 6, none⟩ = some (.int .i64 hi0) := Ba0.out.2 6 _ rfl
  have qa0_7 : w41.cell? ⟨w.heap.size, 7, none⟩ = some (.int .i64 to0) := Ba0.out.2 7 _ rfl
  go_wp2
  go_ret
  exact ⟨rfl, BW.out⟩
end Go.Proofs.Ytmknnbbhhnmpaaa