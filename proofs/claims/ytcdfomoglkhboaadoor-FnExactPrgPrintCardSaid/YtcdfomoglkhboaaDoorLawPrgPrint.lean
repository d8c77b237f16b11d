/- The walk of the law FnExactPrgPrint, program against reference. Itoa wants the table of powers of ten. -/
import Derived.Test.YtcdfomoglkhboaaDoorPp
import Derived.Test.YtcdfomoglkhboaaDoorMarkP
namespace Go.Proofs.YtcdfomoglkhboaaDoor
open Go.RowKit
set_option linter.unusedVariables false
set_option linter.unusedSimpArgs false
attribute [local go_sem] ext_cell ext_frozen ext_lt ext_le ext_le1 lt_s2 lt_s3 lt_s4 lt_s5 lt_s6 ext_lt1 ext_lt2 ext_lt3

set_option maxHeartbeats 8000000 in
theorem lawFnExactPrgPrint (a0 : Option Addr) (n0 c0 : Nat) (ps0 : List Prc) (w : World) (T : Tab w) (hr0 : RdP w a0 n0 ps0) (hf0 : PrgWf ps0) (hl0 : n0 ≤ c0) (hm0 : c0 ≤ maxLen) :
    Calls Tryd.prog 4 #[.agg #[.slice a0 n0 c0]] w fun e w' => e = .returned (.bool true) ∧ Grew w w' := by
  have hn0 : n0 ≤ 9223372036854775807 := by unfold maxLen at hm0; omega
  have HR0 := Lib.hid hr0; clear hr0 hf0 hl0 hm0
  have hq0 : decide (ps0 = ps0) = true := by simp
  have HT := Lib.hid T; clear T
  obtain ⟨S, hS⟩ : ∃ S, printB ps0 = S := ⟨_, rfl⟩
  have HS := Lib.hid hS; clear hS
  have hSl : S.length ≤ 45 := by rw [← HS.out]; exact printB_len _
  have hqS : decide (S = S) = true := by simp
  have BW : Hid (Grew w w) := Lib.hid (Below.refl _ _)
  go_enter Tryd.func4, Tryd.ntmps4
  go_wp2_with fail
  refine (szPrgProg a0 n0 c0 ps0 1048576 _ (HR0.out.grew (grew_tr BW.out (grew_al (Below.refl _ w) (.cells #[.slice a0 n0 c0] 30)))) (by omega) (by omega) hn0).mono ?_
  rintro e w1 ⟨z0, rfl, hz, g1⟩
  have GG2 : Grew w w1 := grew_tr (grew_al (Below.refl _ w) (.cells #[.slice a0 n0 c0] 30)) g1
  have Ba0 := Lib.hid ((Boxd.new w 30 #[.slice a0 n0 c0]).grew g1)
  have s3 : w.heap.size + 1 ≤ w1.heap.size := by have := g1.size; simp only [World.size_alloc, Nat.add_assoc, Nat.reduceAdd] at this; exact this
  have BW := Lib.hid (grew_tr BW.out GG2)
  clear GG2 g1
  have la0 := Ba0.out.1
  have qa0_0 : w1.cell? ⟨w.heap.size, 0, none⟩ = some (.slice a0 n0 c0) := Ba0.out.2 0 _ rfl
  rcases hz with rfl | ⟨za, zb, hz0, hy0⟩
  · go_wp2
    go_ret
    exact ⟨rfl, BW.out⟩
  have hyy0 := Lib.hid hy0; clear hy0
  have hzn0 : 0 ≤ z0 := za
  have hzm0 : z0 ≤ 1048576 := by omega
  clear za zb
  have hzl0 : ¬ z0 < 0 := by omega
  go_wp2_with fail
  refine (toPrgProg a0 n0 c0 ps0 _ (HR0.out.grew (BW.out)) hz0 hyy0.out).mono ?_
  rintro e w5 ⟨v4, ms4, rfl, o4, hm4, g4⟩
  obtain ⟨ca4, cc4, rfl⟩ := owns_slice o4.2.1
  have hq44 := Lib.hid hm4; clear hm4
  have P4 := Lib.hid (OwnP.blk o4)
  have GG6 : Grew w1 w5 := g4
  clear la0 qa0_0
  have Ba0 := Lib.hid (Ba0.out.grew GG6)
  have s7 : w1.heap.size ≤ w5.heap.size := GG6.size
  have BW := Lib.hid (grew_tr BW.out GG6)
  clear GG6 g4
  have la0 := Ba0.out.1
  have qa0_0 : w5.cell? ⟨w.heap.size, 0, none⟩ = some (.slice a0 n0 c0) := Ba0.out.2 0 _ rfl
  have O4 := Lib.hid o4; clear o4
  go_wp2_with fail
  refine (retSs_of (specPrgPrint ca4 n0 cc4 ps0 _ (prg_rd O4.out hq44.out) hn0) HS.out).mono ?_
  rintro e w9 ⟨ca8, cc8, rfl, o8, g8⟩
  have pp := o8.lt
  try simp only [World.size_alloc] at pp
  have P8 := Lib.hid pp; clear pp
  have GG10 : Grew w5 w9 := g8
  clear la0 qa0_0
  have O4 := Lib.hid (OwnP.grew O4.out GG10)
  have Ba0 := Lib.hid (Ba0.out.grew GG10)
  have s11 : w5.heap.size ≤ w9.heap.size := GG10.size
  have BW := Lib.hid (grew_tr BW.out GG10)
  clear GG10 g8
  have la0 := Ba0.out.1
  have qa0_0 : w9.cell? ⟨w.heap.size, 0, none⟩ = some (.slice a0 n0 c0) := Ba0.out.2 0 _ rfl
  have O8 := Lib.hid o8; clear o8
  clear O4 P4 hq44
  go_wp2_with fail
  refine (toPrgProg a0 n0 c0 ps0 _ (HR0.out.grew (BW.out)) hz0 hyy0.out).mono ?_
  rintro e w13 ⟨v12, ms12, rfl, o12, hm12, g12⟩
  obtain ⟨ca12, cc12, rfl⟩ := owns_slice o12.2.1
  have hq1212 := Lib.hid hm12; clear hm12
  have P12 := Lib.hid (OwnP.blk o12)
  have GG14 : Grew w9 w13 := g12
  clear la0 qa0_0
  have O8 := Lib.hid (owns_grew O8.out GG14)
  have Ba0 := Lib.hid (Ba0.out.grew GG14)
  have s15 : w9.heap.size ≤ w13.heap.size := GG14.size
  have BW := Lib.hid (grew_tr BW.out GG14)
  clear GG14 g12
  have la0 := Ba0.out.1
  have qa0_0 : w13.cell? ⟨w.heap.size, 0, none⟩ = some (.slice a0 n0 c0) := Ba0.out.2 0 _ rfl
  have O12 := Lib.hid o12; clear o12
  go_wp2_with fail
  refine (retSs_of (implPrgPrint ca12 n0 cc12 ps0 _ (RdL.grew stays_prc (prg_rd O12.out hq1212.out) (grew_al (Below.refl _ w13) (.cells #[.slice ca12 n0 cc12] 36))) hn0 (HT.out.grew (grew_tr BW.out (grew_al (Below.refl _ w13) (.cells #[.slice ca12 n0 cc12] 36))))) HS.out).mono ?_
  rintro e w17 ⟨ca16, cc16, rfl, o16, g16⟩
  have pp := o16.lt
  try simp only [World.size_alloc] at pp
  have P16 := Lib.hid pp; clear pp
  have GG18 : Grew w13 w17 := grew_tr (grew_al (Below.refl _ w13) (.cells #[.slice ca12 n0 cc12] 36)) g16
  clear la0 qa0_0
  have O8 := Lib.hid (owns_grew O8.out GG18)
  have O12 := Lib.hid (OwnP.grew O12.out GG18)
  have Ba0 := Lib.hid (Ba0.out.grew GG18)
  have Bx0 := Lib.hid ((Boxd.new w13 36 #[.slice ca12 n0 cc12]).grew g16)
  have s19 : w13.heap.size + 1 ≤ w17.heap.size := by have := g16.size; simp only [World.size_alloc, Nat.add_assoc, Nat.reduceAdd] at this; exact this
  have BW := Lib.hid (grew_tr BW.out GG18)
  clear GG18 g16
  have la0 := Ba0.out.1
  have qa0_0 : w17.cell? ⟨w.heap.size, 0, none⟩ = some (.slice a0 n0 c0) := Ba0.out.2 0 _ rfl
  have lx0 := Bx0.out.1
  have qx0_0 : w17.cell? ⟨w13.heap.size, 0, none⟩ = some (.slice ca12 n0 cc12) := Bx0.out.2 0 _ rfl
  have O16 := Lib.hid o16; clear o16
  go_wp2_with fail
  refine (eqStrG ca16 S.length cc16 ca8 cc8 S _ (owns_rd O16.out) (owns_rd O8.out) (by omega)).mono ?_
  rintro e w21 ⟨rfl, g20⟩
  have GG22 : Grew w17 w21 := g20
  clear la0 qa0_0
  clear lx0 qx0_0
  have O8 := Lib.hid (owns_grew O8.out GG22)
  have O12 := Lib.hid (OwnP.grew O12.out GG22)
  have O16 := Lib.hid (owns_grew O16.out GG22)
  have Ba0 := Lib.hid (Ba0.out.grew GG22)
  have Bx0 := Lib.hid (Bx0.out.grew GG22)
  have s23 : w17.heap.size ≤ w21.heap.size := GG22.size
  have BW := Lib.hid (grew_tr BW.out GG22)
  clear GG22 g20
  have la0 := Ba0.out.1
  have qa0_0 : w21.cell? ⟨w.heap.size, 0, none⟩ = some (.slice a0 n0 c0) := Ba0.out.2 0 _ rfl
  have lx0 := Bx0.out.1
  have qx0_0 : w21.cell? ⟨w13.heap.size, 0, none⟩ = some (.slice ca12 n0 cc12) := Bx0.out.2 0 _ rfl
  go_wp2_with fail
  go_region_held3 (fun W => W.cell? ⟨w.heap.size, 0, none⟩ = some (.slice a0 n0 c0) ∧ W.cell? ⟨w13.heap.size, 0, none⟩ = some (.slice ca12 n0 cc12)) (first | assumption | exact ⟨qa0_0, qx0_0⟩ | exact ⟨(ext_cellD _ _ ⟨w.heap.size, 0, none⟩ la0).trans qa0_0, (ext_cellD _ _ ⟨w13.heap.size, 0, none⟩ lx0).trans qx0_0⟩)
    (first
    | (go_at_call 10; refine (toPrgProg a0 n0 c0 ps0 _ (HR0.out.grew (grew_d BW.out)) hz0 hyy0.out).mono ?_; rintro e w2 ⟨v24, ms24, rfl, o24, hm24, g24⟩; obtain ⟨ca24, cc24, rfl⟩ := owns_slice o24.2.1; have R24 := Lib.hid (prg_rd o24 hm24); clear o24 hm24; obtain ⟨y24, rfl⟩ := ext_of g24; clear g24)
    | (go_at_call 13; refine (eqPrgProg ca12 ca24 n0 n0 cc12 cc24 ps0 ps0 _ (RdL.grew stays_prc (prg_rd O12.out hq1212.out) (grew_ext (grew_d (Below.refl _ _)) _)) R24.out hn0 hn0).mono ?_; rintro e w2 ⟨rfl, g27⟩; obtain ⟨y27, rfl⟩ := ext_col g27; clear g27))
  clear R24
  obtain ⟨w26, hw2⟩ : ∃ X, ext (w21).drew y27 = X := ⟨_, rfl⟩
  rw [hw2]
  have g127 : Grew w21 w26 := by rw [← hw2]; exact grew_ext (grew_d (Below.refl _ _)) _
  clear hw2
  have GG28 : Grew w21 w26 := g127
  clear la0 qa0_0
  clear lx0 qx0_0
  have O8 := Lib.hid (owns_grew O8.out GG28)
  have O12 := Lib.hid (OwnP.grew O12.out GG28)
  have O16 := Lib.hid (owns_grew O16.out GG28)
  have Ba0 := Lib.hid (Ba0.out.grew GG28)
  have Bx0 := Lib.hid (Bx0.out.grew GG28)
  have s29 : w21.heap.size ≤ w26.heap.size := GG28.size
  have BW := Lib.hid (grew_tr BW.out GG28)
  clear GG28 g127
  have la0 := Ba0.out.1
  have qa0_0 : w26.cell? ⟨w.heap.size, 0, none⟩ = some (.slice a0 n0 c0) := Ba0.out.2 0 _ rfl
  have lx0 := Bx0.out.1
  have qx0_0 : w26.cell? ⟨w13.heap.size, 0, none⟩ = some (.slice ca12 n0 cc12) := Bx0.out.2 0 _ rfl
  go_wp2_with fail
  refine (markPrgProg ca12 n0 cc12 1 _ _ _ _ O12.out P12.out (by omega) (by omega) (fun m hm => hyy0.out m.1 (by rw [← hq1212.out]; exact List.mem_map_of_mem hm))).mono ?_
  rintro e w31 ⟨K30, rfl, c30⟩
  clear O12
  clear la0 qa0_0
  clear lx0 qx0_0
  have O8 := Lib.hid (owns_chg O8.out c30 (fun b hb hF => by have h1 := P8.out b hb; obtain ⟨h2, h3⟩ := hF; (first | omega | (simp only [World.size_alloc] at *; omega))))
  have O16 := Lib.hid (owns_chg O16.out c30 (fun b hb hF => by have h1 := P16.out b hb; obtain ⟨h2, h3⟩ := hF; (first | omega | (simp only [World.size_alloc] at *; omega))))
  have Ba0 := Lib.hid (Ba0.out.chg c30 (fun hF => by obtain ⟨h2, h3⟩ := hF; (first | omega | (simp only [World.size_alloc] at *; omega))))
  have Bx0 := Lib.hid (Bx0.out.chg c30 (fun hF => by obtain ⟨h2, h3⟩ := hF; (first | omega | (simp only [World.size_alloc] at *; omega))))
  have s32 : w26.heap.size ≤ w31.heap.size := c30.size
  have BW := Lib.hid (BW.out.trans (c30.belowB BW.out.size (fun b hF => by obtain ⟨h2, h3⟩ := hF; (first | omega | (simp only [World.size_alloc] at *; omega)))))
  clear c30
  have la0 := Ba0.out.1
  have qa0_0 : w31.cell? ⟨w.heap.size, 0, none⟩ = some (.slice a0 n0 c0) := Ba0.out.2 0 _ rfl
  have lx0 := Bx0.out.1
  have qx0_0 : w31.cell? ⟨w13.heap.size, 0, none⟩ = some (.slice ca12 n0 cc12) := Bx0.out.2 0 _ rfl
  go_wp2_with fail
  refine (eqStrG ca16 S.length cc16 ca8 cc8 S _ (owns_rd O16.out) (owns_rd O8.out) (by omega)).mono ?_
  rintro e w34 ⟨rfl, g33⟩
  have GG35 : Grew w31 w34 := g33
  clear la0 qa0_0
  clear lx0 qx0_0
  have O8 := Lib.hid (owns_grew O8.out GG35)
  have O16 := Lib.hid (owns_grew O16.out GG35)
  have Ba0 := Lib.hid (Ba0.out.grew GG35)
  have Bx0 := Lib.hid (Bx0.out.grew GG35)
  have s36 : w31.heap.size ≤ w34.heap.size := GG35.size
  have BW := Lib.hid (grew_tr BW.out GG35)
  clear GG35 g33
  have la0 := Ba0.out.1
  have qa0_0 : w34.cell? ⟨w.heap.size, 0, none⟩ = some (.slice a0 n0 c0) := Ba0.out.2 0 _ rfl
  have lx0 := Bx0.out.1
  have qx0_0 : w34.cell? ⟨w13.heap.size, 0, none⟩ = some (.slice ca12 n0 cc12) := Bx0.out.2 0 _ rfl
  go_wp2_with fail
  refine (markStrS ca16 S.length cc16 1 _ _ _ O16.out (str_one _) (by omega) (by omega) (by omega)).mono ?_
  rintro e w38 ⟨rfl, o37, c37⟩
  clear O16
  clear la0 qa0_0
  clear lx0 qx0_0
  have O8 := Lib.hid (owns_chg O8.out c37 (fun b hb hF => by have h1 := P8.out b hb; have h2 := P16.out _ hF; omega))
  have Ba0 := Lib.hid (Ba0.out.chg c37 (fun hF => by have h2 := P16.out _ hF; omega))
  have Bx0 := Lib.hid (Bx0.out.chg c37 (fun hF => by have h2 := P16.out _ hF; omega))
  have s39 : w34.heap.size ≤ w38.heap.size := c37.size
  have BW := Lib.hid (BW.out.trans (c37.belowB BW.out.size (fun b hF => by have h2 := P16.out _ hF; omega)))
  clear c37
  have la0 := Ba0.out.1
  have qa0_0 : w38.cell? ⟨w.heap.size, 0, none⟩ = some (.slice a0 n0 c0) := Ba0.out.2 0 _ rfl
  have lx0 := Bx0.out.1
  have qx0_0 : w38.cell? ⟨w13.heap.size, 0, none⟩ = some (.slice ca12 n0 cc12) := Bx0.out.2 0 _ rfl
  have O16 := Lib.hid o37; clear o37
  go_wp2_with fail
  refine (heldStrG ca16 S.length cc16 1 _ (owns_rd O16.out) (by omega) (by omega) (by omega)).mono ?_
  rintro e w41 ⟨rfl, g40⟩
  have GG42 : Grew w38 w41 := g40
  clear la0 qa0_0
  clear lx0 qx0_0
  have O8 := Lib.hid (owns_grew O8.out GG42)
  have O16 := Lib.hid (owns_grew O16.out GG42)
  have Ba0 := Lib.hid (Ba0.out.grew GG42)
  have Bx0 := Lib.hid (Bx0.out.grew GG42)
  have s43 : w38.heap.size ≤ w41.heap.size := GG42.size
  have BW := Lib.hid (grew_tr BW.out GG42)
  clear GG42 g40
  have la0 := Ba0.out.1
  have qa0_0 : w41.cell? ⟨w.heap.size, 0, none⟩ = some (.slice a0 n0 c0) := Ba0.out.2 0 _ rfl
  have lx0 := Bx0.out.1
  have qx0_0 : w41.cell? ⟨w13.heap.size, 0, none⟩ = some (.slice ca12 n0 cc12) := Bx0.out.2 0 _ rfl
  go_wp2_with fail
  refine (toPrgProg a0 n0 c0 ps0 _ (HR0.out.grew (BW.out)) hz0 hyy0.out).mono ?_
  rintro e w45 ⟨v44, ms44, rfl, o44, hm44, g44⟩
  obtain ⟨ca44, cc44, rfl⟩ := owns_slice o44.2.1
  have hq4444 := Lib.hid hm44; clear hm44
  have P44 := Lib.hid (OwnP.blk o44)
  have GG46 : Grew w41 w45 := g44
  clear la0 qa0_0
  clear lx0 qx0_0
  have O8 := Lib.hid (owns_grew O8.out GG46)
  have O16 := Lib.hid (owns_grew O16.out GG46)
  have Ba0 := Lib.hid (Ba0.out.grew GG46)
  have Bx0 := Lib.hid (Bx0.out.grew GG46)
  have s47 : w41.heap.size ≤ w45.heap.size := GG46.size
  have BW := Lib.hid (grew_tr BW.out GG46)
  clear GG46 g44
  have la0 := Ba0.out.1
  have qa0_0 : w45.cell? ⟨w.heap.size, 0, none⟩ = some (.slice a0 n0 c0) := Ba0.out.2 0 _ rfl
  have lx0 := Bx0.out.1
  have qx0_0 : w45.cell? ⟨w13.heap.size, 0, none⟩ = some (.slice ca12 n0 cc12) := Bx0.out.2 0 _ rfl
  have O44 := Lib.hid o44; clear o44
  go_wp2_with fail
  refine (retSs_of (implPrgPrint ca44 n0 cc44 ps0 _ (prg_rd O44.out hq4444.out) hn0 (HT.out.grew (BW.out))) HS.out).mono ?_
  rintro e w49 ⟨ca48, cc48, rfl, o48, g48⟩
  have pp := o48.lt
  try simp only [World.size_alloc] at pp
  have P48 := Lib.hid pp; clear pp
  have GG50 : Grew w45 w49 := g48
  clear la0 qa0_0
  clear lx0 qx0_0
  have O8 := Lib.hid (owns_grew O8.out GG50)
  have O16 := Lib.hid (owns_grew O16.out GG50)
  have O44 := Lib.hid (OwnP.grew O44.out GG50)
  have Ba0 := Lib.hid (Ba0.out.grew GG50)
  have Bx0 := Lib.hid (Bx0.out.grew GG50)
  have s51 : w45.heap.size ≤ w49.heap.size := GG50.size
  have BW := Lib.hid (grew_tr BW.out GG50)
  clear GG50 g48
  have la0 := Ba0.out.1
  have qa0_0 : w49.cell? ⟨w.heap.size, 0, none⟩ = some (.slice a0 n0 c0) := Ba0.out.2 0 _ rfl
  have lx0 := Bx0.out.1
  have qx0_0 : w49.cell? ⟨w13.heap.size, 0, none⟩ = some (.slice ca12 n0 cc12) := Bx0.out.2 0 _ rfl
  have O48 := Lib.hid o48; clear o48
  clear O44 P44 hq4444
  go_wp2_with fail
  refine (eqStrG ca48 S.length cc48 ca8 cc8 S _ (owns_rd O48.out) (owns_rd O8.out) (by omega)).mono ?_
  rintro e w53 ⟨rfl, g52⟩
  have GG54 : Grew w49 w53 := g52
  clear la0 qa0_0
  clear lx0 qx0_0
  have O8 := Lib.hid (owns_grew O8.out GG54)
  have O16 := Lib.hid (owns_grew O16.out GG54)
  have O48 := Lib.hid (owns_grew O48.out GG54)
  have Ba0 := Lib.hid (Ba0.out.grew GG54)
  have Bx0 := Lib.hid (Bx0.out.grew GG54)
  have s55 : w49.heap.size ≤ w53.heap.size := GG54.size
  have BW := Lib.hid (grew_tr BW.out GG54)
  clear GG54 g52
  have la0 := Ba0.out.1
  have qa0_0 : w53.cell? ⟨w.heap.size, 0, none⟩ = some (.slice a0 n0 c0) := Ba0.out.2 0 _ rfl
  have lx0 := Bx0.out.1
  have qx0_0 : w53.cell? ⟨w13.heap.size, 0, none⟩ = some (.slice ca12 n0 cc12) := Bx0.out.2 0 _ rfl
  go_wp2_with fail
  refine (heldStrG ca16 S.length cc16 1 _ (owns_rd O16.out) (by omega) (by omega) (by omega)).mono ?_
  rintro e w57 ⟨rfl, g56⟩
  have GG58 : Grew w53 w57 := g56
  clear la0 qa0_0
  clear lx0 qx0_0
  have O8 := Lib.hid (owns_grew O8.out GG58)
  have O16 := Lib.hid (owns_grew O16.out GG58)
  have O48 := Lib.hid (owns_grew O48.out GG58)
  have Ba0 := Lib.hid (Ba0.out.grew GG58)
  have Bx0 := Lib.hid (Bx0.out.grew GG58)
  have s59 : w53.heap.size ≤ w57.heap.size := GG58.size
  have BW := Lib.hid (grew_tr BW.out GG58)
  clear GG58 g56
  have la0 := Ba0.out.1
  have qa0_0 : w57.cell? ⟨w.heap.size, 0, none⟩ = some (.slice a0 n0 c0) := Ba0.out.2 0 _ rfl
  have lx0 := Bx0.out.1
  have qx0_0 : w57.cell? ⟨w13.heap.size, 0, none⟩ = some (.slice ca12 n0 cc12) := Bx0.out.2 0 _ rfl
  go_wp2
  go_ret
  exact ⟨rfl, BW.out⟩
end Go.Proofs.YtcdfomoglkhboaaDoor