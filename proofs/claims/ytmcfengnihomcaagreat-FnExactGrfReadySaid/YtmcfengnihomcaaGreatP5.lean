/- Lemmas and walks of this proof, several texts one behind the other. No condition. -/
import Derived.Test.YtmcfengnihomcaaGreatP4
import Derived.Test.YtmcfengnihomcaaGreatP3
set_option linter.unusedSimpArgs false
set_option linter.unusedVariables false
/- The walk of the law FnExactGrfReady, program against reference. No condition. -/
namespace Go.Proofs.YtmcfengnihomcaaGreat
open Go.RowKit
set_option linter.unusedVariables false
set_option linter.unusedSimpArgs false
attribute [local go_sem] ext_cell ext_frozen ext_lt ext_le ext_le1 lt_s2 lt_s3 lt_s4 lt_s5 lt_s6 ext_lt1 ext_lt2 ext_lt3

set_option maxHeartbeats 8000000 in
theorem lawFnExactGrfReady (a0 : Option Addr) (n0 c0 : Nat) (ps0 : List Prc) (a1 : Option Addr) (n1 c1 : Nat) (bs1 : List Bool) (w : World) (hr0 : RdP w a0 n0 ps0) (hf0 : PrgWf ps0) (hl0 : n0 ≤ c0) (hm0 : c0 ≤ maxLen) (hr1 : Rd w a1 n1 1 (bools bs1)) (hl1 : n1 ≤ c1) (hm1 : c1 ≤ maxLen) :
    Calls Tryz.prog 4 #[.agg #[.slice a0 n0 c0], .slice a1 n1 c1] w fun e w' => e = .returned (.bool true) ∧ Grew w w' := by
  have hn0 : n0 ≤ 9223372036854775807 := by unfold maxLen at hm0; omega
  have HR0 := Lib.hid hr0; clear hr0 hf0 hl0 hm0
  have hq0 : decide (ps0 = ps0) = true := by simp
  by_cases hbig1 : (n1 : Int) > 1048576
  · go_enter Tryz.func4, Tryz.ntmps4
    go_wp2
    go_ret
    exact ⟨rfl, grew_al (Below.refl _ _) _⟩
  have hnb1 : n1 ≤ 1048576 := by omega
  have HR1 := Lib.hid hr1; clear hr1 hl1 hm1
  obtain ⟨S, hS⟩ : ∃ S, grfReady ps0 bs1 = S := ⟨_, rfl⟩
  have HS := Lib.hid hS; clear hS
  have hSl : S.length ≤ 10 := by rw [← HS.out]; exact grfReady_len _ _
  have hqS : decide (S = S) = true := by simp
  have BW : Hid (Grew w w) := Lib.hid (Below.refl _ _)
  go_enter Tryz.func4, Tryz.ntmps4
  go_wp2_with fail
  refine (szPrgProg a0 n0 c0 ps0 1048576 _ (HR0.out.grew (grew_tr BW.out (grew_al (Below.refl _ w) (.cells #[.slice a0 n0 c0] 24)))) (by omega) (by omega) hn0).mono ?_
  rintro e w1 ⟨z0, rfl, hz, g1⟩
  have GG2 : Grew w w1 := grew_tr (grew_al (Below.refl _ w) (.cells #[.slice a0 n0 c0] 24)) g1
  have Ba0 := Lib.hid ((Boxd.new w 24 #[.slice a0 n0 c0]).grew g1)
  have s3 : w.heap.size + 1 ≤ w1.heap.size := by have := g1.size; simp only [World.size_alloc, Nat.add_assoc, Nat.reduceAdd] at this; exact this
  have BW := Lib.hid (grew_tr BW.out GG2)
  clear GG2 g1
  have la0 := Ba0.out.1
  have qa0_0 : w1.cell? ⟨w.heap.size, 0, none⟩ = some (.slice a0 n0 c0) := Ba0.out.2 0 _ rfl
  rcases hz with rfl | ⟨za, zb, hz0, hy0⟩
  · go_wp2
    go_ret
    exact ⟨rfl, BW.out⟩
  have hyy0 := Lib.hid hy0; clear hy0
  have hzn0 : 0 ≤ z0 := za
  have hzm0 : z0 ≤ 1048576 := by omega
  clear za zb
  have hzl0 : ¬ z0 < 0 := by omega
  go_wp2_with fail
  refine (toPrgProg a0 n0 c0 ps0 _ (HR0.out.grew (BW.out)) hz0 hyy0.out).mono ?_
  rintro e w5 ⟨v4, ms4, rfl, o4, hm4, g4⟩
  obtain ⟨ca4, cc4, rfl⟩ := owns_slice o4.2.1
  have hq44 := Lib.hid hm4; clear hm4
  have P4 := Lib.hid (OwnP.blk o4)
  have GG6 : Grew w1 w5 := g4
  clear la0 qa0_0
  have Ba0 := Lib.hid (Ba0.out.grew GG6)
  have s7 : w1.heap.size ≤ w5.heap.size := GG6.size
  have BW := Lib.hid (grew_tr BW.out GG6)
  clear GG6 g4
  have la0 := Ba0.out.1
  have qa0_0 : w5.cell? ⟨w.heap.size, 0, none⟩ = some (.slice a0 n0 c0) := Ba0.out.2 0 _ rfl
  have O4 := Lib.hid o4; clear o4
  go_wp2_with fail
  refine (toBoolS a1 n1 c1 bs1 _ (HR1.out.grew (BW.out)) (by omega)).mono ?_
  rintro e w9 ⟨v8, rfl, o8, g8⟩
  obtain ⟨ca8, cc8, rfl⟩ := owns_slice o8
  have pp := o8.lt
  try simp only [World.size_alloc] at pp
  have P8 := Lib.hid pp; clear pp
  have GG10 : Grew w5 w9 := g8
  clear la0 qa0_0
  have O4 := Lib.hid (OwnP.grew O4.out GG10)
  have Ba0 := Lib.hid (Ba0.out.grew GG10)
  have s11 : w5.heap.size ≤ w9.heap.size := GG10.size
  have BW := Lib.hid (grew_tr BW.out GG10)
  clear GG10 g8
  have la0 := Ba0.out.1
  have qa0_0 : w9.cell? ⟨w.heap.size, 0, none⟩ = some (.slice a0 n0 c0) := Ba0.out.2 0 _ rfl
  have O8 := Lib.hid o8; clear o8
  go_wp2_with fail
  refine (retIs_of (specGrfReady ca4 n0 cc4 ps0 ca8 n1 cc8 bs1 _ (prg_rd O4.out hq44.out) hn0 (owns_rd O8.out)) HS.out).mono ?_
  rintro e w13 ⟨ca12, cc12, rfl, o12, g12⟩
  have pp := o12.lt
  try simp only [World.size_alloc] at pp
  have P12 := Lib.hid pp; clear pp
  have GG14 : Grew w9 w13 := g12
  clear la0 qa0_0
  have O4 := Lib.hid (OwnP.grew O4.out GG14)
  have O8 := Lib.hid (owns_grew O8.out GG14)
  have Ba0 := Lib.hid (Ba0.out.grew GG14)
  have s15 : w9.heap.size ≤ w13.heap.size := GG14.size
  have BW := Lib.hid (grew_tr BW.out GG14)
  clear GG14 g12
  have la0 := Ba0.out.1
  have qa0_0 : w13.cell? ⟨w.heap.size, 0, none⟩ = some (.slice a0 n0 c0) := Ba0.out.2 0 _ rfl
  have O12 := Lib.hid o12; clear o12
  clear O4 P4 hq44
  clear O8 P8
  go_wp2_with fail
  refine (toPrgProg a0 n0 c0 ps0 _ (HR0.out.grew (BW.out)) hz0 hyy0.out).mono ?_
  rintro e w17 ⟨v16, ms16, rfl, o16, hm16, g16⟩
  obtain ⟨ca16, cc16, rfl⟩ := owns_slice o16.2.1
  have hq1616 := Lib.hid hm16; clear hm16
  have P16 := Lib.hid (OwnP.blk o16)
  have GG18 : Grew w13 w17 := g16
  clear la0 qa0_0
  have O12 := Lib.hid (owns_grew O12.out GG18)
  have Ba0 := Lib.hid (Ba0.out.grew GG18)
  have s19 : w13.heap.size ≤ w17.heap.size := GG18.size
  have BW := Lib.hid (grew_tr BW.out GG18)
  clear GG18 g16
  have la0 := Ba0.out.1
  have qa0_0 : w17.cell? ⟨w.heap.size, 0, none⟩ = some (.slice a0 n0 c0) := Ba0.out.2 0 _ rfl
  have O16 := Lib.hid o16; clear o16
  go_wp2_with fail
  refine (toBoolS a1 n1 c1 bs1 _ (HR1.out.grew (grew_tr BW.out (grew_al (Below.refl _ w17) (.cells #[.slice ca16 n0 cc16] 30)))) (by omega)).mono ?_
  rintro e w21 ⟨v20, rfl, o20, g20⟩
  obtain ⟨ca20, cc20, rfl⟩ := owns_slice o20
  have pp := o20.lt
  try simp only [World.size_alloc] at pp
  have P20 := Lib.hid pp; clear pp
  have GG22 : Grew w17 w21 := grew_tr (grew_al (Below.refl _ w17) (.cells #[.slice ca16 n0 cc16] 30)) g20
  clear la0 qa0_0
  have O12 := Lib.hid (owns_grew O12.out GG22)
  have O16 := Lib.hid (OwnP.grew O16.out GG22)
  have Ba0 := Lib.hid (Ba0.out.grew GG22)
  have Bx0 := Lib.hid ((Boxd.new w17 30 #[.slice ca16 n0 cc16]).grew g20)
  have s23 : w17.heap.size + 1 ≤ w21.heap.size := by have := g20.size; simp only [World.size_alloc, Nat.add_assoc, Nat.reduceAdd] at this; exact this
  have BW := Lib.hid (grew_tr BW.out GG22)
  clear GG22 g20
  have la0 := Ba0.out.1
  have qa0_0 : w21.cell? ⟨w.heap.size, 0, none⟩ = some (.slice a0 n0 c0) := Ba0.out.2 0 _ rfl
  have lx0 := Bx0.out.1
  have qx0_0 : w21.cell? ⟨w17.heap.size, 0, none⟩ = some (.slice ca16 n0 cc16) := Bx0.out.2 0 _ rfl
  have O20 := Lib.hid o20; clear o20
  go_wp2_with fail
  refine (retIs_of (implGrfReady ca16 n0 cc16 ps0 ca20 n1 cc20 bs1 _ (prg_rd O16.out hq1616.out) hn0 (owns_rd O20.out)) HS.out).mono ?_
  rintro e w25 ⟨ca24, cc24, rfl, o24, g24⟩
  have pp := o24.lt
  try simp only [World.size_alloc] at pp
  have P24 := Lib.hid pp; clear pp
  have GG26 : Grew w21 w25 := g24
  clear la0 qa0_0
  clear lx0 qx0_0
  have O12 := Lib.hid (owns_grew O12.out GG26)
  have O16 := Lib.hid (OwnP.grew O16.out GG26)
  have O20 := Lib.hid (owns_grew O20.out GG26)
  have Ba0 := Lib.hid (Ba0.out.grew GG26)
  have Bx0 := Lib.hid (Bx0.out.grew GG26)
  have s27 : w21.heap.size ≤ w25.heap.size := GG26.size
  have BW := Lib.hid (grew_tr BW.out GG26)
  clear GG26 g24
  have la0 := Ba0.out.1
  have qa0_0 : w25.cell? ⟨w.heap.size, 0, none⟩ = some (.slice a0 n0 c0) := Ba0.out.2 0 _ rfl
  have lx0 := Bx0.out.1
  have qx0_0 : w25.cell? ⟨w17.heap.size, 0, none⟩ = some (.slice ca16 n0 cc16) := Bx0.out.2 0 _ rfl
  have O24 := Lib.hid o24; clear o24
  go_wp2_with fail
  refine (eqIntG ca24 S.length cc24 ca12 S.length cc12 S S _ (owns_rd O24.out) (owns_rd O12.out) (by omega) (by omega)).mono ?_
  rintro e w29 ⟨rfl, g28⟩
  have GG30 : Grew w25 w29 := g28
  clear la0 qa0_0
  clear lx0 qx0_0
  have O12 := Lib.hid (owns_grew O12.out GG30)
  have O16 := Lib.hid (OwnP.grew O16.out GG30)
  have O20 := Lib.hid (owns_grew O20.out GG30)
  have O24 := Lib.hid (owns_grew O24.out GG30)
  have Ba0 := Lib.hid (Ba0.out.grew GG30)
  have Bx0 := Lib.hid (Bx0.out.grew GG30)
  have s31 : w25.heap.size ≤ w29.heap.size := GG30.size
  have BW := Lib.hid (grew_tr BW.out GG30)
  clear GG30 g28
  have la0 := Ba0.out.1
  have qa0_0 : w29.cell? ⟨w.heap.size, 0, none⟩ = some (.slice a0 n0 c0) := Ba0.out.2 0 _ rfl
  have lx0 := Bx0.out.1
  have qx0_0 : w29.cell? ⟨w17.heap.size, 0, none⟩ = some (.slice ca16 n0 cc16) := Bx0.out.2 0 _ rfl
  go_wp2_with fail
  go_region_held3 (fun W => W.cell? ⟨w.heap.size, 0, none⟩ = some (.slice a0 n0 c0) ∧ W.cell? ⟨w17.heap.size, 0, none⟩ = some (.slice ca16 n0 cc16)) (first | assumption | exact ⟨qa0_0, qx0_0⟩ | exact ⟨(ext_cellD _ _ ⟨w.heap.size, 0, none⟩ la0).trans qa0_0, (ext_cellD _ _ ⟨w17.heap.size, 0, none⟩ lx0).trans qx0_0⟩)
    (first
    | (go_at_call 7; refine (toPrgProg a0 n0 c0 ps0 _ (HR0.out.grew (grew_d BW.out)) hz0 hyy0.out).mono ?_; rintro e w2 ⟨v32, ms32, rfl, o32, hm32, g32⟩; obtain ⟨ca32, cc32, rfl⟩ := owns_slice o32.2.1; have R32 := Lib.hid (prg_rd o32 hm32); clear o32 hm32; obtain ⟨y32, rfl⟩ := ext_of g32; clear g32)
    | (go_at_call 10; refine (eqPrgProg ca16 ca32 n0 n0 cc16 cc32 ps0 ps0 _ (RdL.grew stays_prc (prg_rd O16.out hq1616.out) (grew_ext (grew_d (Below.refl _ _)) _)) R32.out hn0 hn0).mono ?_; rintro e w2 ⟨rfl, g35⟩; obtain ⟨y35, rfl⟩ := ext_col g35; clear g35))
  clear R32
  obtain ⟨w34, hw2⟩ : ∃ X, ext (w29).drew y35 = X := ⟨_, rfl⟩
  rw [hw2]
  have g135 : Grew w29 w34 := by rw [← hw2]; exact grew_ext (grew_d (Below.refl _ _)) _
  clear hw2
  have GG36 : Grew w29 w34 := g135
  clear la0 qa0_0
  clear lx0 qx0_0
  have O12 := Lib.hid (owns_grew O12.out GG36)
  have O16 := Lib.hid (OwnP.grew O16.out GG36)
  have O20 := Lib.hid (owns_grew O20.out GG36)
  have O24 := Lib.hid (owns_grew O24.out GG36)
  have Ba0 := Lib.hid (Ba0.out.grew GG36)
  have Bx0 := Lib.hid (Bx0.out.grew GG36)
  have s37 : w29.heap.size ≤ w34.heap.size := GG36.size
  have BW := Lib.hid (grew_tr BW.out GG36)
  clear GG36 g135
  have la0 := Ba0.out.1
  have qa0_0 : w34.cell? ⟨w.heap.size, 0, none⟩ = some (.slice a0 n0 c0) := Ba0.out.2 0 _ rfl
  have lx0 := Bx0.out.1
  have qx0_0 : w34.cell? ⟨w17.heap.size, 0, none⟩ = some (.slice ca16 n0 cc16) := Bx0.out.2 0 _ rfl
  go_wp2_with fail
  refine (toBoolS a1 n1 c1 bs1 _ (HR1.out.grew (BW.out)) (by omega)).mono ?_
  rintro e w39 ⟨v38, rfl, o38, g38⟩
  obtain ⟨ca38, cc38, rfl⟩ := owns_slice o38
  have pp := o38.lt
  try simp only [World.size_alloc] at pp
  have P38 := Lib.hid pp; clear pp
  have GG40 : Grew w34 w39 := g38
  clear la0 qa0_0
  clear lx0 qx0_0
  have O12 := Lib.hid (owns_grew O12.out GG40)
  have O16 := Lib.hid (OwnP.grew O16.out GG40)
  have O20 := Lib.hid (owns_grew O20.out GG40)
  have O24 := Lib.hid (owns_grew O24.out GG40)
  have Ba0 := Lib.hid (Ba0.out.grew GG40)
  have Bx0 := Lib.hid (Bx0.out.grew GG40)
  have s41 : w34.heap.size ≤ w39.heap.size := GG40.size
  have BW := Lib.hid (grew_tr BW.out GG40)
  clear GG40 g38
  have la0 := Ba0.out.1
  have qa0_0 : w39.cell? ⟨w.heap.size, 0, none⟩ = some (.slice a0 n0 c0) := Ba0.out.2 0 _ rfl
  have lx0 := Bx0.out.1
  have qx0_0 : w39.cell? ⟨w17.heap.size, 0, none⟩ = some (.slice ca16 n0 cc16) := Bx0.out.2 0 _ rfl
  have O38 := Lib.hid o38; clear o38
  go_wp2_with fail
  refine (eqBoolS ca20 n1 cc20 ca38 cc38 bs1 _ (owns_rd O20.out) (owns_rd O38.out) (by omega)).mono ?_
  rintro e w43 ⟨rfl, g42⟩
  have GG44 : Grew w39 w43 := g42
  clear la0 qa0_0
  clear lx0 qx0_0
  have O12 := Lib.hid (owns_grew O12.out GG44)
  have O16 := Lib.hid (OwnP.grew O16.out GG44)
  have O20 := Lib.hid (owns_grew O20.out GG44)
  have O24 := Lib.hid (owns_grew O24.out GG44)
  have O38 := Lib.hid (owns_grew O38.out GG44)
  have Ba0 := Lib.hid (Ba0.out.grew GG44)
  have Bx0 := Lib.hid (Bx0.out.grew GG44)
  have s45 : w39.heap.size ≤ w43.heap.size := GG44.size
  have BW := Lib.hid (grew_tr BW.out GG44)
  clear GG44 g42
  have la0 := Ba0.out.1
  have qa0_0 : w43.cell? ⟨w.heap.size, 0, none⟩ = some (.slice a0 n0 c0) := Ba0.out.2 0 _ rfl
  have lx0 := Bx0.out.1
  have qx0_0 : w43.cell? ⟨w17.heap.size, 0, none⟩ = some (.slice ca16 n0 cc16) := Bx0.out.2 0 _ rfl
  clear O38 P38
  go_wp2_with fail
  refine (markPrgProgB ca16 n0 cc16 1 _ _ _ _ O16.out P16.out (by omega) (by omega) (fun m hm => hyy0.out m.1 (by rw [← hq1616.out]; exact List.mem_map_of_mem hm))).mono ?_
  rintro e w47 ⟨K46, rfl, hKb46, c46⟩
  clear O16
  clear la0 qa0_0
  clear lx0 qx0_0
  have O12 := Lib.hid (owns_chg O12.out c46 (fun b hb hF => by have h1 := P12.out b hb; obtain ⟨h2, h3⟩ := hF; (first | omega | (simp only [World.size_alloc] at *; omega))))
  have O20 := Lib.hid (owns_chg O20.out c46 (fun b hb hF => by have h1 := P20.out b hb; obtain ⟨h2, h3⟩ := hF; (first | omega | (simp only [World.size_alloc] at *; omega))))
  have O24 := Lib.hid (owns_chg O24.out c46 (fun b hb hF => by have h1 := P24.out b hb; obtain ⟨h2, h3⟩ := hF; (first | omega | (simp only [World.size_alloc] at *; omega))))
  have Ba0 := Lib.hid (Ba0.out.chg c46 (fun hF => by obtain ⟨h2, h3⟩ := hF; (first | omega | (simp only [World.size_alloc] at *; omega))))
  have Bx0 := Lib.hid (Bx0.out.chg c46 (fun hF => by obtain ⟨h2, h3⟩ := hF; (first | omega | (simp only [World.size_alloc] at *; omega))))
  have s48 : w43.heap.size ≤ w47.heap.size := c46.size
  have BW := Lib.hid (BW.out.trans (c46.belowB BW.out.size (fun b hF => by obtain ⟨h2, h3⟩ := hF; (first | omega | (simp only [World.size_alloc] at *; omega)))))
  clear c46
  have la0 := Ba0.out.1
  have qa0_0 : w47.cell? ⟨w.heap.size, 0, none⟩ = some (.slice a0 n0 c0) := Ba0.out.2 0 _ rfl
  have lx0 := Bx0.out.1
  have qx0_0 : w47.cell? ⟨w17.heap.size, 0, none⟩ = some (.slice ca16 n0 cc16) := Bx0.out.2 0 _ rfl
  go_wp2_with fail
  refine (markBoolS ca20 n1 cc20 K46 bs1 _ _ O20.out (by omega) (by omega)).mono ?_
  rintro e w50 ⟨rfl, o49, c49⟩
  clear o49
  clear O20
  clear la0 qa0_0
  clear lx0 qx0_0
  have O12 := Lib.hid (owns_chg O12.out c49 (fun b hb hF => by have h1 := P12.out b hb; have h2 := P20.out _ hF; omega))
  have O24 := Lib.hid (owns_chg O24.out c49 (fun b hb hF => by have h1 := P24.out b hb; have h2 := P20.out _ hF; omega))
  have Ba0 := Lib.hid (Ba0.out.chg c49 (fun hF => by have h2 := P20.out _ hF; omega))
  have Bx0 := Lib.hid (Bx0.out.chg c49 (fun hF => by have h2 := P20.out _ hF; omega))
  have s51 : w47.heap.size ≤ w50.heap.size := c49.size
  have BW := Lib.hid (BW.out.trans (c49.belowB BW.out.size (fun b hF => by have h2 := P20.out _ hF; omega)))
  clear c49
  have la0 := Ba0.out.1
  have qa0_0 : w50.cell? ⟨w.heap.size, 0, none⟩ = some (.slice a0 n0 c0) := Ba0.out.2 0 _ rfl
  have lx0 := Bx0.out.1
  have qx0_0 : w50.cell? ⟨w17.heap.size, 0, none⟩ = some (.slice ca16 n0 cc16) := Bx0.out.2 0 _ rfl
  go_wp2_with fail
  refine (eqIntG ca24 S.length cc24 ca12 S.length cc12 S S _ (owns_rd O24.out) (owns_rd O12.out) (by omega) (by omega)).mono ?_
  rintro e w53 ⟨rfl, g52⟩
  have GG54 : Grew w50 w53 := g52
  clear la0 qa0_0
  clear lx0 qx0_0
  have O12 := Lib.hid (owns_grew O12.out GG54)
  have O24 := Lib.hid (owns_grew O24.out GG54)
  have Ba0 := Lib.hid (Ba0.out.grew GG54)
  have Bx0 := Lib.hid (Bx0.out.grew GG54)
  have s55 : w50.heap.size ≤ w53.heap.size := GG54.size
  have BW := Lib.hid (grew_tr BW.out GG54)
  clear GG54 g52
  have la0 := Ba0.out.1
  have qa0_0 : w53.cell? ⟨w.heap.size, 0, none⟩ = some (.slice a0 n0 c0) := Ba0.out.2 0 _ rfl
  have lx0 := Bx0.out.1
  have qx0_0 : w53.cell? ⟨w17.heap.size, 0, none⟩ = some (.slice ca16 n0 cc16) := Bx0.out.2 0 _ rfl
  go_wp2_with fail
  refine (markIntS ca24 S.length cc24 1 _ _ _ O24.out (by omega) (by omega)).mono ?_
  rintro e w57 ⟨rfl, o56, c56⟩
  clear O24
  clear la0 qa0_0
  clear lx0 qx0_0
  have O12 := Lib.hid (owns_chg O12.out c56 (fun b hb hF => by have h1 := P12.out b hb; have h2 := P24.out _ hF; omega))
  have Ba0 := Lib.hid (Ba0.out.chg c56 (fun hF => by have h2 := P24.out _ hF; omega))
  have Bx0 := Lib.hid (Bx0.out.chg c56 (fun hF => by have h2 := P24.out _ hF; omega))
  have s58 : w53.heap.size ≤ w57.heap.size := c56.size
  have BW := Lib.hid (BW.out.trans (c56.belowB BW.out.size (fun b hF => by have h2 := P24.out _ hF; omega)))
  clear c56
  have la0 := Ba0.out.1
  have qa0_0 : w57.cell? ⟨w.heap.size, 0, none⟩ = some (.slice a0 n0 c0) := Ba0.out.2 0 _ rfl
  have lx0 := Bx0.out.1
  have qx0_0 : w57.cell? ⟨w17.heap.size, 0, none⟩ = some (.slice ca16 n0 cc16) := Bx0.out.2 0 _ rfl
  have O24 := Lib.hid o56; clear o56
  go_wp2_with fail
  refine (heldIntG ca24 S.length cc24 1 _ (owns_rd O24.out) (by omega) (by omega)).mono ?_
  rintro e w60 ⟨rfl, g59⟩
  have GG61 : Grew w57 w60 := g59
  clear la0 qa0_0
  clear lx0 qx0_0
  have O12 := Lib.hid (owns_grew O12.out GG61)
  have O24 := Lib.hid (owns_grew O24.out GG61)
  have Ba0 := Lib.hid (Ba0.out.grew GG61)
  have Bx0 := Lib.hid (Bx0.out.grew GG61)
  have s62 : w57.heap.size ≤ w60.heap.size := GG61.size
  have BW := Lib.hid (grew_tr BW.out GG61)
  clear GG61 g59
  have la0 := Ba0.out.1
  have qa0_0 : w60.cell? ⟨w.heap.size, 0, none⟩ = some (.slice a0 n0 c0) := Ba0.out.2 0 _ rfl
  have lx0 := Bx0.out.1
  have qx0_0 : w60.cell? ⟨w17.heap.size, 0, none⟩ = some (.slice ca16 n0 cc16) := Bx0.out.2 0 _ rfl
  go_wp2_with fail
  refine (toPrgProg a0 n0 c0 ps0 _ (HR0.out.grew (BW.out)) hz0 hyy0.out).mono ?_
  rintro e w64 ⟨v63, ms63, rfl, o63, hm63, g63⟩
  obtain ⟨ca63, cc63, rfl⟩ := owns_slice o63.2.1
  have hq6363 := Lib.hid hm63; clear hm63
  have P63 := Lib.hid (OwnP.blk o63)
  have GG65 : Grew w60 w64 := g63
  clear la0 qa0_0
  clear lx0 qx0_0
  have O12 := Lib.hid (owns_grew O12.out GG65)
  have O24 := Lib.hid (owns_grew O24.out GG65)
  have Ba0 := Lib.hid (Ba0.out.grew GG65)
  have Bx0 := Lib.hid (Bx0.out.grew GG65)
  have s66 : w60.heap.size ≤ w64.heap.size := GG65.size
  have BW := Lib.hid (grew_tr BW.out GG65)
  clear GG65 g63
  have la0 := Ba0.out.1
  have qa0_0 : w64.cell? ⟨w.heap.size, 0, none⟩ = some (.slice a0 n0 c0) := Ba0.out.2 0 _ rfl
  have lx0 := Bx0.out.1
  have qx0_0 : w64.cell? ⟨w17.heap.size, 0, none⟩ = some (.slice ca16 n0 cc16) := Bx0.out.2 0 _ rfl
  have O63 := Lib.hid o63; clear o63
  go_wp2_with fail
  refine (toBoolS a1 n1 c1 bs1 _ (HR1.out.grew (BW.out)) (by omega)).mono ?_
  rintro e w68 ⟨v67, rfl, o67, g67⟩
  obtain ⟨ca67, cc67, rfl⟩ := owns_slice o67
  have pp := o67.lt
  try simp only [World.size_alloc] at pp
  have P67 := Lib.hid pp; clear pp
  have GG69 : Grew w64 w68 := g67
  clear la0 qa0_0
  clear lx0 qx0_0
  have O12 := Lib.hid (owns_grew O12.out GG69)
  have O24 := Lib.hid (owns_grew O24.out GG69)
  have O63 := Lib.hid (OwnP.grew O63.out GG69)
  have Ba0 := Lib.hid (Ba0.out.grew GG69)
  have Bx0 := Lib.hid (Bx0.out.grew GG69)
  have s70 : w64.heap.size ≤ w68.heap.size := GG69.size
  have BW := Lib.hid (grew_tr BW.out GG69)
  clear GG69 g67
  have la0 := Ba0.out.1
  have qa0_0 : w68.cell? ⟨w.heap.size, 0, none⟩ = some (.slice a0 n0 c0) := Ba0.out.2 0 _ rfl
  have lx0 := Bx0.out.1
  have qx0_0 : w68.cell? ⟨w17.heap.size, 0, none⟩ = some (.slice ca16 n0 cc16) := Bx0.out.2 0 _ rfl
  have O67 := Lib.hid o67; clear o67
  go_wp2_with fail
  refine (retIs_of (implGrfReady ca63 n0 cc63 ps0 ca67 n1 cc67 bs1 _ (prg_rd O63.out hq6363.out) hn0 (owns_rd O67.out)) HS.out).mono ?_
  rintro e w72 ⟨ca71, cc71, rfl, o71, g71⟩
  have pp := o71.lt
  try simp only [World.size_alloc] at pp
  have P71 := Lib.hid pp; clear pp
  have GG73 : Grew w68 w72 := g71
  clear la0 qa0_0
  clear lx0 qx0_0
  have O12 := Lib.hid (owns_grew O12.out GG73)
  have O24 := Lib.hid (owns_grew O24.out GG73)
  have O63 := Lib.hid (OwnP.grew O63.out GG73)
  have O67 := Lib.hid (owns_grew O67.out GG73)
  have Ba0 := Lib.hid (Ba0.out.grew GG73)
  have Bx0 := Lib.hid (Bx0.out.grew GG73)
  have s74 : w68.heap.size ≤ w72.heap.size := GG73.size
  have BW := Lib.hid (grew_tr BW.out GG73)
  clear GG73 g71
  have la0 := Ba0.out.1
  have qa0_0 : w72.cell? ⟨w.heap.size, 0, none⟩ = some (.slice a0 n0 c0) := Ba0.out.2 0 _ rfl
  have lx0 := Bx0.out.1
  have qx0_0 : w72.cell? ⟨w17.heap.size, 0, none⟩ = some (.slice ca16 n0 cc16) := Bx0.out.2 0 _ rfl
  have O71 := Lib.hid o71; clear o71
  clear O63 P63 hq6363
  clear O67 P67
  go_wp2_with fail
  refine (eqIntG ca71 S.length cc71 ca12 S.length cc12 S S _ (owns_rd O71.out) (owns_rd O12.out) (by omega) (by omega)).mono ?_
  rintro e w76 ⟨rfl, g75⟩
  have GG77 : Grew w72 w76 := g75
  clear la0 qa0_0
  clear lx0 qx0_0
  have O12 := Lib.hid (owns_grew O12.out GG77)
  have O24 := Lib.hid (owns_grew O24.out GG77)
  have O71 := Lib.hid (owns_grew O71.out GG77)
  have Ba0 := Lib.hid (Ba0.out.grew GG77)
  have Bx0 := Lib.hid (Bx0.out.grew GG77)
  have s78 : w72.heap.size ≤ w76.heap.size := GG77.size
  have BW := Lib.hid (grew_tr BW.out GG77)
  clear GG77 g75
  have la0 := Ba0.out.1
  have qa0_0 : w76.cell? ⟨w.heap.size, 0, none⟩ = some (.slice a0 n0 c0) := Ba0.out.2 0 _ rfl
  have lx0 := Bx0.out.1
  have qx0_0 : w76.cell? ⟨w17.heap.size, 0, none⟩ = some (.slice ca16 n0 cc16) := Bx0.out.2 0 _ rfl
  go_wp2_with fail
  refine (heldIntG ca24 S.length cc24 1 _ (owns_rd O24.out) (by omega) (by omega)).mono ?_
  rintro e w80 ⟨rfl, g79⟩
  have GG81 : Grew w76 w80 := g79
  clear la0 qa0_0
  clear lx0 qx0_0
  have O12 := Lib.hid (owns_grew O12.out GG81)
  have O24 := Lib.hid (owns_grew O24.out GG81)
  have O71 := Lib.hid (owns_grew O71.out GG81)
  have Ba0 := Lib.hid (Ba0.out.grew GG81)
  have Bx0 := Lib.hid (Bx0.out.grew GG81)
  have s82 : w76.heap.size ≤ w80.heap.size := GG81.size
  have BW := Lib.hid (grew_tr BW.out GG81)
  clear GG81 g79
  have la0 := Ba0.out.1
  have qa0_0 : w80.cell? ⟨w.heap.size, 0, none⟩ = some (.slice a0 n0 c0) := Ba0.out.2 0 _ rfl
  have lx0 := Bx0.out.1
  have qx0_0 : w80.cell? ⟨w17.heap.size, 0, none⟩ = some (.slice ca16 n0 cc16) := Bx0.out.2 0 _ rfl
  go_wp2
  go_ret
  exact ⟨rfl, BW.out⟩
end Go.Proofs.YtmcfengnihomcaaGreat