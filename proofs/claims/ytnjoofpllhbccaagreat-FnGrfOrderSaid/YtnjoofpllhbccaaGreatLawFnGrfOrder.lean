/- The walk of the law FnGrfOrder. No condition. -/
import Derived.Test.YtnjoofpllhbccaaGreatLawFnGrfCalls
import Derived.Test.YtnjoofpllhbccaaGreatDrGd
import Derived.Test.YtnjoofpllhbccaaGreatRq
import Derived.Test.YtnjoofpllhbccaaGreatGou
namespace Go.Proofs.YtnjoofpllhbccaaGreat
open Go.RowKit
set_option linter.unusedVariables false
set_option linter.unusedSimpArgs false
attribute [local go_sem] ext_cell ext_frozen ext_lt ext_le ext_le1 lt_s2 lt_s3 lt_s4 lt_s5 lt_s6 ext_lt1 ext_lt2 ext_lt3

theorem Rd.pre {w : World} {b off n : Nat} {k : IntKind} {zs : List Int} (h : Rd w (some ⟨b, off, none⟩) n 1 (ints k zs)) {m : Nat} (hm : m ≤ n) : Rd w (some ⟨b, off, none⟩) m 1 (ints k (zs.take m)) := by
  have := h.sub 0 m (by omega)
  simpa using this
set_option maxRecDepth 100000 in
set_option maxHeartbeats 4000000 in
theorem lawFnGrfOrder (a : Option Addr) (n c : Nat) (xs : List Int) (w : World) (hr : Rd w a n 1 (ints .u8 xs)) (hx : Bs xs) (hc : n ≤ c ∧ c ≤ maxLen) :
    Calls Tryz.prog 5 #[.slice a n c] w fun e w' => e = .returned (.bool true) ∧ Grew w w' := by
  have HR := Lib.hid hr; clear hr
  have HX := Lib.hid hx; clear hx
  by_cases h1 : (n : Int) > 1048576
  · go_enter Tryz.func5, Tryz.ntmps5
    go_wp2
    go_ret
    exact ⟨rfl, Below.refl _ _⟩
  go_enter Tryz.func5, Tryz.ntmps5
  go_wp2_with fail
  refine (drawGrfOrder a n c xs w HR.out HX.out hc).mono ?_
  rintro e w1 ⟨pa, m, pc, ps, rfl, hp, g1⟩
  have hm5 : m ≤ 5 := hp.2.1
  have hm63 : m ≤ 9223372036854775807 := by omega
  have HML := Lib.hid hp.len
  have B1 := Lib.hid (Blk.new w1 25 #[.slice pa m pc])
  have P1 := Lib.hid (hp.grew (grew_al (Below.refl _ w1) (.cells #[.slice pa m pc] 25)))
  have G1 := Lib.hid (grew_tr g1 (grew_al (Below.refl _ _) (.cells #[.slice pa m pc] 25)))
  have CI := Lib.hid (fun W (h : RdP W pa m ps) => implGrfOrder pa m pc ps W h hm63)
  have CS := Lib.hid (fun W (h : RdP W pa m ps) => specGrfOrder pa m pc ps W h hm63)
  have CP := Lib.hid (fun W (h : RdP W pa m ps) => specGrfParts pa m pc ps W h hm63)
  have CN := Lib.hid (fun W (h : RdP W pa m ps) (y : Int) => implGrfNeeds pa m pc ps y W h hm63)
  have hat := fun (j : Nat) (x : Int) (h : (grfOrder ps)[j]? = some x) => order_at h
  have hlen := grfOrder_n ps
  have hlen10 := grfOrder_len ps
  obtain ⟨K, hK⟩ : ∃ K, grfParts ps = K := ⟨_, rfl⟩
  obtain ⟨L, hL⟩ : ∃ L, grfOrder ps = L := ⟨_, rfl⟩
  rw [hL] at CI CS hlen hlen10
  rw [hK] at CP hlen
  simp only [hL] at hat
  have HAt := Lib.hid hat
  have HLen := Lib.hid hlen
  clear hp g1 HR HX hL hK hat hlen
  obtain ⟨b3, hb3⟩ : ∃ b, w1.heap.size = b := ⟨_, rfl⟩
  rw [hb3] at B1
  go_wp2_with fail
  refine (CI.out _ P1.out.1).mono ?_
  rintro e w2 ⟨la, lc, rfl, o2, g2⟩
  have R2 := Lib.hid (owns_rd o2)
  have B2 := Lib.hid (B1.out.grew g2)
  have P2 := Lib.hid (P1.out.grew g2)
  have G2 := Lib.hid (grew_tr G1.out g2)
  have hlc : L.length ≤ lc ∧ lc ≤ maxLen := owns_cap o2
  clear o2 g2 B1 P1 G1
  have p0 : w2.cell? ⟨b3, 0, none⟩ = some (.slice pa m pc) := B2.out.cell 0
  have pl := B2.out.lt
  try rw [hb3]
  clear hb3
  go_wp2_with fail
  refine (CS.out _ P2.out.1).mono ?_
  rintro e w3 ⟨sa, sc, rfl, o3, g3⟩
  have R3 := Lib.hid (R2.out.grew g3)
  have S3 := Lib.hid (owns_rd o3)
  have B3 := Lib.hid (B2.out.grew g3)
  have P3 := Lib.hid (P2.out.grew g3)
  have G3 := Lib.hid (grew_tr G2.out g3)
  clear o3 g3 B2 P2 G2 R2 p0 pl
  go_wp2_with fail
  refine (owIntsE la L.length lc sa L.length sc L w3 R3.out S3.out (by omega)).mono ?_
  rintro e w4 ⟨rfl, g4⟩
  have R4 := Lib.hid (R3.out.grew g4)
  have B4 := Lib.hid (B3.out.grew g4)
  have P4 := Lib.hid (P3.out.grew g4)
  have G4 := Lib.hid (grew_tr G3.out g4)
  clear g4 B3 P3 G3 R3 S3
  have p0 : w4.cell? ⟨b3, 0, none⟩ = some (.slice pa m pc) := B4.out.cell 0
  have pl := B4.out.lt
  go_wp2_with fail
  refine (CP.out _ P4.out.1).mono ?_
  rintro e w5 ⟨ka, kc, kms, rfl, o5, hms, g5⟩
  have R5 := Lib.hid (R4.out.grew g5)
  have B5 := Lib.hid (B4.out.grew g5)
  have P5 := Lib.hid (P4.out.grew g5)
  have G5 := Lib.hid (grew_tr G4.out g5)
  have hKL : K.length = L.length := HLen.out.symm
  simp only [hKL]
  clear o5 g5 hms B4 P4 G4 R4 p0 pl HLen hKL
  have p0 : w5.cell? ⟨b3, 0, none⟩ = some (.slice pa m pc) := B5.out.cell 0
  have pl := B5.out.lt
  have HSO := Lib.hid (fun W (h : Grew w5 W) => (h.cell (p := ⟨b3, 0, none⟩) pl).trans p0)
  have HPW := Lib.hid (fun W (h : Grew w5 W) => (P5.out.1.grew h : RdP W pa m ps))
  have HOK := Lib.hid owOkH
  clear CI CS CP P5 B5
  have hlcm : lc ≤ 9223372036854775807 := by have := hlc.2; unfold maxLen at this; omega
  have hl1 := hlc.1
  clear hlc
  go_wp2
  clear p0 pl
  go_loopw [5, 6, 7] (fun i v u wr => ∃ k : Nat, k ≤ L.length ∧ i = .int .i64 k ∧ Grew w5 wr) (fun i _ _ _ => L.length - (intOf i).toNat)
  case atStart => exact ⟨0, Nat.zero_le _, rfl, Below.refl _ _⟩
  case round =>
    obtain ⟨k, hk, rfl, hg⟩ := hrel
    have HG := Lib.hid hg
    obtain ⟨wo, hwo⟩ : ∃ wo : World, wo = wr := ⟨_, rfl⟩
    subst hwo
    clear hg
    by_cases hlt : k < L.length
    · obtain ⟨lb, loff, x, rfl, hx, hcx⟩ := (R5.out.grew HG.out).at1 hlt
      obtain ⟨hx1, hx2⟩ := HAt.out k x hx
      have llb : lb < wo.heap.size := World.block_lt_of_cell? _ _ hcx
      have HCY := Lib.hid (fun W (h : Grew wo W) => (⟨HSO.out _ (grew_tr HG.out h), (h.cell (p := ⟨lb, loff + k, none⟩) llb).trans hcx⟩ : W.cell? ⟨b3, 0, none⟩ = some (.slice pa m pc) ∧ W.cell? ⟨lb, loff + k, none⟩ = some (.int .i64 x)))
      have HN := Lib.hid (fun W (h : Grew wo W) => CN.out W (HPW.out _ (grew_tr HG.out h)) x)
      have hNl := grfNeeds_len ps x
      obtain ⟨M, hM⟩ : ∃ M, grfNeeds ps x = M := ⟨_, rfl⟩
      rw [hM] at HN hNl hx2
      have HX1 := Lib.hid hx1
      have HX2 := Lib.hid hx2
      have HHas := Lib.hid (fun (z : Int) (W : World) (h : Grew wo W) => owHas (some ⟨lb, loff, none⟩) k lc (L.take k) z W (((R5.out.grew HG.out).grew h).pre hk) (by omega))
      have hkc : ¬ lc < k := by omega
      have hkc2 : k ≤ lc := by omega
      have hkc3 : (k : Int) ≤ (lc : Int) := by omega
      have hkc4 : ¬ lc = k := by omega
      have hkc5 : ¬ (lc : Int) = (k : Int) := by omega
      clear hx hx1 hx2 hM hcx llb
      go_wp2_with fail
      go_region_held3 (fun W => W.cell? ⟨b3, 0, none⟩ = some (.slice pa m pc) ∧ W.cell? ⟨lb, loff + k, none⟩ = some (.int .i64 x)) (first | assumption | exact HCY.out _ (by repeat (first | with_reducible exact Below.refl _ _ | with_reducible assumption | with_reducible apply grew_ext | with_reducible apply grew_al | with_reducible apply grew_dn | with_reducible apply grew_d | (with_reducible refine grew_set ?_ (by first | omega | (repeat (first | with_reducible exact Nat.le_refl _ | with_reducible apply le_pl | with_reducible apply le_ext | with_reducible apply le_al))) _))))
        (first
        | (go_at_call 7; refine (HN.out _ (by repeat (first | with_reducible exact Below.refl _ _ | with_reducible assumption | with_reducible apply grew_ext | with_reducible apply grew_al | with_reducible apply grew_dn | with_reducible apply grew_d | (with_reducible refine grew_set ?_ (by first | omega | (repeat (first | with_reducible exact Nat.le_refl _ | with_reducible apply le_pl | with_reducible apply le_ext | with_reducible apply le_al))) _)))).mono ?_; rintro e wh ⟨na, nc, rfl, oc, ga⟩; have RC := Lib.hid (owns_rd oc); clear oc; (first | obtain ⟨ya, rfl⟩ := ext_cold ga | obtain ⟨ya, rfl⟩ := ext_col ga | obtain ⟨ya, rfl⟩ := ext_of ga); clear ga))
      obtain ⟨w8, hE8⟩ : ∃ X, X = ext wo.drew ya := ⟨_, rfl⟩
      have RC := RC.out
      rw [← hE8] at RC ⊢
      have RC := Lib.hid RC
      have HG8 : Hid (Grew wo w8) := Lib.hid (by rw [hE8]; repeat (first | with_reducible exact Below.refl _ _ | with_reducible assumption | with_reducible apply grew_ext | with_reducible apply grew_al | with_reducible apply grew_dn | with_reducible apply grew_d | (with_reducible refine grew_set ?_ (by first | omega | (repeat (first | with_reducible exact Nat.le_refl _ | with_reducible apply le_pl | with_reducible apply le_ext | with_reducible apply le_al))) _)))
      clear hE8 HN
      go_wp2
      go_loopw [7] (fun i wr => ∃ j : Nat, j ≤ M.length ∧ i = .int .i64 j ∧ Grew w8 wr) (fun i _ => M.length - (intOf i).toNat)
      case atStart => exact ⟨0, Nat.zero_le _, rfl, Below.refl _ _⟩
      case round =>
        obtain ⟨j, hj, rfl, hg⟩ := hrel
        have HGj := Lib.hid hg
        clear hg
        obtain ⟨wj, hwj⟩ : ∃ wj : World, wj = wr := ⟨_, rfl⟩
        subst hwj
        by_cases hlj : j < M.length
        · obtain ⟨cb, coff, z, rfl, hz, hcz⟩ := (RC.out.grew HGj.out).at1 hlj
          have hzL := HX2.out _ (List.mem_of_getElem? hz)
          have HH := Lib.hid (fun W (h : Grew wj W) => (by have := HHas.out z W (grew_tr HG8.out (grew_tr HGj.out h)); rw [decide_eq_true hzL] at this; exact this : Calls Tryz.prog 12 #[.slice (some ⟨lb, loff, none⟩) k lc, .int .i64 z] W (fun e w' => e = .returned (.bool true) ∧ W = w')))
          have lcb : cb < wj.heap.size := World.block_lt_of_cell? _ _ hcz
          have HCZ := Lib.hid (fun W (h : Grew wj W) => ((h.cell (p := ⟨cb, coff + j, none⟩) lcb).trans hcz : W.cell? ⟨cb, coff + j, none⟩ = some (.int .i64 z)))
          clear hzL hz hcz lcb
          go_wp2_with fail
          go_region_held3 (fun W => W.cell? ⟨cb, coff + j, none⟩ = some (.int .i64 z)) (first | assumption | exact HCZ.out _ (by repeat (first | with_reducible exact Below.refl _ _ | with_reducible assumption | with_reducible apply grew_ext | with_reducible apply grew_al | with_reducible apply grew_dn | with_reducible apply grew_d | (with_reducible refine grew_set ?_ (by first | omega | (repeat (first | with_reducible exact Nat.le_refl _ | with_reducible apply le_pl | with_reducible apply le_ext | with_reducible apply le_al))) _))))
            (first
            | (go_at_call 12; refine (HH.out _ (by repeat (first | with_reducible exact Below.refl _ _ | with_reducible assumption | with_reducible apply grew_ext | with_reducible apply grew_al | with_reducible apply grew_dn | with_reducible apply grew_d | (with_reducible refine grew_set ?_ (by first | omega | (repeat (first | with_reducible exact Nat.le_refl _ | with_reducible apply le_pl | with_reducible apply le_ext | with_reducible apply le_al))) _)))).mono ?_; rintro e wh ⟨rfl, rfl⟩))
          go_wp2
          go_roundw
          case rel => exact ⟨j + 1, by omega, by go_num, grew_tr HGj.out (by repeat (first | with_reducible exact Below.refl _ _ | with_reducible assumption | with_reducible apply grew_ext | with_reducible apply grew_al | with_reducible apply grew_dn | with_reducible apply grew_d | (with_reducible refine grew_set ?_ (by first | omega | (repeat (first | with_reducible exact Nat.le_refl _ | with_reducible apply le_pl | with_reducible apply le_ext | with_reducible apply le_al))) _)))⟩
          case measure => (simp [intOf]; try omega)
        · obtain rfl : j = M.length := by omega
          have HH := Lib.hid (fun W (h : Grew wj W) => (by have := HHas.out x W (grew_tr HG8.out (grew_tr HGj.out h)); rw [decide_eq_false HX1.out] at this; exact this : Calls Tryz.prog 12 #[.slice (some ⟨lb, loff, none⟩) k lc, .int .i64 x] W (fun e w' => e = .returned (.bool false) ∧ W = w')))
          have HCZ := Lib.hid (fun W (h : Grew wj W) => (HCY.out W (grew_tr HG8.out (grew_tr HGj.out h))).2)
          go_wp2_with fail
          go_region_held3 (fun W => W.cell? ⟨lb, loff + k, none⟩ = some (.int .i64 x)) (first | assumption | exact HCZ.out _ (by repeat (first | with_reducible exact Below.refl _ _ | with_reducible assumption | with_reducible apply grew_ext | with_reducible apply grew_al | with_reducible apply grew_dn | with_reducible apply grew_d | (with_reducible refine grew_set ?_ (by first | omega | (repeat (first | with_reducible exact Nat.le_refl _ | with_reducible apply le_pl | with_reducible apply le_ext | with_reducible apply le_al))) _))))
            (first
            | (go_at_call 12; refine (HH.out _ (by repeat (first | with_reducible exact Below.refl _ _ | with_reducible assumption | with_reducible apply grew_ext | with_reducible apply grew_al | with_reducible apply grew_dn | with_reducible apply grew_d | (with_reducible refine grew_set ?_ (by first | omega | (repeat (first | with_reducible exact Nat.le_refl _ | with_reducible apply le_pl | with_reducible apply le_ext | with_reducible apply le_al))) _)))).mono ?_; rintro e wh ⟨rfl, rfl⟩))
          go_wp2
          go_roundw
          case rel => exact ⟨k + 1, by omega, by go_num, grew_tr HG.out (grew_tr HG8.out (grew_tr HGj.out (by repeat (first | with_reducible exact Below.refl _ _ | with_reducible assumption | with_reducible apply grew_ext | with_reducible apply grew_al | with_reducible apply grew_dn | with_reducible apply grew_d | (with_reducible refine grew_set ?_ (by first | omega | (repeat (first | with_reducible exact Nat.le_refl _ | with_reducible apply le_pl | with_reducible apply le_ext | with_reducible apply le_al))) _)))))⟩
          case measure => (simp [intOf]; try omega)
    · have hgo := grew_tr G5.out HG.out
      have HGO := Lib.hid hgo
      clear hgo
      go_wp2_with ((with_reducible refine (HOK.out _).mono ?_); rintro e w' ⟨rfl, rfl⟩)
      go_ret
      have hg := HGO.out
      refine ⟨rfl, ?_⟩
      repeat (first | with_reducible exact Below.refl _ _ | with_reducible assumption | with_reducible apply grew_ext | with_reducible apply grew_al | with_reducible apply grew_dn | with_reducible apply grew_d | (with_reducible refine grew_set ?_ (by first | omega | (repeat (first | with_reducible exact Nat.le_refl _ | with_reducible apply le_pl | with_reducible apply le_ext | with_reducible apply le_al))) _))
end Go.Proofs.YtnjoofpllhbccaaGreat
