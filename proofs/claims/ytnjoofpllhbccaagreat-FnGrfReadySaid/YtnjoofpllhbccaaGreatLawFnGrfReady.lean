/- The walk of the law FnGrfReady. No condition. -/
import Derived.Test.YtnjoofpllhbccaaGreatLawFnGrfCalls
import Derived.Test.YtnjoofpllhbccaaGreatDrRy
import Derived.Test.YtnjoofpllhbccaaGreatRs
import Derived.Test.YtnjoofpllhbccaaGreatGou
namespace Go.Proofs.YtnjoofpllhbccaaGreat
open Go.RowKit
set_option linter.unusedVariables false
set_option linter.unusedSimpArgs false
attribute [local go_sem] ext_cell ext_frozen ext_lt ext_le ext_le1 lt_s2 lt_s3 lt_s4 lt_s5 lt_s6 ext_lt1 ext_lt2 ext_lt3

theorem ready_no {ps : List Prc} {D : List Bool} (h : D.length ≠ (grfParts ps).length) : grfReady ps D = [] := by rw [grfReady, if_neg h]
theorem ready_srt (ps : List Prc) (D : List Bool) : Srt (grfReady ps D) := by
  unfold grfReady
  split
  · exact range_srt _ _
  · exact List.Pairwise.nil
theorem ready_at {ps : List Prc} {D : List Bool} (hl : D.length = (grfParts ps).length) {k : Nat} (hk : k < (grfParts ps).length) : decide ((k : Int) ∈ grfReady ps D) = (allD D (grfNeeds ps k) && !D.getD k false) := by
  have h : ((k : Int) ∈ grfReady ps D) ↔ (allD D (grfNeeds ps k) && !D.getD k false) = true := by
    rw [grfReady, if_pos hl, readyL_mem, grfNeeds_yes hk, Bool.and_eq_true, Bool.not_eq_true']
    constructor
    · rintro ⟨o, ho, h1, h2, h3⟩
      obtain rfl : k = o := by omega
      exact ⟨h3, h2⟩
    · rintro ⟨h3, h2⟩
      exact ⟨k, rfl, hk, h2, h3⟩
  cases hv : (allD D (grfNeeds ps k) && !D.getD k false)
  · exact decide_eq_false (fun e => by rw [h.1 e] at hv; cases hv)
  · exact decide_eq_true (h.2 hv)
theorem ready_ne {ps : List Prc} {D : List Bool} (hl : D.length = (grfParts ps).length) {k : Nat} (hk : k < (grfParts ps).length) (hd : D.getD k false = false) : 0 < (grfReady ps D).length := by
  have hB := (parts_ok (by omega : 0 < (grfParts ps).length)).1
  have h := ready_ex (gok_of hB) (prt_pos hB) D _ k (Nat.le_refl _) (by rw [← prt_eq hB]; exact hk) hd
  rw [← prt_eq hB] at h
  rw [grfReady, if_pos hl]
  exact List.length_pos_iff.2 h
theorem allD_snoc {D : List Bool} {zs : List Int} {j : Nat} {y : Int} (h : zs[j]? = some y) : allD D (zs.take (j + 1)) = (allD D (zs.take j) && D.getD y.toNat false) := by
  rw [take_get h]
  simp [allD]
set_option maxRecDepth 100000 in
set_option maxHeartbeats 4000000 in
theorem lawFnGrfReady (a : Option Addr) (n c : Nat) (xs : List Int) (w : World) (hr : Rd w a n 1 (ints .u8 xs)) (hx : Bs xs) (hc : n ≤ c ∧ c ≤ maxLen) :
    Calls Tryz.prog 4 #[.slice a n c] w fun e w' => e = .returned (.bool true) ∧ Grew w w' := by
  have HR := Lib.hid hr; clear hr
  have HX := Lib.hid hx; clear hx
  by_cases h1 : (n : Int) > 1048576
  · go_enter Tryz.func4, Tryz.ntmps4
    go_wp2
    go_ret
    exact ⟨rfl, Below.refl _ _⟩
  go_enter Tryz.func4, Tryz.ntmps4
  go_wp2_with fail
  refine (drawGrfReady a n c xs w HR.out HX.out hc).mono ?_
  rintro e w1 ⟨pa, m, pc, ps, da, dn, dc, D, rfl, hp, hd, hdn, g1⟩
  have hm5 : m ≤ 5 := hp.2.1
  have hm63 : m ≤ 9223372036854775807 := by omega
  have hdl := hd.lenB
  have HML := Lib.hid hp.len
  have B1 := Lib.hid (Blk.new w1 25 #[.slice pa m pc])
  have hal := grew_al (Below.refl _ w1) (.cells #[.slice pa m pc] 25)
  have P1 := Lib.hid (hp.grew hal)
  have D1 := Lib.hid (hd.grew hal)
  have G1 := Lib.hid (grew_tr g1 hal)
  have CI := Lib.hid (fun W (h : RdP W pa m ps) (hd : Rd W da dn 1 (bools D)) => implGrfReady pa m pc ps da dn dc D W h hm63 hd)
  have CS := Lib.hid (fun W (h : RdP W pa m ps) (hd : Rd W da dn 1 (bools D)) => specGrfReady pa m pc ps da dn dc D W h hm63 hd)
  have CP := Lib.hid (fun W (h : RdP W pa m ps) => specGrfParts pa m pc ps W h hm63)
  have CN := Lib.hid (fun W (h : RdP W pa m ps) (y : Int) => implGrfNeeds pa m pc ps y W h hm63)
  have hno := fun (h : D.length ≠ (grfParts ps).length) => ready_no h
  have hat := fun (h : D.length = (grfParts ps).length) (k : Nat) (hk : k < (grfParts ps).length) => ready_at h hk
  have hne := fun (h : D.length = (grfParts ps).length) (k : Nat) (hk : k < (grfParts ps).length) (hd : D.getD k false = false) => ready_ne h hk hd
  have hL10 := grfReady_len ps D
  have hsrt := ready_srt ps D
  have hbd := fun (k y : Int) (hy : y ∈ grfNeeds ps k) => grfNeeds_bd y hy
  have hk4 := (grfParts_bd ps).1
  obtain ⟨K, hK⟩ : ∃ K, grfParts ps = K := ⟨_, rfl⟩
  obtain ⟨L, hL⟩ : ∃ L, grfReady ps D = L := ⟨_, rfl⟩
  rw [hL] at CI CS hL10 hsrt hno
  simp only [hL] at hat hne
  rw [hK] at CP hno hk4
  simp only [hK] at hat hne hbd
  rw [hdl] at hno hat hne
  have HNo := Lib.hid hno
  have HAt := Lib.hid hat
  have HNe := Lib.hid hne
  have HSr := Lib.hid hsrt
  have HBd := Lib.hid hbd
  clear hp hd g1 HR HX hL hK hno hat hne hsrt hbd hal hdl
  obtain ⟨b3, hb3⟩ : ∃ b, w1.heap.size = b := ⟨_, rfl⟩
  rw [hb3] at B1
  go_wp2_with fail
  refine (CI.out _ P1.out.1 D1.out).mono ?_
  rintro e w2 ⟨la, lc, rfl, o2, g2⟩
  have R2 := Lib.hid (owns_rd o2)
  have B2 := Lib.hid (B1.out.grew g2)
  have P2 := Lib.hid (P1.out.grew g2)
  have D2 := Lib.hid (D1.out.grew g2)
  have G2 := Lib.hid (grew_tr G1.out g2)
  clear o2 g2 B1 P1 G1 D1
  have p0 : w2.cell? ⟨b3, 0, none⟩ = some (.slice pa m pc) := B2.out.cell 0
  have pl := B2.out.lt
  try rw [hb3]
  clear hb3
  go_wp2_with fail
  refine (CS.out _ P2.out.1 D2.out).mono ?_
  rintro e w3 ⟨sa, sc, rfl, o3, g3⟩
  have R3 := Lib.hid (R2.out.grew g3)
  have S3 := Lib.hid (owns_rd o3)
  have B3 := Lib.hid (B2.out.grew g3)
  have P3 := Lib.hid (P2.out.grew g3)
  have D3 := Lib.hid (D2.out.grew g3)
  have G3 := Lib.hid (grew_tr G2.out g3)
  clear o3 g3 B2 P2 G2 R2 D2 p0 pl
  go_wp2_with fail
  refine (owIntsE la L.length lc sa L.length sc L w3 R3.out S3.out (by omega)).mono ?_
  rintro e w4 ⟨rfl, g4⟩
  have R4 := Lib.hid (R3.out.grew g4)
  have B4 := Lib.hid (B3.out.grew g4)
  have P4 := Lib.hid (P3.out.grew g4)
  have D4 := Lib.hid (D3.out.grew g4)
  have G4 := Lib.hid (grew_tr G3.out g4)
  clear g4 B3 P3 G3 R3 S3 D3
  have p0 : w4.cell? ⟨b3, 0, none⟩ = some (.slice pa m pc) := B4.out.cell 0
  have pl := B4.out.lt
  go_wp2_with fail
  refine (CP.out _ P4.out.1).mono ?_
  rintro e w5 ⟨ka, kc, kms, rfl, o5, hms, g5⟩
  have R5 := Lib.hid (R4.out.grew g5)
  have B5 := Lib.hid (B4.out.grew g5)
  have P5 := Lib.hid (P4.out.grew g5)
  have D5 := Lib.hid (D4.out.grew g5)
  have G5 := Lib.hid (grew_tr G4.out g5)
  clear o5 g5 hms B4 P4 G4 R4 D4 p0 pl
  have HOK := Lib.hid owOkH
  by_cases hdk : dn = K.length
  rotate_left
  · have hLn : L = [] := HNo.out hdk
    subst hLn
    have hdk1 : ((dn : Int) != (K.length : Int)) = true := by simp; omega
    have hdk2 : (dn != K.length) = true := by simp; omega
    go_wp2_with ((with_reducible refine (HOK.out _).mono ?_); rintro e w' ⟨rfl, rfl⟩)
    go_ret
    have hg := G5.out
    refine ⟨rfl, ?_⟩
    repeat (first | with_reducible exact Below.refl _ _ | with_reducible assumption | with_reducible apply grew_ext | with_reducible apply grew_al | with_reducible apply grew_dn | with_reducible apply grew_d | (with_reducible refine grew_set ?_ (by first | omega | (repeat (first | with_reducible exact Nat.le_refl _ | with_reducible apply le_pl | with_reducible apply le_ext | with_reducible apply le_al))) _))
  have p0 : w5.cell? ⟨b3, 0, none⟩ = some (.slice pa m pc) := B5.out.cell 0
  have pl := B5.out.lt
  have HSO := Lib.hid (fun W (h : Grew w5 W) => (h.cell (p := ⟨b3, 0, none⟩) pl).trans p0)
  have HPW := Lib.hid (fun W (h : Grew w5 W) => (P5.out.1.grew h : RdP W pa m ps))
  have HAt2 := Lib.hid (HAt.out hdk)
  have HNe2 := Lib.hid (HNe.out hdk)
  clear CI CS CP P5 B5 HNo HAt HNe HOK p0 pl
  subst hdk
  go_wp2
  go_loopw [7, 8, 9, 10, 11, 12] (fun o1 c1 i u v t wr => ∃ (k : Nat) (ob cb : Bool), k ≤ K.length ∧ i = .int .i64 k ∧ o1 = .bool ob ∧ c1 = .bool cb ∧ (ob = true → 0 < L.length) ∧ Grew w5 wr) (fun _ _ i _ _ _ _ => K.length - (intOf i).toNat)
  case atStart => exact ⟨0, false, true, Nat.zero_le _, rfl, rfl, rfl, by simp, Below.refl _ _⟩
  case round =>
    obtain ⟨k, ob, cb, hk, rfl, rfl, rfl, hob, hg⟩ := hrel
    have HG := Lib.hid hg
    have HOb := Lib.hid hob
    have p0 := HSO.out _ hg
    obtain ⟨wo, hwo⟩ : ∃ wo : World, wo = wr := ⟨_, rfl⟩
    subst hwo
    clear hg hob
    by_cases hlt : k < K.length
    · have HN := Lib.hid (CN.out wo (HPW.out _ HG.out) (k : Int))
      have hNl := grfNeeds_len ps (k : Int)
      have hat := HAt2.out k hlt
      have hnb := fun (y : Int) (hy : y ∈ grfNeeds ps (k : Int)) => HBd.out (k : Int) y hy
      obtain ⟨M, hM⟩ : ∃ M, grfNeeds ps (k : Int) = M := ⟨_, rfl⟩
      rw [hM] at HN hNl hat hnb
      have HAk := Lib.hid hat
      have HNb := Lib.hid hnb
      clear hM hat hnb
      go_wp2_with fail
      refine HN.out.mono ?_
      rintro e w6 ⟨na, nc, rfl, o6, g6⟩
      have R6 := Lib.hid (owns_rd o6)
      have HG6 := Lib.hid (grew_tr HG.out g6)
      clear o6 g6 p0 HN
      go_wp2
      go_loopw [11, 12] (fun v i wr => ∃ j : Nat, j ≤ M.length ∧ i = .int .i64 j ∧ v = .bool (allD D (M.take j)) ∧ wr = w6) (fun _ i _ => M.length - (intOf i).toNat)
      case atStart => exact ⟨0, Nat.zero_le _, rfl, by simp [allD], rfl⟩
      case round =>
        obtain ⟨j, hj, rfl, rfl, rfl⟩ := hrel
        by_cases hlj : j < M.length
        · obtain ⟨cb', coff, y, rfl, hy, hcy⟩ := R6.out.at1 hlj
          obtain ⟨hy0, hy1⟩ := HNb.out y (List.mem_of_getElem? hy)
          obtain ⟨y', rfl⟩ := Int.eq_ofNat_of_zero_le hy0
          obtain ⟨db, doff, dv, rfl, hdv, hcd⟩ := (D5.out.grew HG6.out).atB (i := y') (by omega)
          have hsn := allD_snoc (D := D) hy
          have hdg : D.getD y' false = dv := by simp [hdv]
          rw [Int.toNat_natCast, hdg] at hsn
          have hyk : y' < K.length := by omega
          obtain ⟨A, hA⟩ : ∃ A, allD D (M.take j) = A := ⟨_, rfl⟩
          rw [hA] at hsn ⊢
          have HSn := Lib.hid hsn
          clear hy hdv hsn hdg hA hy0 hy1
          cases A
          · go_wp2
            go_roundw
            case rel => exact ⟨j + 1, by omega, by go_num, by rw [HSn.out]; rfl, by trivial⟩
            case measure => (simp [intOf]; try omega)
          · go_wp2
            go_roundw
            case rel => exact ⟨j + 1, by omega, by go_num, by rw [HSn.out]; rfl, by trivial⟩
            case measure => (simp [intOf]; try omega)
        · obtain rfl : j = M.length := by omega
          rw [List.take_length]
          obtain ⟨db, doff, dv, rfl, hdv, hcd⟩ := (D5.out.grew HG6.out).atB (i := k) hlt
          have hdg : D.getD k false = dv := by simp [hdv]
          have hat := HAk.out
          have hne : dv = false → 0 < L.length := fun e => HNe2.out k hlt (by rw [hdg, e])
          rw [hdg] at hat
          obtain ⟨A, hA⟩ : ∃ A, allD D M = A := ⟨_, rfl⟩
          rw [hA] at hat ⊢
          have HH := Lib.hid (by have := owHas la L.length lc L (k : Int) wr (R5.out.grew HG6.out) (by omega); rw [hat] at this; exact this : Calls Tryz.prog 12 #[.slice la L.length lc, .int .i64 k] wr (fun e w' => e = .returned (.bool (A && !dv)) ∧ wr = w'))
          have HNn := Lib.hid hne
          clear hdv hdg hat hne hA
          cases A <;> cases dv <;> cases ob <;> cases cb
          all_goals
            go_wp2_with fail
            refine HH.out.mono ?_
            rintro e w9 ⟨rfl, rfl⟩
            go_wp2
            go_roundw
            case rel => exact ⟨k + 1, _, _, by omega, by go_num, rfl, rfl, by (intro h; first | exact HNn.out trivial | exact HOb.out trivial | exact HNn.out rfl | exact HOb.out h | exact HOb.out rfl | cases h), HG6.out⟩
            case measure => (simp [intOf]; try omega)
    · obtain rfl : k = K.length := by omega
      have HRI := Lib.hid (owRising la L.length lc L wo (R5.out.grew HG.out) (by omega) HSr.out)
      cases ob
      · cases cb
        all_goals
          go_wp2_with fail
          refine HRI.out.mono ?_
          rintro e w9 ⟨rfl, g9⟩
          go_wp2
          go_ret
          exact ⟨rfl, grew_tr G5.out (grew_tr HG.out g9)⟩
      · have hl0 := HOb.out rfl
        have hl1 : decide ((0 : Int) < (L.length : Int)) = true := decide_eq_true (by omega)
        cases cb
        all_goals
          go_wp2_with fail
          refine HRI.out.mono ?_
          rintro e w9 ⟨rfl, g9⟩
          go_wp2
          go_ret
          exact ⟨rfl, grew_tr G5.out (grew_tr HG.out g9)⟩
end Go.Proofs.YtnjoofpllhbccaaGreat
