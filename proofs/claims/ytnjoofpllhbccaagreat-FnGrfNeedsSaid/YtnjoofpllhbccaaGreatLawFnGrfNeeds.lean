/- The walk of the law FnGrfNeeds. No condition. -/
import Derived.Test.YtnjoofpllhbccaaGreatLawFnGrfCalls
import Derived.Test.YtnjoofpllhbccaaGreatDrGd
import Derived.Test.YtnjoofpllhbccaaGreatOwL
import Derived.Test.YtnjoofpllhbccaaGreatGnd
namespace Go.Proofs.YtnjoofpllhbccaaGreat
open Go.RowKit
set_option linter.unusedVariables false
set_option linter.unusedSimpArgs false
attribute [local go_sem] ext_cell ext_frozen ext_lt ext_le ext_le1 lt_s2 lt_s3 lt_s4 lt_s5 lt_s6 ext_lt1 ext_lt2 ext_lt3

/-- One number is put behind a row of the call's own; what changes. -/
theorem appOneK {w W : World} {vs : List Int} {n : Nat} {a1 : Option Addr} {c1 : Nat} (z : Int) (h1 : W.ownsRow w.heap.size 3 1 (.slice a1 n c1) n (ints .i64 vs)) (h2 : n ≤ 1048580) (h3 : Grew w W) :
    ∃ a2 c2 W2, (Builtin.append_ #[28, 28] 28 #[.slice a1 n c1, .slice (some ⟨W.heap.size, 0, none⟩) 1 1]).run Tryz.prog (W.alloc (.cells #[.int .i64 z] 3)) = .ok (.slice a2 (n + 1) c2) W2 ∧ W2.ownsRow w.heap.size 3 1 (.slice a2 (n + 1) c2) (n + 1) (ints .i64 (vs ++ [z])) ∧ Grew w W2 ∧ Chg (fun b => (Value.slice a1 n c1).ownBlock = some b) W W2 ∧ ((Value.slice a2 (n + 1) c2).ownBlock = (Value.slice a1 n c1).ownBlock ∨ (Value.slice a2 (n + 1) c2).ownBlock = some (W.heap.size + 1)) := by
  obtain ⟨v3, w3, hrun3, o3, g3, hv⟩ := owns_append_lit (P := Tryz.prog) W intEl h1 1 [.int .i64 z] rfl (by simp [Value.oneCell']) (by omega) (by omega) h3.size
  obtain ⟨a2, c2, rfl⟩ := owns_slice o3
  exact ⟨a2, c2, w3, hrun3, by rw [ints_append]; exact o3, h3.grown g3 h3.size (fun j hj => (h1.lt j hj).1), Chg.of_grownBy g3, hv⟩
/-- A row is copied into one of the call's own. -/
theorem appAll {w : World} {vs : List Int} {a1 : Option Addr} {n c1 : Nat} (h1 : Rd w a1 n 1 (ints .i64 vs)) (h2 : n ≤ 1048580) :
    ∃ a2 c2 W2, (Builtin.append_ #[28, 28] 28 #[.slice (some ⟨w.heap.size, 0, none⟩) 0 0, .slice a1 n c1]).run Tryz.prog (w.alloc (.cells #[] 3)) = .ok (.slice a2 n c2) W2 ∧ W2.ownsRow w.heap.size 3 1 (.slice a2 n c2) n (ints .i64 vs) ∧ Grew w W2 := by
  have h0 : (w.alloc (.cells #[] 3)).ownsRow w.heap.size 3 1 (.slice (some ⟨w.heap.size, 0, none⟩) 0 0) 0 [] := World.ownsRow_lit w #[] 0 (Nat.le_refl _) (Nat.zero_le _) rfl
  have hg : Grew w (w.alloc (.cells #[] 3)) := grew_al (Below.refl _ _) _
  obtain ⟨v3, w3, hrun3, o3, g3, hv⟩ := owns_append (P := Tryz.prog) _ intEl h0 a1 n c1 (ints .i64 vs) (h1.grew hg) (by intro u hu; obtain ⟨x, _, rfl⟩ := List.mem_map.1 hu; simp [Value.oneCell']) (by omega) (by omega) hg.size
  obtain ⟨a2, c2, rfl⟩ := owns_slice o3
  rw [Nat.zero_add] at o3 hrun3
  exact ⟨a2, c2, w3, hrun3, by simpa using o3, hg.grown g3 hg.size (fun j hj => (h0.lt j hj).1)⟩
set_option maxRecDepth 100000 in
set_option maxHeartbeats 4000000 in
theorem lawFnGrfNeeds (a : Option Addr) (n c : Nat) (xs : List Int) (w : World) (hr : Rd w a n 1 (ints .u8 xs)) (hx : Bs xs) (hc : n ≤ c ∧ c ≤ maxLen) :
    Calls Tryz.prog 3 #[.slice a n c] w fun e w' => e = .returned (.bool true) ∧ Grew w w' := by
  have HR := Lib.hid hr; clear hr
  have HX := Lib.hid hx; clear hx
  by_cases h1 : (n : Int) > 1048576
  · go_enter Tryz.func3, Tryz.ntmps3
    go_wp2
    go_ret
    exact ⟨rfl, Below.refl _ _⟩
  go_enter Tryz.func3, Tryz.ntmps3
  go_wp2_with fail
  refine (drawGrfNeeds a n c xs w HR.out HX.out hc).mono ?_
  rintro e w1 ⟨pa, m, pc, ps, x, rfl, hp, g1⟩
  have hm5 : m ≤ 5 := hp.2.1
  have hm63 : m ≤ 9223372036854775807 := by omega
  have HML := Lib.hid hp.len
  have B1 := Lib.hid (Blk.new w1 25 #[.slice pa m pc])
  have P1 := Lib.hid (hp.grew (grew_al (Below.refl _ w1) (.cells #[.slice pa m pc] 25)))
  have G1 := Lib.hid (grew_tr g1 (grew_al (Below.refl _ _) (.cells #[.slice pa m pc] 25)))
  have CI := Lib.hid (fun W (h : RdP W pa m ps) (y : Int) => implGrfNeeds pa m pc ps y W h hm63)
  have CS := Lib.hid (fun W (h : RdP W pa m ps) => specGrfNeeds pa m pc ps x W h hm63)
  have CP := Lib.hid (fun W (h : RdP W pa m ps) => specGrfParts pa m pc ps W h hm63)
  have CC := Lib.hid (fun W (h : RdP W pa m ps) (y : Int) => implGrfCalls pa m pc ps y W h hm63)
  have hno := fun (h : ¬ (0 ≤ x ∧ x < ((grfParts ps).length : Int))) => grfNeeds_no h
  have hL10 := grfNeeds_len ps x
  have hst := All.start ps x
  have hsrt := grfNeeds_srt ps x
  have hbd := grfParts_bd ps
  have hhas := fun (q : Nat) (l : List Int) (h : (grfParts ps)[q]? = some l) (i y : Int) (hi : i ∈ l) (hy : y ∈ grfCalls ps i) (hne : ofL (grfParts ps) y ≠ q) => need_has h hi hy hne
  have CI1 := fun W (h : RdP W pa m ps) => CI.out W h x
  obtain ⟨K, hK⟩ : ∃ K, grfParts ps = K := ⟨_, rfl⟩
  obtain ⟨L, hL⟩ : ∃ L, grfNeeds ps x = L := ⟨_, rfl⟩
  rw [hL] at CS hL10 hst hsrt hno
  simp only [hL] at CI1
  rw [hK] at CP hno hbd
  simp only [hK] at hhas
  have HCI1 := Lib.hid CI1
  have HNo := Lib.hid hno
  have HSt := Lib.hid hst
  have HSr := Lib.hid hsrt
  have HBd := Lib.hid hbd
  have hK4 := hbd.1
  have HHs := Lib.hid hhas
  have HLe := Lib.hid hL
  clear hp g1 HR HX hL hK hno hst hsrt hbd hhas CI1
  obtain ⟨b3, hb3⟩ : ∃ b, w1.heap.size = b := ⟨_, rfl⟩
  rw [hb3] at B1
  go_wp2_with fail
  refine (HCI1.out _ P1.out.1).mono ?_
  rintro e w2 ⟨la, lc, rfl, o2, g2⟩
  have R2 := Lib.hid (owns_rd o2)
  have B2 := Lib.hid (B1.out.grew g2)
  have P2 := Lib.hid (P1.out.grew g2)
  have G2 := Lib.hid (grew_tr G1.out g2)
  clear o2 g2 B1 P1 G1
  have p0 : w2.cell? ⟨b3, 0, none⟩ = some (.slice pa m pc) := B2.out.cell 0
  have pl := B2.out.lt
  try rw [hb3]
  clear hb3
  go_wp2_with fail
  refine (CP.out _ P2.out.1).mono ?_
  rintro e w3 ⟨ka, kc, kms, rfl, o3, hms, g3⟩
  have K3 := Lib.hid ((OwnLN.of o3).rd hms)
  have R3 := Lib.hid (R2.out.grew g3)
  have B3 := Lib.hid (B2.out.grew g3)
  have P3 := Lib.hid (P2.out.grew g3)
  have G3 := Lib.hid (grew_tr G2.out g3)
  clear o3 g3 B2 P2 G2 R2 p0 pl hms
  have p0 : w3.cell? ⟨b3, 0, none⟩ = some (.slice pa m pc) := B3.out.cell 0
  have pl := B3.out.lt
  go_wp2_with fail
  refine (CS.out _ P3.out.1).mono ?_
  rintro e w4 ⟨sa, sc, rfl, o4, g4⟩
  have S4 := Lib.hid (owns_rd o4)
  have K4 := Lib.hid (rdLL_grew K3.out g4)
  have R4 := Lib.hid (R3.out.grew g4)
  have B4 := Lib.hid (B3.out.grew g4)
  have P4 := Lib.hid (P3.out.grew g4)
  have G4 := Lib.hid (grew_tr G3.out g4)
  clear o4 g4 B3 P3 G3 R3 K3 p0 pl
  go_wp2_with fail
  refine (owIntsE la L.length lc sa L.length sc L w4 R4.out S4.out (by omega)).mono ?_
  rintro e w5 ⟨rfl, g5⟩
  have K5 := Lib.hid (rdLL_grew K4.out g5)
  have R5 := Lib.hid (R4.out.grew g5)
  have B5 := Lib.hid (B4.out.grew g5)
  have P5 := Lib.hid (P4.out.grew g5)
  have G5 := Lib.hid (grew_tr G4.out g5)
  clear g5 B4 P4 G4 R4 S4 K4
  have HOK := Lib.hid owOkH
  by_cases h2 : x < 0
  · have hLn : L = [] := HNo.out (by omega)
    subst hLn
    clear HSt HSr
    go_wp2_with ((with_reducible refine (HOK.out _).mono ?_); rintro e w' ⟨rfl, rfl⟩)
    go_ret
    have hg := G5.out
    refine ⟨rfl, ?_⟩
    repeat (first | with_reducible exact Below.refl _ _ | with_reducible assumption | with_reducible apply grew_ext | with_reducible apply grew_al | with_reducible apply grew_dn | with_reducible apply grew_d | (with_reducible refine grew_set ?_ (by first | omega | (repeat (first | with_reducible exact Nat.le_refl _ | with_reducible apply le_pl | with_reducible apply le_ext | with_reducible apply le_al))) _))
  by_cases h3 : x ≥ K.length
  · have hLn : L = [] := HNo.out (by omega)
    subst hLn
    clear HSt HSr
    go_wp2_with ((with_reducible refine (HOK.out _).mono ?_); rintro e w' ⟨rfl, rfl⟩)
    go_ret
    have hg := G5.out
    refine ⟨rfl, ?_⟩
    repeat (first | with_reducible exact Below.refl _ _ | with_reducible assumption | with_reducible apply grew_ext | with_reducible apply grew_al | with_reducible apply grew_dn | with_reducible apply grew_d | (with_reducible refine grew_set ?_ (by first | omega | (repeat (first | with_reducible exact Nat.le_refl _ | with_reducible apply le_pl | with_reducible apply le_ext | with_reducible apply le_al))) _))
  obtain ⟨q, rfl⟩ := Int.eq_ofNat_of_zero_le (show 0 ≤ x by omega)
  have hqm : q < K.length := by omega
  have hq0 : ¬ (q : Int) < 0 := by omega
  have hqd : decide ((q : Int) < 0) = false := decide_eq_false hq0
  have hq1 : ¬ K.length ≤ q := by omega
  have hq2 : ¬ (K.length : Int) ≤ (q : Int) := by omega
  have hqe : decide (K.length ≤ q) = false := decide_eq_false hq1
  have hqf : decide ((K.length : Int) ≤ (q : Int)) = false := decide_eq_false hq2
  clear h2 h3 HNo HOK
  obtain ⟨aa, ac, w6, hrun, oA, gA⟩ := appAll (c1 := lc) R5.out (by omega)
  have HRun := Lib.hid hrun
  have HOA := Lib.hid oA
  have HGA := Lib.hid gA
  have p0 : w5.cell? ⟨b3, 0, none⟩ = some (.slice pa m pc) := B5.out.cell 0
  have pl := B5.out.lt
  have HSO := Lib.hid (fun W (h : Grew w5 W) => (h.cell (p := ⟨b3, 0, none⟩) pl).trans p0)
  have HPW := Lib.hid (fun W (h : Grew w5 W) => (P5.out.1.grew h : RdP W pa m ps))
  clear hrun oA gA p0 pl CS CP HCI1 P5 B5
  go_wp2_with (at_builtin; refine wpList_append_run rfl _ _ rfl rfl rfl rfl HRun.out ?_; clear HRun)
  go_loopw [7, 8, 9, 10] (fun v i u t wr => ∃ (i' : Nat) (zs : List Int) (va : Option Addr) (vc : Nat), i' ≤ 5 ∧ i = .int .i64 i' ∧ v = .slice va zs.length vc ∧ wr.ownsRow w5.heap.size 3 1 (.slice va zs.length vc) zs.length (ints .i64 zs) ∧ All ps q zs ∧ Grew w5 wr) (fun _ i _ _ _ => 8 - (intOf i).toNat)
  case atStart => exact ⟨0, L, aa, ac, by omega, rfl, rfl, HOA.out, HSt.out, HGA.out⟩
  case round =>
    clear HOA HGA HSt
    obtain ⟨k, zs, va, vc, hk, rfl, rfl, ho, hA, hg⟩ := hrel
    have HG := Lib.hid hg
    have HO := Lib.hid ho
    have HA := Lib.hid hA
    have hz4 := hA.len
    have hz63 : zs.length ≤ 9223372036854775807 := by omega
    obtain ⟨wo, hwo⟩ : ∃ wo : World, wo = wr := ⟨_, rfl⟩
    subst hwo
    clear hg ho hA
    by_cases hlt : k < zs.length
    · have hk64 : k < 64 := by omega
      have hk64i : (k : Int) < 64 := by omega
      obtain ⟨lb, loff, z, rfl, hz, hcz⟩ := (owns_rd HO.out).at1 hlt
      have llb : lb < wo.heap.size := World.block_lt_of_cell? _ _ hcz
      have HCY := Lib.hid (fun W (h : Grew wo W) => (⟨HSO.out _ (grew_tr HG.out h), (h.cell (p := ⟨lb, loff + k, none⟩) llb).trans hcz⟩ : W.cell? ⟨b3, 0, none⟩ = some (.slice pa m pc) ∧ W.cell? ⟨lb, loff + k, none⟩ = some (.int .i64 z)))
      have HN := Lib.hid (fun W (h : Grew wo W) => CI.out W (HPW.out _ (grew_tr HG.out h)) z)
      have hNl := grfNeeds_len ps z
      have hzm := List.mem_of_getElem? hz
      obtain ⟨M, hM⟩ : ∃ M, grfNeeds ps z = M := ⟨_, rfl⟩
      rw [hM] at HN hNl
      have HM := Lib.hid hM
      have HZM := Lib.hid hzm
      clear hz hM hcz llb hzm
      go_wp2_with fail
      go_region_held3 (fun W => W.cell? ⟨b3, 0, none⟩ = some (.slice pa m pc) ∧ W.cell? ⟨lb, loff + k, none⟩ = some (.int .i64 z)) (first | assumption | exact HCY.out _ (by repeat (first | with_reducible exact Below.refl _ _ | with_reducible assumption | with_reducible apply grew_ext | with_reducible apply grew_al | with_reducible apply grew_dn | with_reducible apply grew_d | (with_reducible refine grew_set ?_ (by first | omega | (repeat (first | with_reducible exact Nat.le_refl _ | with_reducible apply le_pl | with_reducible apply le_ext | with_reducible apply le_al))) _))))
        (first
        | (go_at_call 7; refine (HN.out _ (by repeat (first | with_reducible exact Below.refl _ _ | with_reducible assumption | with_reducible apply grew_ext | with_reducible apply grew_al | with_reducible apply grew_dn | with_reducible apply grew_d | (with_reducible refine grew_set ?_ (by first | omega | (repeat (first | with_reducible exact Nat.le_refl _ | with_reducible apply le_pl | with_reducible apply le_ext | with_reducible apply le_al))) _)))).mono ?_; rintro e wh ⟨na, nc, rfl, oc, ga⟩; have RC := Lib.hid oc; clear oc; (first | obtain ⟨ya, rfl⟩ := ext_cold ga | obtain ⟨ya, rfl⟩ := ext_col ga | obtain ⟨ya, rfl⟩ := ext_of ga); clear ga))
      obtain ⟨w8, hE8⟩ : ∃ X, X = ext wo.drew ya := ⟨_, rfl⟩
      have RC := RC.out
      rw [← hE8] at RC ⊢
      have RC : Hid (w8.ownsRow wo.heap.size 3 1 (.slice na M.length nc) M.length (ints .i64 M)) := Lib.hid (by simpa using RC)
      have HG8 : Hid (Grew wo w8) := Lib.hid (by rw [hE8]; repeat (first | with_reducible exact Below.refl _ _ | with_reducible assumption | with_reducible apply grew_ext | with_reducible apply grew_al | with_reducible apply grew_dn | with_reducible apply grew_d | (with_reducible refine grew_set ?_ (by first | omega | (repeat (first | with_reducible exact Nat.le_refl _ | with_reducible apply le_pl | with_reducible apply le_ext | with_reducible apply le_al))) _)))
      have HO8 := Lib.hid (owns_grew HO.out HG8.out)
      have HV8 := Lib.hid (fun b (hb : (Value.slice (some ⟨lb, loff, none⟩) zs.length vc).ownBlock = some b) => (HO.out.lt b hb).2)
      clear hE8 HN HCY HO
      go_wp2
      go_loopw [7, 10] (fun v i wr => ∃ (j : Nat) (ys : List Int) (ua : Option Addr) (uc : Nat), j ≤ M.length ∧ i = .int .i64 j ∧ v = .slice ua ys.length uc ∧ wr.ownsRow w5.heap.size 3 1 (.slice ua ys.length uc) ys.length (ints .i64 ys) ∧ (∀ b, (Value.slice ua ys.length uc).ownBlock = some b → b < wo.heap.size ∨ w8.heap.size ≤ b) ∧ z ∈ ys ∧ All ps q ys ∧ Grew w5 wr ∧ w8.heap.size ≤ wr.heap.size ∧ wr.ownsRow wo.heap.size 3 1 (.slice na M.length nc) M.length (ints .i64 M)) (fun _ i _ => M.length - (intOf i).toNat)
      case atStart => exact ⟨0, zs, _, vc, Nat.zero_le _, rfl, rfl, HO8.out, fun b hb => .inl (HV8.out b hb), HZM.out, HA.out, grew_tr HG.out HG8.out, Nat.le_refl _, RC.out⟩
      case round =>
        clear HO8 HV8 HA HZM
        obtain ⟨j, ys, ua, uc, hj, rfl, rfl, ho, hv, hzy, hA, hg, hsz, hrc⟩ := hrel
        have HGj := Lib.hid hg
        have HOj := Lib.hid ho
        have HV := Lib.hid hv
        have HZY := Lib.hid hzy
        have HA := Lib.hid hA
        have HRC := Lib.hid hrc
        have hy4 := hA.len
        have RCL := Lib.hid RC.out.lt
        obtain ⟨wj, hwj⟩ : ∃ wj : World, wj = wr := ⟨_, rfl⟩
        subst hwj
        clear ho hv hzy hA hrc hg
        by_cases hlj : j < M.length
        · obtain ⟨cb, coff, y, hna, hy, hcy⟩ := (owns_rd HRC.out).at1 hlj
          have hyN : y ∈ grfNeeds ps z := by rw [HM.out]; exact List.mem_of_getElem? hy
          have HYN := Lib.hid hyN
          have HH := Lib.hid (owHas ua ys.length uc ys y wj (owns_rd HOj.out) (by omega))
          subst hna
          clear hy hyN
          by_cases hin : y ∈ ys
          · rw [decide_eq_true hin] at HH
            clear hin
            go_wp2_with fail
            refine HH.out.mono ?_
            rintro e w9 ⟨rfl, rfl⟩
            go_wp2
            go_roundw
            case rel => exact ⟨j + 1, ys, ua, uc, by omega, by go_num, rfl, HOj.out, HV.out, HZY.out, HA.out, HGj.out, hsz, HRC.out⟩
            case measure => (simp [intOf]; try omega)
          · rw [decide_eq_false hin] at HH
            have HIn := Lib.hid hin
            clear hin
            obtain ⟨a2, c3, w4, r3, o3, g3, k3, v3⟩ := appOneK y HOj.out (by omega) HGj.out
            have R3 := Lib.hid r3
            have O3 := Lib.hid o3
            have HG3 := Lib.hid g3
            have HRC3 := Lib.hid (owns_chg HRC.out k3 (fun b hb e => by
              have h1 := HV.out b e
              have h2 := RCL.out b hb
              omega))
            have HS3 := Lib.hid (Nat.le_trans hsz k3.size)
            have HV3 := Lib.hid (fun b (hb : (Value.slice a2 (ys.length + 1) c3).ownBlock = some b) => show b < wo.heap.size ∨ w8.heap.size ≤ b from by
              rcases v3 with h | h
              · rw [h] at hb
                exact HV.out b hb
              · rw [h, Option.some.injEq] at hb
                omega)
            clear r3 o3 g3 k3 v3
            go_wp2_with fail
            refine HH.out.mono ?_
            rintro e w9 ⟨rfl, rfl⟩
            go_wp2_with (at_builtin; refine wpList_append_run rfl _ _ rfl rfl rfl rfl R3.out ?_; clear R3)
            go_roundw
            case rel => exact ⟨j + 1, ys ++ [y], a2, c3, by omega, by go_num, by simp, by simpa using O3.out, by simpa using HV3.out, by simp [HZY.out], HA.out.snoc HZY.out HYN.out HIn.out, HG3.out, HS3.out, HRC3.out⟩
            case measure => (simp [intOf]; try omega)
        · obtain rfl : j = M.length := by omega
          go_wp2
          go_roundw
          case rel => exact ⟨k + 1, ys, ua, uc, by omega, by go_num, rfl, HOj.out, HA.out, HGj.out⟩
          case measure => (simp [intOf]; try omega)
    · have HRA := Lib.hid (owns_rd HO.out)
      have hNotA := HA.out.not
      have HNA := Lib.hid hNotA
      obtain ⟨kb, koff, l, ra, rc, rfl, hxk, hck, hrd, hlc, hrc⟩ := rdLL_at (rdLL_grew K5.out HG.out) hqm
      have hl4 := HBd.out.2 l (List.mem_of_getElem? hxk)
      have lkb : kb < wo.heap.size := World.block_lt_of_cell? _ _ hck
      have HRL := Lib.hid hrd
      have HXK := Lib.hid hxk
      have HCK := Lib.hid (fun W (h : Grew wo W) => (⟨HSO.out _ (grew_tr HG.out h), (h.cell (p := ⟨kb, koff + q, none⟩) lkb).trans hck⟩ : W.cell? ⟨b3, 0, none⟩ = some (.slice pa m pc) ∧ W.cell? ⟨kb, koff + q, none⟩ = some (.slice ra l.length rc)))
      clear hNotA hxk hck hrd lkb HO HA
      go_wp2
      go_loopw [11, 12, 13, 14] (fun i v u t wr => ∃ i' : Nat, i' ≤ l.length ∧ i = .int .i64 i' ∧ Grew wo wr) (fun i _ _ _ _ => l.length - (intOf i).toNat)
      case atStart => exact ⟨0, Nat.zero_le _, rfl, Below.refl _ _⟩
      case round =>
        obtain ⟨i, hi, rfl, hg⟩ := hrel
        have HGi := Lib.hid hg
        obtain ⟨p0, q0⟩ := HCK.out _ hg
        obtain ⟨wi, hwi⟩ : ∃ wi : World, wi = wr := ⟨_, rfl⟩
        subst hwi
        clear hg
        by_cases hli : i < l.length
        · obtain ⟨lb, loff, z, rfl, hz, hcz⟩ := (HRL.out.grew HGi.out).at1 hli
          have llb : lb < wi.heap.size := World.block_lt_of_cell? _ _ hcz
          have HCY := Lib.hid (fun W (h : Grew wi W) => (⟨(HCK.out _ (grew_tr HGi.out h)).1, (HCK.out _ (grew_tr HGi.out h)).2, (h.cell (p := ⟨lb, loff + i, none⟩) llb).trans hcz⟩ : W.cell? ⟨b3, 0, none⟩ = some (.slice pa m pc) ∧ W.cell? ⟨kb, koff + q, none⟩ = some (.slice (some ⟨lb, loff, none⟩) l.length rc) ∧ W.cell? ⟨lb, loff + i, none⟩ = some (.int .i64 z)))
          have HN := Lib.hid (fun W (h : Grew wi W) => CC.out W (HPW.out _ (grew_tr HG.out (grew_tr HGi.out h))) z)
          have hNl := grfCalls_len ps z
          have hzm := List.mem_of_getElem? hz
          have hhm := fun (y : Int) (hy : y ∈ grfCalls ps z) (hne : ofL K y ≠ q) => HHs.out q l HXK.out z y hzm hy hne
          rw [HLe.out] at hhm
          obtain ⟨M, hM⟩ : ∃ M, grfCalls ps z = M := ⟨_, rfl⟩
          rw [hM] at HN hNl hhm
          have HHm := Lib.hid hhm
          clear hz hM hcz llb hzm hhm
          go_wp2_with fail
          go_region_held3 (fun W => W.cell? ⟨b3, 0, none⟩ = some (.slice pa m pc) ∧ W.cell? ⟨kb, koff + q, none⟩ = some (.slice (some ⟨lb, loff, none⟩) l.length rc) ∧ W.cell? ⟨lb, loff + i, none⟩ = some (.int .i64 z)) (first | assumption | exact HCY.out _ (by repeat (first | with_reducible exact Below.refl _ _ | with_reducible assumption | with_reducible apply grew_ext | with_reducible apply grew_al | with_reducible apply grew_dn | with_reducible apply grew_d | (with_reducible refine grew_set ?_ (by first | omega | (repeat (first | with_reducible exact Nat.le_refl _ | with_reducible apply le_pl | with_reducible apply le_ext | with_reducible apply le_al))) _))))
            (first
            | (go_at_call 13; refine (HN.out _ (by repeat (first | with_reducible exact Below.refl _ _ | with_reducible assumption | with_reducible apply grew_ext | with_reducible apply grew_al | with_reducible apply grew_dn | with_reducible apply grew_d | (with_reducible refine grew_set ?_ (by first | omega | (repeat (first | with_reducible exact Nat.le_refl _ | with_reducible apply le_pl | with_reducible apply le_ext | with_reducible apply le_al))) _)))).mono ?_; rintro e wh ⟨na, nc, rfl, oc, ga⟩; have RC := Lib.hid (owns_rd oc); clear oc; (first | obtain ⟨ya, rfl⟩ := ext_cold ga | obtain ⟨ya, rfl⟩ := ext_col ga | obtain ⟨ya, rfl⟩ := ext_of ga); clear ga))
          obtain ⟨w8, hE8⟩ : ∃ X, X = ext wi.drew ya := ⟨_, rfl⟩
          have RC := RC.out
          rw [← hE8] at RC ⊢
          have RC := Lib.hid RC
          have HG8 : Hid (Grew wi w8) := Lib.hid (by rw [hE8]; repeat (first | with_reducible exact Below.refl _ _ | with_reducible assumption | with_reducible apply grew_ext | with_reducible apply grew_al | with_reducible apply grew_dn | with_reducible apply grew_d | (with_reducible refine grew_set ?_ (by first | omega | (repeat (first | with_reducible exact Nat.le_refl _ | with_reducible apply le_pl | with_reducible apply le_ext | with_reducible apply le_al))) _)))
          clear hE8 HN HCY
          go_wp2
          go_loopw [13, 14] (fun i v wr => ∃ j : Nat, j ≤ M.length ∧ i = .int .i64 j ∧ Grew w8 wr) (fun i _ _ => M.length - (intOf i).toNat)
          case atStart => exact ⟨0, Nat.zero_le _, rfl, Below.refl _ _⟩
          case round =>
            obtain ⟨j, hj, rfl, hg⟩ := hrel
            have HGj := Lib.hid hg
            obtain ⟨wj, hwj⟩ : ∃ wj : World, wj = wr := ⟨_, rfl⟩
            subst hwj
            clear hg
            by_cases hlj : j < M.length
            · obtain ⟨cb, coff, y, rfl, hy, hcy⟩ := (RC.out.grew HGj.out).at1 hlj
              have hG5j := grew_tr HG.out (grew_tr HGi.out (grew_tr HG8.out HGj.out))
              have HO := Lib.hid (owOf (some ⟨kb, koff, none⟩) K.length kc K y wj (rdLL_grew K5.out hG5j) (by omega) (fun l hl => by have := HBd.out.2 l hl; omega))
              have HH := Lib.hid (fun v => owHas la L.length lc L v wj (R5.out.grew hG5j) (by omega))
              have hhy := HHm.out y (List.mem_of_getElem? hy)
              obtain ⟨v, hve⟩ : ∃ v, ofL K y = v := ⟨_, rfl⟩
              rw [hve] at HO hhy
              have HHY := Lib.hid hhy
              clear hve hy hhy hG5j
              by_cases hvq : v = q
              · subst hvq
                clear HHY HH
                go_wp2_with fail
                refine HO.out.mono ?_
                rintro e w9 ⟨rfl, rfl⟩
                go_wp2
                go_roundw
                case rel => exact ⟨j + 1, by omega, by go_num, HGj.out⟩
                case measure => (simp [intOf]; try omega)
              · have hvd : (v != (q : Int)) = true := by simp [hvq]
                have hh := HH.out v
                rw [decide_eq_true (HHY.out hvq)] at hh
                have HHv := Lib.hid hh
                clear HHY HH hh
                go_wp2_with fail
                refine HO.out.mono ?_
                rintro e w9 ⟨rfl, rfl⟩
                go_wp2_with fail
                refine HHv.out.mono ?_
                rintro e w9 ⟨rfl, rfl⟩
                go_wp2
                go_roundw
                case rel => exact ⟨j + 1, by omega, by go_num, HGj.out⟩
                case measure => (simp [intOf]; try omega)
            · obtain rfl : j = M.length := by omega
              go_wp2
              go_roundw
              case rel => exact ⟨i + 1, by omega, by go_num, grew_tr HGi.out (grew_tr HG8.out HGj.out)⟩
              case measure => (simp [intOf]; try omega)
        · obtain rfl : i = l.length := by omega
          have hh := owHas va zs.length vc zs q wi (HRA.out.grew HGi.out) hz63
          rw [decide_eq_false HNA.out] at hh
          have HH := Lib.hid hh
          have HRI := Lib.hid (owRising la L.length lc L wi (R5.out.grew (grew_tr HG.out HGi.out)) (by omega) HSr.out)
          clear hh
          go_wp2_with fail
          refine HH.out.mono ?_
          rintro e w9 ⟨rfl, rfl⟩
          go_wp2_with fail
          refine HRI.out.mono ?_
          rintro e w9 ⟨rfl, g9⟩
          go_wp2
          go_ret
          exact ⟨rfl, grew_tr G5.out (grew_tr HG.out (grew_tr HGi.out g9))⟩
end Go.Proofs.YtnjoofpllhbccaaGreat
