/- The walk of the law FnGrfParts. No condition. -/
import Derived.Test.YtnjoofpllhbccaaLawFnGrfCalls
import Derived.Test.YtnjoofpllhbccaaDrGd
import Derived.Test.YtnjoofpllhbccaaGq
namespace Go.Proofs.Ytnjoofpllhbccaa
open Go.RowKit
set_option linter.unusedVariables false
set_option linter.unusedSimpArgs false
attribute [local go_sem] ext_cell ext_frozen ext_lt ext_le ext_le1 lt_s2 lt_s3 lt_s4 lt_s5 lt_s6 ext_lt1 ext_lt2 ext_lt3

set_option maxRecDepth 100000 in
set_option maxHeartbeats 4000000 in
theorem lawFnGrfParts (a : Option Addr) (n c : Nat) (xs : List Int) (w : World) (hr : Rd w a n 1 (ints .u8 xs)) (hx : Bs xs) (hc : n ≤ c ∧ c ≤ maxLen) :
    Calls Try.prog 11 #[.slice a n c] w fun e w' => e = .returned (.bool true) ∧ Grew w w' := by
  have HR := Lib.hid hr; clear hr
  have HX := Lib.hid hx; clear hx
  by_cases h1 : (n : Int) > 1048576
  · go_enter Try.func11, Try.ntmps11
    go_wp2
    go_ret
    exact ⟨rfl, Below.refl _ _⟩
  go_enter Try.func11, Try.ntmps11
  go_wp2_with fail
  refine (drawGrfParts a n c xs w HR.out HX.out hc).mono ?_
  rintro e w1 ⟨pa, m, pc, ps, rfl, hp, g1⟩
  have hm5 : m ≤ 5 := hp.2.1
  have hm63 : m ≤ 9223372036854775807 := by omega
  have HML := Lib.hid hp.len
  have B1 := Lib.hid (Blk.new w1 49 #[.slice pa m pc])
  have P1 := Lib.hid (hp.grew (grew_al (Below.refl _ w1) (.cells #[.slice pa m pc] 49)))
  have G1 := Lib.hid (grew_tr g1 (grew_al (Below.refl _ _) (.cells #[.slice pa m pc] 49)))
  have CI := Lib.hid (fun W (h : RdP W pa m ps) => implGrfParts pa m pc ps W h hm63)
  have CS := Lib.hid (fun W (h : RdP W pa m ps) => specGrfParts pa m pc ps W h hm63)
  have CR := Lib.hid (fun W (h : RdP W pa m ps) (y : Int) => implGrfReach pa m pc ps y W h hm63)
  have CQ := Lib.hid (fun W (h : RdP W pa m ps) (y : Int) => implGrfPart pa m pc ps y W h hm63)
  have CP := Lib.hid (fun W (h : RdP W pa m ps) => specPrgOk pa m pc ps W h hm63)
  have hbd := grfParts_bd ps
  obtain ⟨L, hL⟩ : ∃ L, grfParts ps = L := ⟨_, rfl⟩
  rw [hL] at CI CS hbd
  have HLL := Lib.hid hL
  clear hp g1 HR HX hL
  obtain ⟨b3, hb3⟩ : ∃ b, w1.heap.size = b := ⟨_, rfl⟩
  rw [hb3] at B1
  have HBd := Lib.hid hbd
  have hK4 : L.length ≤ 4 := hbd.1
  clear hbd
  go_wp2_with fail
  refine (CI.out _ P1.out.1).mono ?_
  rintro e w2 ⟨la, lc, ms, rfl, o2, hms, g2⟩
  have R2 := Lib.hid ((OwnLN.of o2).rd hms)
  have B2 := Lib.hid (B1.out.grew g2)
  have P2 := Lib.hid (P1.out.grew g2)
  have G2 := Lib.hid (grew_tr G1.out g2)
  clear o2 g2 B1 P1 G1 hms
  have p0 : w2.cell? ⟨b3, 0, none⟩ = some (.slice pa m pc) := B2.out.cell 0
  have pl := B2.out.lt
  try rw [hb3]
  clear hb3
  go_wp2_with fail
  refine (CS.out _ P2.out.1).mono ?_
  rintro e w3 ⟨sa, sc, ms3, rfl, o3, hms3, g3⟩
  have R3 := Lib.hid (rdLL_grew R2.out g3)
  have S3 := Lib.hid ((OwnLN.of o3).rd hms3)
  have B3 := Lib.hid (B2.out.grew g3)
  have P3 := Lib.hid (P2.out.grew g3)
  have G3 := Lib.hid (grew_tr G2.out g3)
  clear o3 g3 B2 P2 G2 R2 p0 pl hms3
  go_wp2_with fail
  refine (owListsE la L.length lc sa L.length sc L w3 R3.out S3.out (by omega) (fun l hl => by have := HBd.out.2 l hl; omega)).mono ?_
  rintro e w4 ⟨rfl, g4⟩
  have R4 := Lib.hid (rdLL_grew R3.out g4)
  have B4 := Lib.hid (B3.out.grew g4)
  have P4 := Lib.hid (P3.out.grew g4)
  have G4 := Lib.hid (grew_tr G3.out g4)
  clear g4 B3 P3 G3 R3 S3
  have p0 : w4.cell? ⟨b3, 0, none⟩ = some (.slice pa m pc) := B4.out.cell 0
  have pl := B4.out.lt
  have RP4 : Hid (RdP w4 pa m ps) := Lib.hid P4.out.1
  cases hB : prgOkB ps
  · have hLn : L = [] := by rw [← HLL.out]; exact prt_no hB
    subst hLn
    have CP2 := CP.out
    rw [hB] at CP2
    have HCP := Lib.hid CP2
    have HOK := Lib.hid owOkH
    clear CP2 CP
    go_wp2_with (first | ((with_reducible refine (HCP.out _ RP4.out).mono ?_); rintro e w' ⟨rfl, g'⟩; (first | obtain ⟨y, rfl⟩ := ext_cold g' | obtain ⟨y, rfl⟩ := ext_col g' | obtain ⟨y, rfl⟩ := ext_of g'); clear g') | ((with_reducible refine (HOK.out _).mono ?_); rintro e w' ⟨rfl, rfl⟩))
    go_ret
    have hg := G4.out
    refine ⟨rfl, ?_⟩
    repeat (first | with_reducible exact Below.refl _ _ | with_reducible assumption | with_reducible apply grew_ext | with_reducible apply grew_al | with_reducible apply grew_dn | with_reducible apply grew_d | (with_reducible refine grew_set ?_ (by first | omega | (repeat (first | with_reducible exact Nat.le_refl _ | with_reducible apply le_pl | with_reducible apply le_ext | with_reducible apply le_al))) _))
  have CP2 := CP.out
  rw [hB] at CP2
  have HCP := Lib.hid CP2
  clear CP2 CP
  go_wp2_with fail
  refine (HCP.out _ P4.out.1).mono ?_
  rintro e w5 ⟨rfl, g5⟩
  have R5 := Lib.hid (rdLL_grew R4.out g5)
  have B5 := Lib.hid (B4.out.grew g5)
  have P5 := Lib.hid (P4.out.grew g5)
  have G5 := Lib.hid (grew_tr G4.out g5)
  clear g5 B4 P4 G4 R4 p0 pl RP4
  have p0 : w5.cell? ⟨b3, 0, none⟩ = some (.slice pa m pc) := B5.out.cell 0
  have pl := B5.out.lt
  have HP := Lib.hid hB
  have HSO := Lib.hid (fun W (h : Grew w5 W) => (h.cell (p := ⟨b3, 0, none⟩) pl).trans p0)
  have HPW := Lib.hid (fun W (h : Grew w5 W) => (P5.out.1.grew h : RdP W pa m ps))
  have hAt := fun (k : Nat) (l : List Int) (hk : (grfParts ps)[k]? = some l) => prt_at hB hk
  have hLt := fun (k : Nat) (l : List Int) (hk : (grfParts ps)[k + 1]? = some l) => prt_lt hB hk
  have hSum := prt_sum hB
  have hOf := fun (x : Int) (hx : x ∈ grfReach ps 0) => prt_of hB hx
  rw [HLL.out] at hSum
  simp only [HLL.out] at hAt hLt hOf
  obtain ⟨M, hM⟩ : ∃ M, grfReach ps 0 = M := ⟨_, rfl⟩
  have hMl := grfReach_len ps 0
  rw [hM] at hSum hMl
  simp only [hM] at hOf
  obtain ⟨hd, hhd⟩ : ∃ hd : Nat → Int, (fun k => (headsL (cOf' (csOf ps)) (csOf ps).length).getD k 0) = hd := ⟨_, rfl⟩
  have HAt : Hid (∀ (k : Nat) (l : List Int), L[k]? = some l → ∃ t, l = hd k :: t ∧ grfPart ps (hd k) = l) := Lib.hid (by rw [← hhd]; exact hAt)
  have HLt : Hid (∀ (k : Nat) (l : List Int), L[k + 1]? = some l → hd k < hd (k + 1)) := Lib.hid (by rw [← hhd]; exact hLt)
  have HSum := Lib.hid hSum
  have HOf := Lib.hid hOf
  have HM := Lib.hid hM
  clear CI CS HCP HLL P5 B5 hAt hLt hSum hOf hM hhd hB
  have HK4 := Lib.hid hK4
  go_wp2
  clear p0 pl
  go_loopw [5, 6] (fun n i wr => ∃ k s : Nat, k ≤ L.length ∧ i = .int .i64 k ∧ n = .int .i64 s ∧ s = sumK L k ∧ Grew w5 wr) (fun _ i _ => L.length - (intOf i).toNat)
  case atStart => exact ⟨0, 0, Nat.zero_le _, rfl, rfl, (sumK_0 L).symm, Below.refl _ _⟩
  case round =>
    obtain ⟨k, s, hk, rfl, rfl, hs, hg⟩ := hrel
    have HG := Lib.hid hg
    have hsb : s ≤ 16 := by
      have := sumK_le L HBd.out.2 k
      omega
    have HS := Lib.hid hs
    obtain ⟨wo, hwo⟩ : ∃ wo : World, wo = wr := ⟨_, rfl⟩
    subst hwo
    clear hg hs
    by_cases hlt : k < L.length
    · obtain ⟨pb, poff, l, ra, rc, rfl, hx, hcx, hrd, hlc, hrc⟩ := rdLL_at (rdLL_grew R5.out HG.out) hlt
      obtain ⟨t, hlt2, hgp⟩ := HAt.out k l hx
      have hl0 : 0 < l.length := by rw [hlt2]; simp
      have hl4 := HBd.out.2 l (List.mem_of_getElem? hx)
      obtain ⟨lb, loff, y, rfl, hy, hcy⟩ := hrd.at1 hl0
      have hyh : hd k = y := by rw [hlt2] at hy; simpa using hy
      rw [hyh] at hgp
      rw [Nat.add_zero] at hcy
      have HRL := Lib.hid hrd
      have HX := Lib.hid hx
      have HCQ := Lib.hid (fun W (h : Grew wo W) => (by have := CQ.out W (HPW.out W (grew_tr HG.out h)) y; rw [hgp] at this; exact this : Calls Try.prog 56 #[.agg #[.slice pa m pc], .int .i64 y] W (RetIs l W)))
      have HYH := Lib.hid hyh
      have lpb : pb < wo.heap.size := World.block_lt_of_cell? _ _ hcx
      have llb : lb < wo.heap.size := World.block_lt_of_cell? _ _ hcy
      have hln : ((l.length : Int) == 0) = false := beq_eq_false_iff_ne.2 (by omega)
      have hln2 : ¬ (l.length : Int) = 0 := by omega
      have hln3 : ¬ l.length = 0 := by omega
      have hln4 : l ≠ [] := by rw [hlt2]; simp
      clear hlt2 hgp hyh hx hy hrd
      by_cases hk0 : k = 0
      · have HCY := Lib.hid (fun W (h : Grew wo W) => (⟨HSO.out _ (grew_tr HG.out h), (h.cell (p := ⟨pb, poff + k, none⟩) lpb).trans hcx, (h.cell (p := ⟨lb, loff, none⟩) llb).trans hcy⟩ : W.cell? ⟨b3, 0, none⟩ = some (.slice pa m pc) ∧ W.cell? ⟨pb, poff + k, none⟩ = some (.slice (some ⟨lb, loff, none⟩) l.length rc) ∧ W.cell? ⟨lb, loff, none⟩ = some (.int .i64 y)))
        have hkd : decide ((0 : Int) < (k : Int)) = false := decide_eq_false (by omega)
        have hkd2 : ¬ (0 : Int) < (k : Int) := by omega
        have hkd3 : ¬ 0 < k := by omega
        have hkd4 : decide (0 < k) = false := decide_eq_false (by omega)
        have HK0 := Lib.hid hk0
        clear hk0 hcx hcy lpb llb
        go_wp2_with fail
        refine wp_region_held_drew (S := (fun W => W.cell? ⟨b3, 0, none⟩ = some (.slice pa m pc) ∧ W.cell? ⟨pb, poff + k, none⟩ = some (.slice (some ⟨lb, loff, none⟩) l.length rc) ∧ W.cell? ⟨lb, loff, none⟩ = some (.int .i64 y))) (by kernel_rfl) ?_ (fun hHeld => ?_)
        · (try dsimp only); (first | assumption | exact HCY.out _ (by repeat (first | with_reducible exact Below.refl _ _ | with_reducible assumption | with_reducible apply grew_ext | with_reducible apply grew_al | with_reducible apply grew_dn | with_reducible apply grew_d | (with_reducible refine grew_set ?_ (by first | omega | (repeat (first | with_reducible exact Nat.le_refl _ | with_reducible apply le_pl | with_reducible apply le_ext | with_reducible apply le_al))) _))))
        refine wpAnyH_take (i := 0) (v := ?_) rfl (by kernel_rfl) (by kernel_rfl) (by kernel_rfl) (fun _ _ _ h => h) (Or.inl ⟨by rfl, ?_⟩) (by assumption) ?_
        rotate_left
        · (intro w hSw; (try dsimp only at hSw); go_simp; try with_reducible rfl)
        try simp only [List.getElem_toArray, List.getElem_cons_succ, List.getElem_cons_zero, Act.put, List.setIfInBounds_toArray, List.set_cons_zero, List.set_cons_succ]
        refine wpAnyH_take (i := 1) (v := ?_) rfl (by kernel_rfl) (by kernel_rfl) (by kernel_rfl) (fun _ _ _ h => h) (Or.inl ⟨by rfl, ?_⟩) (by assumption) ?_
        rotate_left
        · (intro w hSw; (try dsimp only at hSw); go_simp; try with_reducible rfl)
        try simp only [List.getElem_toArray, List.getElem_cons_succ, List.getElem_cons_zero, Act.put, List.setIfInBounds_toArray, List.set_cons_zero, List.set_cons_succ]
        refine wpAnyH_take (i := 2) (v := ?_) rfl (by kernel_rfl) (by kernel_rfl) (by kernel_rfl) (fun _ _ _ h => h) (Or.inl ⟨by rfl, ?_⟩) (by assumption) ?_
        rotate_left
        · (intro w hSw; (try dsimp only at hSw); go_simp; try with_reducible rfl)
        try simp only [List.getElem_toArray, List.getElem_cons_succ, List.getElem_cons_zero, Act.put, List.setIfInBounds_toArray, List.set_cons_zero, List.set_cons_succ]
        refine wpAnyH_take (i := 3) (v := ?_) rfl (by kernel_rfl) (by kernel_rfl) (by kernel_rfl) (fun _ _ _ h => h) (Or.inl ⟨by rfl, ?_⟩) (by assumption) ?_
        rotate_left
        · (intro w hSw; (try dsimp only at hSw); go_simp; try with_reducible rfl)
        try simp only [List.getElem_toArray, List.getElem_cons_succ, List.getElem_cons_zero, Act.put, List.setIfInBounds_toArray, List.set_cons_zero, List.set_cons_succ]
        refine wpAnyH_take (i := 4) (v := ?_) rfl (by kernel_rfl) (by kernel_rfl) (by kernel_rfl) (fun _ _ _ h => h) (Or.inl ⟨by rfl, ?_⟩) (by assumption) ?_
        rotate_left
        · (intro w hSw; (try dsimp only at hSw); go_simp; try with_reducible rfl)
        try simp only [List.getElem_toArray, List.getElem_cons_succ, List.getElem_cons_zero, Act.put, List.setIfInBounds_toArray, List.set_cons_zero, List.set_cons_succ]
        refine wpAnyH_take (i := 5) (v := ?_) rfl (by kernel_rfl) (by kernel_rfl) (by kernel_rfl) (fun _ _ _ h => h) (Or.inl ⟨by rfl, ?_⟩) (by assumption) ?_
        rotate_left
        · (intro w hSw; (try dsimp only at hSw); go_simp; try with_reducible rfl)
        try simp only [List.getElem_toArray, List.getElem_cons_succ, List.getElem_cons_zero, Act.put, List.setIfInBounds_toArray, List.set_cons_zero, List.set_cons_succ]
        refine wpAnyH_take (i := 6) (v := ?_) rfl (by kernel_rfl) (by kernel_rfl) (by kernel_rfl) (fun _ _ _ h => h) (Or.inl ⟨by rfl, ?_⟩) (by assumption) ?_
        rotate_left
        · (intro w hSw; (try dsimp only at hSw); go_simp; try with_reducible rfl)
        try simp only [List.getElem_toArray, List.getElem_cons_succ, List.getElem_cons_zero, Act.put, List.setIfInBounds_toArray, List.set_cons_zero, List.set_cons_succ]
        refine wpAnyH_take (i := 7) (v := ?_) rfl (by kernel_rfl) (by kernel_rfl) (by kernel_rfl) (fun _ _ _ h => h) (Or.inl ⟨by rfl, ?_⟩) (by assumption) ?_
        rotate_left
        · (intro w hSw; (try dsimp only at hSw); go_simp; try with_reducible rfl)
        try simp only [List.getElem_toArray, List.getElem_cons_succ, List.getElem_cons_zero, Act.put, List.setIfInBounds_toArray, List.set_cons_zero, List.set_cons_succ]
        refine wpAnyH_take (i := 8) (v := ?_) rfl (by kernel_rfl) (by kernel_rfl) (by kernel_rfl) (fun _ _ _ h => h) (Or.inl ⟨by rfl, ?_⟩) (by assumption) ?_
        rotate_left
        · (intro w hSw; (try dsimp only at hSw); go_simp; try with_reducible rfl)
        try simp only [List.getElem_toArray, List.getElem_cons_succ, List.getElem_cons_zero, Act.put, List.setIfInBounds_toArray, List.set_cons_zero, List.set_cons_succ]
        refine wpAnyH_take (i := 9) (v := ?_) rfl (by kernel_rfl) (by kernel_rfl) (by kernel_rfl) (fun _ _ _ h => h) (Or.inl ⟨by rfl, ?_⟩) (by assumption) ?_
        rotate_left
        · (intro w hSw; (try dsimp only at hSw); go_simp; try with_reducible rfl)
        try simp only [List.getElem_toArray, List.getElem_cons_succ, List.getElem_cons_zero, Act.put, List.setIfInBounds_toArray, List.set_cons_zero, List.set_cons_succ]
        refine wpAnyH_take (i := 10) (v := undef) rfl (by kernel_rfl) (by kernel_rfl) (by kernel_rfl) (fun _ _ _ h => h) (Or.inr ⟨by rfl, rfl⟩) (by assumption) ?_
        try simp only [List.getElem_toArray, List.getElem_cons_succ, List.getElem_cons_zero, Act.put, List.setIfInBounds_toArray, List.set_cons_zero, List.set_cons_succ]
        refine wpAnyH_take (i := 11) (v := undef) rfl (by kernel_rfl) (by kernel_rfl) (by kernel_rfl) (fun _ _ _ h => h) (Or.inr ⟨by rfl, rfl⟩) (by assumption) ?_
        try simp only [List.getElem_toArray, List.getElem_cons_succ, List.getElem_cons_zero, Act.put, List.setIfInBounds_toArray, List.set_cons_zero, List.set_cons_succ]
        refine wpAnyH_take (i := 12) (v := undef) rfl (by kernel_rfl) (by kernel_rfl) (by kernel_rfl) (fun _ _ _ h => h) (Or.inr ⟨by rfl, rfl⟩) (by assumption) ?_
        try simp only [List.getElem_toArray, List.getElem_cons_succ, List.getElem_cons_zero, Act.put, List.setIfInBounds_toArray, List.set_cons_zero, List.set_cons_succ]
        refine wpAnyH_take (i := 13) (v := undef) rfl (by kernel_rfl) (by kernel_rfl) (by kernel_rfl) (fun _ _ _ h => h) (Or.inr ⟨by rfl, rfl⟩) (by assumption) ?_
        try simp only [List.getElem_toArray, List.getElem_cons_succ, List.getElem_cons_zero, Act.put, List.setIfInBounds_toArray, List.set_cons_zero, List.set_cons_succ]
        refine wpAnyH_take (i := 14) (v := undef) rfl (by kernel_rfl) (by kernel_rfl) (by kernel_rfl) (fun _ _ _ h => h) (Or.inr ⟨by rfl, rfl⟩) (by assumption) ?_
        try simp only [List.getElem_toArray, List.getElem_cons_succ, List.getElem_cons_zero, Act.put, List.setIfInBounds_toArray, List.set_cons_zero, List.set_cons_succ]
        refine wpAnyH_take (i := 15) (v := undef) rfl (by kernel_rfl) (by kernel_rfl) (by kernel_rfl) (fun _ _ _ h => h) (Or.inr ⟨by rfl, rfl⟩) (by assumption) ?_
        try simp only [List.getElem_toArray, List.getElem_cons_succ, List.getElem_cons_zero, Act.put, List.setIfInBounds_toArray, List.set_cons_zero, List.set_cons_succ]
        refine wpAnyH_take (i := 16) (v := undef) rfl (by kernel_rfl) (by kernel_rfl) (by kernel_rfl) (fun _ _ _ h => h) (Or.inr ⟨by rfl, rfl⟩) (by assumption) ?_
        try simp only [List.getElem_toArray, List.getElem_cons_succ, List.getElem_cons_zero, Act.put, List.setIfInBounds_toArray, List.set_cons_zero, List.set_cons_succ]
        refine wpAnyH_take (i := 17) (v := undef) rfl (by kernel_rfl) (by kernel_rfl) (by kernel_rfl) (fun _ _ _ h => h) (Or.inr ⟨by rfl, rfl⟩) (by assumption) ?_
        try simp only [List.getElem_toArray, List.getElem_cons_succ, List.getElem_cons_zero, Act.put, List.setIfInBounds_toArray, List.set_cons_zero, List.set_cons_succ]
        refine wpAnyH_take (i := 18) (v := undef) rfl (by kernel_rfl) (by kernel_rfl) (by kernel_rfl) (fun _ _ _ h => h) (Or.inr ⟨by rfl, rfl⟩) (by assumption) ?_
        try simp only [List.getElem_toArray, List.getElem_cons_succ, List.getElem_cons_zero, Act.put, List.setIfInBounds_toArray, List.set_cons_zero, List.set_cons_succ]
        refine wpAnyH_take (i := 19) (v := undef) rfl (by kernel_rfl) (by kernel_rfl) (by kernel_rfl) (fun _ _ _ h => h) (Or.inr ⟨by rfl, rfl⟩) (by assumption) ?_
        try simp only [List.getElem_toArray, List.getElem_cons_succ, List.getElem_cons_zero, Act.put, List.setIfInBounds_toArray, List.set_cons_zero, List.set_cons_succ]
        refine wpAnyH_take (i := 20) (v := undef) rfl (by kernel_rfl) (by kernel_rfl) (by kernel_rfl) (fun _ _ _ h => h) (Or.inr ⟨by rfl, rfl⟩) (by assumption) ?_
        try simp only [List.getElem_toArray, List.getElem_cons_succ, List.getElem_cons_zero, Act.put, List.setIfInBounds_toArray, List.set_cons_zero, List.set_cons_succ]
        refine wpAnyH_take (i := 21) (v := undef) rfl (by kernel_rfl) (by kernel_rfl) (by kernel_rfl) (fun _ _ _ h => h) (Or.inr ⟨by rfl, rfl⟩) (by assumption) ?_
        try simp only [List.getElem_toArray, List.getElem_cons_succ, List.getElem_cons_zero, Act.put, List.setIfInBounds_toArray, List.set_cons_zero, List.set_cons_succ]
        refine wpAnyH_take (i := 22) (v := undef) rfl (by kernel_rfl) (by kernel_rfl) (by kernel_rfl) (fun _ _ _ h => h) (Or.inr ⟨by rfl, rfl⟩) (by assumption) ?_
        try simp only [List.getElem_toArray, List.getElem_cons_succ, List.getElem_cons_zero, Act.put, List.setIfInBounds_toArray, List.set_cons_zero, List.set_cons_succ]
        refine wpAnyH_take (i := 23) (v := undef) rfl (by kernel_rfl) (by kernel_rfl) (by kernel_rfl) (fun _ _ _ h => h) (Or.inr ⟨by rfl, rfl⟩) (by assumption) ?_
        try simp only [List.getElem_toArray, List.getElem_cons_succ, List.getElem_cons_zero, Act.put, List.setIfInBounds_toArray, List.set_cons_zero, List.set_cons_succ]
        refine wpAnyH_take (i := 24) (v := ?_) rfl (by kernel_rfl) (by kernel_rfl) (by kernel_rfl) (fun _ _ _ h => h) (Or.inl ⟨by rfl, ?_⟩) (by assumption) ?_
        rotate_left
        · (intro w hSw; (try dsimp only at hSw); go_simp; try with_reducible rfl)
        try simp only [List.getElem_toArray, List.getElem_cons_succ, List.getElem_cons_zero, Act.put, List.setIfInBounds_toArray, List.set_cons_zero, List.set_cons_succ]
        refine wpAnyH_take (i := 25) (v := ?_) rfl (by kernel_rfl) (by kernel_rfl) (by kernel_rfl) (fun _ _ _ h => h) (Or.inl ⟨by rfl, ?_⟩) (by assumption) ?_
        rotate_left
        · (intro w hSw; (try dsimp only at hSw); go_simp; try with_reducible rfl)
        try simp only [List.getElem_toArray, List.getElem_cons_succ, List.getElem_cons_zero, Act.put, List.setIfInBounds_toArray, List.set_cons_zero, List.set_cons_succ]
        refine wpAnyH_take (i := 26) (v := ?_) rfl (by kernel_rfl) (by kernel_rfl) (by kernel_rfl) (fun _ _ _ h => h) (Or.inl ⟨by rfl, ?_⟩) (by assumption) ?_
        rotate_left
        · (intro w hSw; (try dsimp only at hSw); go_simp; try with_reducible rfl)
        try simp only [List.getElem_toArray, List.getElem_cons_succ, List.getElem_cons_zero, Act.put, List.setIfInBounds_toArray, List.set_cons_zero, List.set_cons_succ]
        refine wpAnyH_take (i := 27) (v := ?_) rfl (by kernel_rfl) (by kernel_rfl) (by kernel_rfl) (fun _ _ _ h => h) (Or.inl ⟨by rfl, ?_⟩) (by assumption) ?_
        rotate_left
        · (intro w hSw; (try dsimp only at hSw); go_simp; try with_reducible rfl)
        try simp only [List.getElem_toArray, List.getElem_cons_succ, List.getElem_cons_zero, Act.put, List.setIfInBounds_toArray, List.set_cons_zero, List.set_cons_succ]
        refine wpAnyH_take (i := 28) (v := ?_) rfl (by kernel_rfl) (by kernel_rfl) (by kernel_rfl) (fun _ _ _ h => h) (Or.inl ⟨by rfl, ?_⟩) (by assumption) ?_
        rotate_left
        · (intro w hSw; (try dsimp only at hSw); go_simp; try with_reducible rfl)
        try simp only [List.getElem_toArray, List.getElem_cons_succ, List.getElem_cons_zero, Act.put, List.setIfInBounds_toArray, List.set_cons_zero, List.set_cons_succ]
        refine wpAnyH_take (i := 29) (v := ?_) rfl (by kernel_rfl) (by kernel_rfl) (by kernel_rfl) (fun _ _ _ h => h) (Or.inl ⟨by rfl, ?_⟩) (by assumption) ?_
        rotate_left
        · (intro w hSw; (try dsimp only at hSw); go_simp; try with_reducible rfl)
        try simp only [List.getElem_toArray, List.getElem_cons_succ, List.getElem_cons_zero, Act.put, List.setIfInBounds_toArray, List.set_cons_zero, List.set_cons_succ]
        refine wpAnyH_take (i := 30) (v := ?_) rfl (by kernel_rfl) (by kernel_rfl) (by kernel_rfl) (fun _ _ _ h => h) (Or.inl ⟨by rfl, ?_⟩) (by assumption) ?_
        rotate_left
        · (intro w hSw; (try dsimp only at hSw); go_simp; try with_reducible rfl)
        try simp only [List.getElem_toArray, List.getElem_cons_succ, List.getElem_cons_zero, Act.put, List.setIfInBounds_toArray, List.set_cons_zero, List.set_cons_succ]
        refine wpAnyH_take (i := 31) (v := ?_) rfl (by kernel_rfl) (by kernel_rfl) (by kernel_rfl) (fun _ _ _ h => h) (Or.inl ⟨by rfl, ?_⟩) (by assumption) ?_
        rotate_left
        · (intro w hSw; (try dsimp only at hSw); go_simp; try with_reducible rfl)
        try simp only [List.getElem_toArray, List.getElem_cons_succ, List.getElem_cons_zero, Act.put, List.setIfInBounds_toArray, List.set_cons_zero, List.set_cons_succ]
        refine wpAnyH_take (i := 32) (v := ?_) rfl (by kernel_rfl) (by kernel_rfl) (by kernel_rfl) (fun _ _ _ h => h) (Or.inl ⟨by rfl, ?_⟩) (by assumption) ?_
        rotate_left
        · (intro w hSw; (try dsimp only at hSw); go_simp; try with_reducible rfl)
        try simp only [List.getElem_toArray, List.getElem_cons_succ, List.getElem_cons_zero, Act.put, List.setIfInBounds_toArray, List.set_cons_zero, List.set_cons_succ]
        refine wpAnyH_take (i := 33) (v := ?_) rfl (by kernel_rfl) (by kernel_rfl) (by kernel_rfl) (fun _ _ _ h => h) (Or.inl ⟨by rfl, ?_⟩) (by assumption) ?_
        rotate_left
        · (intro w hSw; (try dsimp only at hSw); go_simp; try with_reducible rfl)
        try simp only [List.getElem_toArray, List.getElem_cons_succ, List.getElem_cons_zero, Act.put, List.setIfInBounds_toArray, List.set_cons_zero, List.set_cons_succ]
        refine wpAnyH_take (i := 34) (v := ?_) rfl (by kernel_rfl) (by kernel_rfl) (by kernel_rfl) (fun _ _ _ h => h) (Or.inl ⟨by rfl, ?_⟩) (by assumption) ?_
        rotate_left
        · (intro w hSw; (try dsimp only at hSw); go_simp; try with_reducible rfl)
        try simp only [List.getElem_toArray, List.getElem_cons_succ, List.getElem_cons_zero, Act.put, List.setIfInBounds_toArray, List.set_cons_zero, List.set_cons_succ]
        refine wpAnyH_take (i := 35) (v := ?_) rfl (by kernel_rfl) (by kernel_rfl) (by kernel_rfl) (fun _ _ _ h => h) (Or.inl ⟨by rfl, ?_⟩) (by assumption) ?_
        rotate_left
        · (intro w hSw; (try dsimp only at hSw); go_simp; try with_reducible rfl)
        try simp only [List.getElem_toArray, List.getElem_cons_succ, List.getElem_cons_zero, Act.put, List.setIfInBounds_toArray, List.set_cons_zero, List.set_cons_succ]
        refine wpAnyH_take (i := 36) (v := ?_) rfl (by kernel_rfl) (by kernel_rfl) (by kernel_rfl) (fun _ _ _ h => h) (Or.inl ⟨by rfl, ?_⟩) (by assumption) ?_
        rotate_left
        · (intro w hSw; (try dsimp only at hSw); go_simp; try with_reducible rfl)
        try simp only [List.getElem_toArray, List.getElem_cons_succ, List.getElem_cons_zero, Act.put, List.setIfInBounds_toArray, List.set_cons_zero, List.set_cons_succ]
        refine wpAnyH_take (i := 37) (v := ?_) rfl (by kernel_rfl) (by kernel_rfl) (by kernel_rfl) (fun _ _ _ h => h) (Or.inl ⟨by rfl, ?_⟩) (by assumption) ?_
        rotate_left
        · (intro w hSw; (try dsimp only at hSw); go_simp; try with_reducible rfl)
        try simp only [List.getElem_toArray, List.getElem_cons_succ, List.getElem_cons_zero, Act.put, List.setIfInBounds_toArray, List.set_cons_zero, List.set_cons_succ]
        refine wpAnyH_ready (rs := [38]) (by kernel_rfl) (by simp) ?_
        refine AllReadyH.cons rfl (fun K hK => ?_) AllReadyH.nil
        try simp only [List.getElem_toArray, List.getElem_cons_succ, List.getElem_cons_zero]
        go_simp
        (go_at_call 56; refine (HCQ.out _ (by repeat (first | with_reducible exact Below.refl _ _ | with_reducible assumption | with_reducible apply grew_ext | with_reducible apply grew_al | with_reducible apply grew_dn | with_reducible apply grew_d | (with_reducible refine grew_set ?_ (by first | omega | (repeat (first | with_reducible exact Nat.le_refl _ | with_reducible apply le_pl | with_reducible apply le_ext | with_reducible apply le_al))) _)))).mono ?_; rintro e wh ⟨ua, uc, rfl, oc, ga⟩; have RU := Lib.hid (owns_rd oc); clear oc; (first | obtain ⟨ya, rfl⟩ := ext_cold ga | obtain ⟨ya, rfl⟩ := ext_col ga | obtain ⟨ya, rfl⟩ := ext_of ga); clear ga)
        refine hK.out _ _ ?_ (fun hHeld => ?_)
        · (try dsimp only); (first | assumption | exact HCY.out _ (by repeat (first | with_reducible exact Below.refl _ _ | with_reducible assumption | with_reducible apply grew_ext | with_reducible apply grew_al | with_reducible apply grew_dn | with_reducible apply grew_d | (with_reducible refine grew_set ?_ (by first | omega | (repeat (first | with_reducible exact Nat.le_refl _ | with_reducible apply le_pl | with_reducible apply le_ext | with_reducible apply le_al))) _))))
        clear hK K
        try simp only [List.getElem_toArray, List.getElem_cons_succ, List.getElem_cons_zero, Act.put, List.setIfInBounds_toArray, List.set_cons_zero, List.set_cons_succ]
        refine wpAnyH_ready (rs := [39]) (by kernel_rfl) (by simp) ?_
        refine AllReadyH.cons rfl (fun K hK => ?_) AllReadyH.nil
        try simp only [List.getElem_toArray, List.getElem_cons_succ, List.getElem_cons_zero]
        go_simp
        (go_at_call 46; refine (owIntsE _ l.length _ ua l.length uc l _ (HRL.out.grew (by repeat (first | with_reducible exact Below.refl _ _ | with_reducible assumption | with_reducible apply grew_ext | with_reducible apply grew_al | with_reducible apply grew_dn | with_reducible apply grew_d | (with_reducible refine grew_set ?_ (by first | omega | (repeat (first | with_reducible exact Nat.le_refl _ | with_reducible apply le_pl | with_reducible apply le_ext | with_reducible apply le_al))) _)))) RU.out (by omega)).mono ?_; rintro e wh ⟨rfl, gb⟩; (first | obtain ⟨yb, rfl⟩ := ext_cold gb | obtain ⟨yb, rfl⟩ := ext_of gb); clear gb)
        refine hK.out _ _ ?_ (fun hHeld => ?_)
        · (try dsimp only); (first | assumption | exact HCY.out _ (by repeat (first | with_reducible exact Below.refl _ _ | with_reducible assumption | with_reducible apply grew_ext | with_reducible apply grew_al | with_reducible apply grew_dn | with_reducible apply grew_d | (with_reducible refine grew_set ?_ (by first | omega | (repeat (first | with_reducible exact Nat.le_refl _ | with_reducible apply le_pl | with_reducible apply le_ext | with_reducible apply le_al))) _))))
        clear hK K
        try simp only [List.getElem_toArray, List.getElem_cons_succ, List.getElem_cons_zero, Act.put, List.setIfInBounds_toArray, List.set_cons_zero, List.set_cons_succ]
        refine wpAnyH_take (i := 40) (v := ?_) rfl (by kernel_rfl) (by kernel_rfl) (by kernel_rfl) (fun _ _ _ h => h) (Or.inl ⟨by rfl, ?_⟩) (by assumption) ?_
        rotate_left
        · (intro w hSw; (try dsimp only at hSw); go_simp; try with_reducible rfl)
        try simp only [List.getElem_toArray, List.getElem_cons_succ, List.getElem_cons_zero, Act.put, List.setIfInBounds_toArray, List.set_cons_zero, List.set_cons_succ]
        refine wpAnyH_take (i := 41) (v := ?_) rfl (by kernel_rfl) (by kernel_rfl) (by kernel_rfl) (fun _ _ _ h => h) (Or.inl ⟨by rfl, ?_⟩) (by assumption) ?_
        rotate_left
        · (intro w hSw; (try dsimp only at hSw); go_simp; try with_reducible rfl)
        try simp only [List.getElem_toArray, List.getElem_cons_succ, List.getElem_cons_zero, Act.put, List.setIfInBounds_toArray, List.set_cons_zero, List.set_cons_succ]
        refine wpAnyH_done (by kernel_rfl) ?_ _
        obtain ⟨w8, hE8⟩ : ∃ X, X = ext (ext wo.drew ya) yb := ⟨_, rfl⟩
        have HG8 : Hid (Grew wo w8) := Lib.hid (by rw [hE8]; repeat (first | with_reducible exact Below.refl _ _ | with_reducible assumption | with_reducible apply grew_ext | with_reducible apply grew_al | with_reducible apply grew_dn | with_reducible apply grew_d | (with_reducible refine grew_set ?_ (by first | omega | (repeat (first | with_reducible exact Nat.le_refl _ | with_reducible apply le_pl | with_reducible apply le_ext | with_reducible apply le_al))) _)))
        rw [← hE8]
        clear hE8
        have hcy := HCY.out _ HG8.out
        obtain ⟨q0, q1, q2⟩ := hcy
        go_wp2
        go_roundw
        case rel => exact ⟨k + 1, s + l.length, by omega, by go_num, by go_num, by rw [HS.out, sumK_succ HX.out], grew_tr HG.out HG8.out⟩
        case measure => (simp [intOf]; try omega)
      · obtain ⟨j, hj⟩ : ∃ j, k = j + 1 := ⟨k - 1, by omega⟩
        obtain ⟨pb', poff', l', ra', rc', hab, hx', hcx', hrd', hlc', hrc'⟩ := rdLL_at (rdLL_grew R5.out HG.out) (show j < L.length by omega)
        obtain ⟨rfl, rfl⟩ : pb = pb' ∧ poff = poff' := by cases hab; exact ⟨rfl, rfl⟩
        obtain ⟨t', hlt2', _⟩ := HAt.out j l' hx'
        have hl0' : 0 < l'.length := by rw [hlt2']; simp
        obtain ⟨lb', loff', z, rfl, hz, hcz⟩ := hrd'.at1 hl0'
        have hzh : hd j = z := by rw [hlt2'] at hz; simpa using hz
        have hzy : z < y := by
          have := HLt.out j l (by rw [← hj]; exact HX.out)
          rw [← hj, HYH.out, hzh] at this
          exact this
        rw [Nat.add_zero] at hcz
        have llb' : lb' < wo.heap.size := World.block_lt_of_cell? _ _ hcz
        have HCY := Lib.hid (fun W (h : Grew wo W) => (⟨HSO.out _ (grew_tr HG.out h), (h.cell (p := ⟨pb, poff + k, none⟩) lpb).trans hcx, (h.cell (p := ⟨lb, loff, none⟩) llb).trans hcy, (h.cell (p := ⟨pb, poff + j, none⟩) lpb).trans hcx', (h.cell (p := ⟨lb', loff', none⟩) llb').trans hcz⟩ : W.cell? ⟨b3, 0, none⟩ = some (.slice pa m pc) ∧ W.cell? ⟨pb, poff + k, none⟩ = some (.slice (some ⟨lb, loff, none⟩) l.length rc) ∧ W.cell? ⟨lb, loff, none⟩ = some (.int .i64 y) ∧ W.cell? ⟨pb, poff + j, none⟩ = some (.slice (some ⟨lb', loff', none⟩) l'.length rc') ∧ W.cell? ⟨lb', loff', none⟩ = some (.int .i64 z)))
        have hkd : decide ((0 : Int) < (k : Int)) = true := decide_eq_true (by omega)
        have hkd2 : (0 : Int) < (k : Int) := by omega
        have hkd3 : 0 < k := by omega
        have hkj : (k : Int) - 1 = (j : Int) := by omega
        have hkw : IntKind.i64.wrap ((k : Int) - 1) = (j : Int) := by rw [hkj, IntKind.wrap_i64]; omega
        have hjw : IntKind.i64.wrap (j : Int) = (j : Int) := by rw [IntKind.wrap_i64]; omega
        have hjLi : (j : Int) < (L.length : Int) := by omega
        have hj0i : (0 : Int) ≤ (j : Int) := by omega
        have hjL : j < L.length := by omega
        have hyz : ¬ y ≤ z := by omega
        have hyzd : decide (y ≤ z) = false := decide_eq_false hyz
        have HJ := Lib.hid hj
        clear hj hk0 hcx hcy lpb llb hab hx' hcx' hrd' hlt2' hz hcz hzh llb' hzy
        go_wp2_with fail
        go_region_held3 (fun W => W.cell? ⟨b3, 0, none⟩ = some (.slice pa m pc) ∧ W.cell? ⟨pb, poff + k, none⟩ = some (.slice (some ⟨lb, loff, none⟩) l.length rc) ∧ W.cell? ⟨lb, loff, none⟩ = some (.int .i64 y) ∧ W.cell? ⟨pb, poff + j, none⟩ = some (.slice (some ⟨lb', loff', none⟩) l'.length rc') ∧ W.cell? ⟨lb', loff', none⟩ = some (.int .i64 z)) (first | assumption | exact HCY.out _ (by repeat (first | with_reducible exact Below.refl _ _ | with_reducible assumption | with_reducible apply grew_ext | with_reducible apply grew_al | with_reducible apply grew_dn | with_reducible apply grew_d | (with_reducible refine grew_set ?_ (by first | omega | (repeat (first | with_reducible exact Nat.le_refl _ | with_reducible apply le_pl | with_reducible apply le_ext | with_reducible apply le_al))) _))))
          (first
          | (go_at_call 56; refine (HCQ.out _ (by repeat (first | with_reducible exact Below.refl _ _ | with_reducible assumption | with_reducible apply grew_ext | with_reducible apply grew_al | with_reducible apply grew_dn | with_reducible apply grew_d | (with_reducible refine grew_set ?_ (by first | omega | (repeat (first | with_reducible exact Nat.le_refl _ | with_reducible apply le_pl | with_reducible apply le_ext | with_reducible apply le_al))) _)))).mono ?_; rintro e wh ⟨ua, uc, rfl, oc, ga⟩; have RU := Lib.hid (owns_rd oc); clear oc; (first | obtain ⟨ya, rfl⟩ := ext_cold ga | obtain ⟨ya, rfl⟩ := ext_col ga | obtain ⟨ya, rfl⟩ := ext_of ga); clear ga)
          | (go_at_call 46; refine (owIntsE _ l.length _ ua l.length uc l _ (HRL.out.grew (by repeat (first | with_reducible exact Below.refl _ _ | with_reducible assumption | with_reducible apply grew_ext | with_reducible apply grew_al | with_reducible apply grew_dn | with_reducible apply grew_d | (with_reducible refine grew_set ?_ (by first | omega | (repeat (first | with_reducible exact Nat.le_refl _ | with_reducible apply le_pl | with_reducible apply le_ext | with_reducible apply le_al))) _)))) RU.out (by omega)).mono ?_; rintro e wh ⟨rfl, gb⟩; (first | obtain ⟨yb, rfl⟩ := ext_cold gb | obtain ⟨yb, rfl⟩ := ext_of gb); clear gb))
        obtain ⟨w8, hE8⟩ : ∃ X, X = ext (ext wo.drew ya) yb := ⟨_, rfl⟩
        have HG8 : Hid (Grew wo w8) := Lib.hid (by rw [hE8]; repeat (first | with_reducible exact Below.refl _ _ | with_reducible assumption | with_reducible apply grew_ext | with_reducible apply grew_al | with_reducible apply grew_dn | with_reducible apply grew_d | (with_reducible refine grew_set ?_ (by first | omega | (repeat (first | with_reducible exact Nat.le_refl _ | with_reducible apply le_pl | with_reducible apply le_ext | with_reducible apply le_al))) _)))
        rw [← hE8]
        clear hE8
        have hcy := HCY.out _ HG8.out
        obtain ⟨q0, q1, q2, q3, q4⟩ := hcy
        go_wp2
        go_roundw
        case rel => exact ⟨k + 1, s + l.length, by omega, by go_num, by go_num, by rw [HS.out, sumK_succ HX.out], grew_tr HG.out HG8.out⟩
        case measure => (simp [intOf]; try omega)
    · obtain rfl : k = L.length := by omega
      have hsM : s = M.length := by rw [HS.out, sumK_all L (Nat.le_refl _), HSum.out]
      have HSM := Lib.hid hsM
      have HCR := Lib.hid (by have := CR.out wo (HPW.out _ HG.out) 0; rw [HM.out] at this; exact this : Calls Try.prog 53 #[.agg #[.slice pa m pc], .int .i64 0] wo (RetIs M wo))
      have p0 := HSO.out _ HG.out
      have pl : b3 < wo.heap.size := World.block_lt_of_cell? _ _ p0
      clear hsM
      go_wp2_with fail
      refine HCR.out.mono ?_
      rintro e w6 ⟨ra, rc, rfl, o6, g6⟩
      have R6 := Lib.hid (owns_rd o6)
      have HG6 := Lib.hid (grew_tr HG.out g6)
      clear o6 g6 p0 pl HCR
      go_wp2
      go_loopw [8] (fun i wr => ∃ k : Nat, k ≤ M.length ∧ i = .int .i64 k ∧ Grew w6 wr) (fun i _ => M.length - (intOf i).toNat)
      case atStart => exact ⟨0, Nat.zero_le _, rfl, Below.refl _ _⟩
      case round =>
        obtain ⟨k, hk, rfl, hg⟩ := hrel
        have HGk := Lib.hid hg
        clear hg
        by_cases hlt : k < M.length
        · obtain ⟨rb, roff, z, rfl, hz, hcz⟩ := (R6.out.grew HGk.out).at1 hlt
          have hv := HOf.out z (List.mem_of_getElem? hz)
          have HO := Lib.hid (owOf la L.length lc L z wr (rdLL_grew R5.out (grew_tr HG6.out HGk.out)) (by omega) (fun l hl => by have := HBd.out.2 l hl; omega))
          obtain ⟨v, hve⟩ : ∃ v, ofL L z = v := ⟨_, rfl⟩
          rw [hve] at hv HO
          have hvd : decide (v < 0) = false := decide_eq_false (by omega)
          clear hve hz
          go_wp2_with fail
          refine HO.out.mono ?_
          rintro e w9 ⟨rfl, rfl⟩
          go_wp2
          go_roundw
          case rel => exact ⟨k + 1, by omega, by go_num, HGk.out⟩
          case measure => (simp [intOf]; try omega)
        · obtain rfl : k = M.length := by omega
          have hsM := HSM.out
          subst hsM
          go_wp2
          go_ret
          exact ⟨rfl, grew_tr G5.out (grew_tr HG6.out HGk.out)⟩
end Go.Proofs.Ytnjoofpllhbccaa
