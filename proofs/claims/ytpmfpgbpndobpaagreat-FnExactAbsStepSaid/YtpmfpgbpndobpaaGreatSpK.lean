/- Where a step leads to: the reference's l7Step, op 8. No condition. -/
import Derived.Test.YtpmfpgbpndobpaaGreatSpJ
namespace Go.Proofs.YtpmfpgbpndobpaaGreat
open Go.RowKit
set_option linter.unusedVariables false
set_option linter.unusedSimpArgs false
attribute [local go_sem] ext_cell ext_frozen ext_lt ext_le ext_le1 lt_s2 lt_s3 lt_s4 lt_s5 lt_s6 ext_lt1 ext_lt2 ext_lt3

theorem chg_cellF {F : Nat → Prop} {w w' : World} {p : Addr} {v : Value} (hc : Chg F w w') (h : w.cell? p = some v) (hn : ¬ F p.block) : w'.cell? p = some v :=
  (World.cell?_of_block (w := w) (w' := w') (a := p) (hc.block p.block (World.block_lt_of_cell? _ _ h) hn)).trans h

set_option maxRecDepth 100000 in
set_option maxHeartbeats 4000000 in
theorem specL7Step8 (pa : Option Addr) (pn pc : Nat) (ps : List Prc) (sa : Option Addr) (sn sc : Nat) (ss : List Sum) (xa : Option Addr) (xc : Nat) (xs : List Itv) (lo hi : Int) (d a b rel ilo ihi to pcc : Int) (w : World) (hr : RdP w pa pn ps) (hpn : pn ≤ 9223372036854775807) (hp : prgOkB ps = true) (hss : RdL ESum 3 w sa sn ss) (hsn : sn = pn) (hx : RdL EItv 2 w xa 4 xs) (hs : stOkB true xs lo hi = true) (hpc : 0 ≤ pcc ∧ pcc < 10) (hi0 : insOkB ⟨8, d, a, b, rel, ilo, ihi, to⟩ pn 10 = true) :
    Calls Tryz.prog 71 #[.agg #[.slice pa pn pc], .slice sa sn sc, Ins.v ⟨8, d, a, b, rel, ilo, ihi, to⟩, .int .i64 pcc, .agg #[.bool true, .slice xa 4 xc, .int .i64 lo, .int .i64 hi]] w (RetEb (edgesI ps ss ⟨8, d, a, b, rel, ilo, ihi, to⟩ pcc xs ⟨lo, hi⟩) w.heap.size w) := by
  obtain ⟨-, hD, hA, hB, hT⟩ := insParts hi0
  have hrel : (1 ≤ rel ∧ rel ≤ 4) ∧ (0 ≤ to ∧ to < 10) := by simpa [tailB] using hT
  simp only at hA hB
  have HV : Hid (edgesI ps ss ⟨8, d, a, b, rel, ilo, ihi, to⟩ pcc xs ⟨lo, hi⟩ = optA ((relSt (relI rel (nthI xs a) (nthI xs b)) xs a b).map fun zs => (zs, (⟨lo, hi⟩ : Itv))) to ++ optA ((relSt (notI rel (nthI xs a) (nthI xs b)) xs a b).map fun zs => (zs, (⟨lo, hi⟩ : Itv))) (pcc + 1)) := Lib.hid (by simp only [edgesI, optE_optA]; simp)
  rw [HV.out]
  have HH := Lib.hid (fun W (g : Grew w W) => specL7Holds xa xc xs lo hi ⟨8, d, a, b, rel, ilo, ihi, to⟩ W (hx.grew staysItv g) hs hA hB hrel.1)
  have HO := Lib.hid (fun W (g : Grew w W) => specL7Otherwise xa xc xs lo hi ⟨8, d, a, b, rel, ilo, ihi, to⟩ W (hx.grew staysItv g) hs hA hB hrel.1)
  simp only at HH HO
  obtain ⟨O1, hO1⟩ : ∃ o, (relSt (relI rel (nthI xs a) (nthI xs b)) xs a b).map (fun zs => (zs, (⟨lo, hi⟩ : Itv))) = o := ⟨_, rfl⟩
  obtain ⟨O2, hO2⟩ : ∃ o, (relSt (notI rel (nthI xs a) (nthI xs b)) xs a b).map (fun zs => (zs, (⟨lo, hi⟩ : Itv))) = o := ⟨_, rfl⟩
  rw [hO1] at HH ⊢
  rw [hO2] at HO ⊢
  have HE1 := Lib.hid (fun rb c W (h : ∀ z, O1 = some z → OwnR W (w.heap.size + 1 + 1 + 1) rb c z.1) (hB : w.heap.size + 1 + 1 + 1 ≤ W.heap.size) => specL7Edge to O1 rb c (w.heap.size + 1 + 1 + 1) W h hB)
  have HE2 := Lib.hid (fun rb c W (h : ∀ z, O2 = some z → OwnR W (w.heap.size + 1 + 1 + 1) rb c z.1) (hB : w.heap.size + 1 + 1 + 1 ≤ W.heap.size) => specL7Edge (pcc + 1) O2 rb c (w.heap.size + 1 + 1 + 1) W h hB)
  have HL1 := Lib.hid (optA_one O1 to)
  have HL2 := Lib.hid (optA_one O2 (pcc + 1))
  obtain ⟨es1, hes1⟩ : ∃ es, optA O1 to = es := ⟨_, rfl⟩
  obtain ⟨es2, hes2⟩ : ∃ es, optA O2 (pcc + 1) = es := ⟨_, rfl⟩
  rw [hes1] at HE1 HL1 ⊢
  rw [hes2] at HE2 HL2 ⊢
  clear HV hO1 hO2 hes1 hes2 hr hp hss hsn hx hs hi0 hD hA hB hT hrel
  obtain ⟨hpc1, hpc2⟩ := hpc
  go_enter Tryz.func71, Tryz.ntmps71
  go_upto_region 8 with fail
  refine wp_letH ?_
  intro E hE
  have GO := Lib.hid (show Grew w E from by rw [hE]; exact gr)
  have q0 : E.cell? ⟨w.heap.size + 1 + 1, 0, none⟩ = some (.bool true) := by rw [hE]; simp [go_sem]
  have q1 : E.cell? ⟨w.heap.size + 1 + 1, 1, none⟩ = some (.slice xa 4 xc) := by rw [hE]; simp [go_sem]
  have q2 : E.cell? ⟨w.heap.size + 1 + 1, 2, none⟩ = some (.int .i64 lo) := by rw [hE]; simp [go_sem]
  have q3 : E.cell? ⟨w.heap.size + 1 + 1, 3, none⟩ = some (.int .i64 hi) := by rw [hE]; simp [go_sem]
  have q4 : E.cell? ⟨w.heap.size + 1, 0, none⟩ = some (.int .i64 (8 : Int)) := by rw [hE]; simp [go_sem]
  have q5 : E.cell? ⟨w.heap.size + 1, 1, none⟩ = some (.int .i64 d) := by rw [hE]; simp [go_sem]
  have q6 : E.cell? ⟨w.heap.size + 1, 2, none⟩ = some (.int .i64 a) := by rw [hE]; simp [go_sem]
  have q7 : E.cell? ⟨w.heap.size + 1, 3, none⟩ = some (.int .i64 b) := by rw [hE]; simp [go_sem]
  have q8 : E.cell? ⟨w.heap.size + 1, 4, none⟩ = some (.int .i64 rel) := by rw [hE]; simp [go_sem]
  have q9 : E.cell? ⟨w.heap.size + 1, 5, none⟩ = some (.int .i64 ilo) := by rw [hE]; simp [go_sem]
  have q10 : E.cell? ⟨w.heap.size + 1, 6, none⟩ = some (.int .i64 ihi) := by rw [hE]; simp [go_sem]
  have q11 : E.cell? ⟨w.heap.size + 1, 7, none⟩ = some (.int .i64 to) := by rw [hE]; simp [go_sem]
  have hszE : w.heap.size + 1 + 1 + 1 ≤ E.heap.size := by rw [hE]; simp only [World.size_alloc]; omega
  have HSG := Lib.hid (fun W (g : Grew E W) => (⟨(g.cell (p := ⟨w.heap.size + 1 + 1, 0, none⟩) (World.block_lt_of_cell? _ _ q0)).trans q0, (g.cell (p := ⟨w.heap.size + 1 + 1, 1, none⟩) (World.block_lt_of_cell? _ _ q1)).trans q1, (g.cell (p := ⟨w.heap.size + 1 + 1, 2, none⟩) (World.block_lt_of_cell? _ _ q2)).trans q2, (g.cell (p := ⟨w.heap.size + 1 + 1, 3, none⟩) (World.block_lt_of_cell? _ _ q3)).trans q3, (g.cell (p := ⟨w.heap.size + 1, 0, none⟩) (World.block_lt_of_cell? _ _ q4)).trans q4, (g.cell (p := ⟨w.heap.size + 1, 1, none⟩) (World.block_lt_of_cell? _ _ q5)).trans q5, (g.cell (p := ⟨w.heap.size + 1, 2, none⟩) (World.block_lt_of_cell? _ _ q6)).trans q6, (g.cell (p := ⟨w.heap.size + 1, 3, none⟩) (World.block_lt_of_cell? _ _ q7)).trans q7, (g.cell (p := ⟨w.heap.size + 1, 4, none⟩) (World.block_lt_of_cell? _ _ q8)).trans q8, (g.cell (p := ⟨w.heap.size + 1, 5, none⟩) (World.block_lt_of_cell? _ _ q9)).trans q9, (g.cell (p := ⟨w.heap.size + 1, 6, none⟩) (World.block_lt_of_cell? _ _ q10)).trans q10, (g.cell (p := ⟨w.heap.size + 1, 7, none⟩) (World.block_lt_of_cell? _ _ q11)).trans q11⟩ : W.cell? ⟨w.heap.size + 1 + 1, 0, none⟩ = some (.bool true) ∧ W.cell? ⟨w.heap.size + 1 + 1, 1, none⟩ = some (.slice xa 4 xc) ∧ W.cell? ⟨w.heap.size + 1 + 1, 2, none⟩ = some (.int .i64 lo) ∧ W.cell? ⟨w.heap.size + 1 + 1, 3, none⟩ = some (.int .i64 hi) ∧ W.cell? ⟨w.heap.size + 1, 0, none⟩ = some (.int .i64 (8 : Int)) ∧ W.cell? ⟨w.heap.size + 1, 1, none⟩ = some (.int .i64 d) ∧ W.cell? ⟨w.heap.size + 1, 2, none⟩ = some (.int .i64 a) ∧ W.cell? ⟨w.heap.size + 1, 3, none⟩ = some (.int .i64 b) ∧ W.cell? ⟨w.heap.size + 1, 4, none⟩ = some (.int .i64 rel) ∧ W.cell? ⟨w.heap.size + 1, 5, none⟩ = some (.int .i64 ilo) ∧ W.cell? ⟨w.heap.size + 1, 6, none⟩ = some (.int .i64 ihi) ∧ W.cell? ⟨w.heap.size + 1, 7, none⟩ = some (.int .i64 to)))
  clear hE q0 q1 q2 q3 q4 q5 q6 q7 q8 q9 q10 q11
  refine wp_region_held_drew (S := (fun W => W.cell? ⟨w.heap.size + 1 + 1, 0, none⟩ = some (.bool true) ∧ W.cell? ⟨w.heap.size + 1 + 1, 1, none⟩ = some (.slice xa 4 xc) ∧ W.cell? ⟨w.heap.size + 1 + 1, 2, none⟩ = some (.int .i64 lo) ∧ W.cell? ⟨w.heap.size + 1 + 1, 3, none⟩ = some (.int .i64 hi) ∧ W.cell? ⟨w.heap.size + 1, 0, none⟩ = some (.int .i64 (8 : Int)) ∧ W.cell? ⟨w.heap.size + 1, 1, none⟩ = some (.int .i64 d) ∧ W.cell? ⟨w.heap.size + 1, 2, none⟩ = some (.int .i64 a) ∧ W.cell? ⟨w.heap.size + 1, 3, none⟩ = some (.int .i64 b) ∧ W.cell? ⟨w.heap.size + 1, 4, none⟩ = some (.int .i64 rel) ∧ W.cell? ⟨w.heap.size + 1, 5, none⟩ = some (.int .i64 ilo) ∧ W.cell? ⟨w.heap.size + 1, 6, none⟩ = some (.int .i64 ihi) ∧ W.cell? ⟨w.heap.size + 1, 7, none⟩ = some (.int .i64 to))) (by kernel_rfl) ?_ (fun hHeld => ?_)
  · (try dsimp only); (first | with_reducible assumption | with_reducible exact HSG.out _ (grew_d (Below.refl _ _)))
  refine wpAnyH_take (i := 0) (v := ?_) rfl (by kernel_rfl) (by kernel_rfl) (by kernel_rfl) (fun _ _ _ h => h) (Or.inl ⟨by rfl, ?_⟩) (by assumption) ?_
  rotate_left
  · (intro w hSw; (try dsimp only at hSw); go_simp; try with_reducible rfl)
  try simp only [List.getElem_toArray, List.getElem_cons_succ, List.getElem_cons_zero, Act.put, List.setIfInBounds_toArray, List.set_cons_zero, List.set_cons_succ]
  refine wpAnyH_take (i := 1) (v := ?_) rfl (by kernel_rfl) (by kernel_rfl) (by kernel_rfl) (fun _ _ _ h => h) (Or.inl ⟨by rfl, ?_⟩) (by assumption) ?_
  rotate_left
  · (intro w hSw; (try dsimp only at hSw); go_simp; try with_reducible rfl)
  try simp only [List.getElem_toArray, List.getElem_cons_succ, List.getElem_cons_zero, Act.put, List.setIfInBounds_toArray, List.set_cons_zero, List.set_cons_succ]
  refine wpAnyH_take (i := 2) (v := ?_) rfl (by kernel_rfl) (by kernel_rfl) (by kernel_rfl) (fun _ _ _ h => h) (Or.inl ⟨by rfl, ?_⟩) (by assumption) ?_
  rotate_left
  · (intro w hSw; (try dsimp only at hSw); go_simp; try with_reducible rfl)
  try simp only [List.getElem_toArray, List.getElem_cons_succ, List.getElem_cons_zero, Act.put, List.setIfInBounds_toArray, List.set_cons_zero, List.set_cons_succ]
  refine wpAnyH_take (i := 3) (v := ?_) rfl (by kernel_rfl) (by kernel_rfl) (by kernel_rfl) (fun _ _ _ h => h) (Or.inl ⟨by rfl, ?_⟩) (by assumption) ?_
  rotate_left
  · (intro w hSw; (try dsimp only at hSw); go_simp; try with_reducible rfl)
  try simp only [List.getElem_toArray, List.getElem_cons_succ, List.getElem_cons_zero, Act.put, List.setIfInBounds_toArray, List.set_cons_zero, List.set_cons_succ]
  refine wpAnyH_take (i := 6) (v := ?_) rfl (by kernel_rfl) (by kernel_rfl) (by kernel_rfl) (fun _ _ _ h => h) (Or.inl ⟨by rfl, ?_⟩) (by assumption) ?_
  rotate_left
  · (intro w hSw; (try dsimp only at hSw); go_simp; try with_reducible rfl)
  try simp only [List.getElem_toArray, List.getElem_cons_succ, List.getElem_cons_zero, Act.put, List.setIfInBounds_toArray, List.set_cons_zero, List.set_cons_succ]
  refine wpAnyH_take (i := 7) (v := ?_) rfl (by kernel_rfl) (by kernel_rfl) (by kernel_rfl) (fun _ _ _ h => h) (Or.inl ⟨by rfl, ?_⟩) (by assumption) ?_
  rotate_left
  · (intro w hSw; (try dsimp only at hSw); go_simp; try with_reducible rfl)
  try simp only [List.getElem_toArray, List.getElem_cons_succ, List.getElem_cons_zero, Act.put, List.setIfInBounds_toArray, List.set_cons_zero, List.set_cons_succ]
  refine wpAnyH_take (i := 8) (v := ?_) rfl (by kernel_rfl) (by kernel_rfl) (by kernel_rfl) (fun _ _ _ h => h) (Or.inl ⟨by rfl, ?_⟩) (by assumption) ?_
  rotate_left
  · (intro w hSw; (try dsimp only at hSw); go_simp; try with_reducible rfl)
  try simp only [List.getElem_toArray, List.getElem_cons_succ, List.getElem_cons_zero, Act.put, List.setIfInBounds_toArray, List.set_cons_zero, List.set_cons_succ]
  refine wpAnyH_take (i := 9) (v := ?_) rfl (by kernel_rfl) (by kernel_rfl) (by kernel_rfl) (fun _ _ _ h => h) (Or.inl ⟨by rfl, ?_⟩) (by assumption) ?_
  rotate_left
  · (intro w hSw; (try dsimp only at hSw); go_simp; try with_reducible rfl)
  try simp only [List.getElem_toArray, List.getElem_cons_succ, List.getElem_cons_zero, Act.put, List.setIfInBounds_toArray, List.set_cons_zero, List.set_cons_succ]
  refine wpAnyH_ready (rs := [4]) (by kernel_rfl) (by simp) ?_
  refine AllReadyH.cons rfl (fun K hK => ?_) AllReadyH.nil
  · try simp only [List.getElem_toArray, List.getElem_cons_succ, List.getElem_cons_zero]
    go_simp
    refine (HH.out _ (grew_tr GO.out (grew_d (Below.refl _ _)))).mono ?_
    rintro e w1 ⟨gK, rb1, cc1, rfl, ho1⟩
    have hg1 : Grew E w1 := grew_tr (grew_d (Below.refl _ _)) gK
    have p1 : ∀ z, O1 = some z → OwnR w1 (w.heap.size + 1 + 1 + 1) rb1 cc1 z.1 := fun z hz => (ho1 z hz).mono (by simp only [World.size_drew]; omega)
    clear ho1
    have hs1 := HSG.out _ hg1
    clear gK
    refine hK.out _ _ ?_ (fun hHeld => ?_)
    · (try dsimp only); (first | with_reducible assumption | with_reducible exact HSG.out _ (grew_d (Below.refl _ _)))
    clear hK K
    try simp only [List.getElem_toArray, List.getElem_cons_succ, List.getElem_cons_zero, Act.put, List.setIfInBounds_toArray, List.set_cons_zero, List.set_cons_succ]
    refine wpAnyH_ready (rs := [5]) (by kernel_rfl) (by simp) ?_
    refine AllReadyH.cons rfl (fun K hK => ?_) AllReadyH.nil
    · try simp only [List.getElem_toArray, List.getElem_cons_succ, List.getElem_cons_zero]
      go_simp
      refine (HE1.out rb1 cc1 _ p1 (by have := hg1.size; omega)).mono ?_
      rintro e w2 ⟨a1, c1, ms1, rfl, r1, hm1, gK⟩
      have hg2 : Grew E w2 := grew_tr hg1 gK
      clear p1
      have hs2 := HSG.out _ hg2
      clear gK
      refine hK.out _ _ ?_ (fun hHeld => ?_)
      · (try dsimp only); (first | with_reducible assumption | with_reducible exact HSG.out _ (grew_d (Below.refl _ _)))
      clear hK K
      try simp only [List.getElem_toArray, List.getElem_cons_succ, List.getElem_cons_zero, Act.put, List.setIfInBounds_toArray, List.set_cons_zero, List.set_cons_succ]
      refine wpAnyH_ready (rs := [10]) (by kernel_rfl) (by simp) ?_
      refine AllReadyH.cons rfl (fun K hK => ?_) AllReadyH.nil
      · try simp only [List.getElem_toArray, List.getElem_cons_succ, List.getElem_cons_zero]
        go_simp
        refine (HO.out _ (grew_tr GO.out hg2)).mono ?_
        rintro e w3 ⟨gK, rb2, cc2, rfl, ho2⟩
        have hg3 : Grew E w3 := grew_tr hg2 gK
        have p2 : ∀ z, O2 = some z → OwnR w3 (w.heap.size + 1 + 1 + 1) rb2 cc2 z.1 := fun z hz => (ho2 z hz).mono (by have := hg2.size; omega)
        clear ho2
        have hs3 := HSG.out _ hg3
        have r1 := r1.grew gK
        clear gK
        refine hK.out _ _ ?_ (fun hHeld => ?_)
        · (try dsimp only); (first | with_reducible assumption | with_reducible exact HSG.out _ (grew_d (Below.refl _ _)))
        clear hK K
        try simp only [List.getElem_toArray, List.getElem_cons_succ, List.getElem_cons_zero, Act.put, List.setIfInBounds_toArray, List.set_cons_zero, List.set_cons_succ]
        refine wpAnyH_ready (rs := [11]) (by kernel_rfl) (by simp) ?_
        refine AllReadyH.cons rfl (fun K hK => ?_) AllReadyH.nil
        · try simp only [List.getElem_toArray, List.getElem_cons_succ, List.getElem_cons_zero]
          go_simp
          rw [show IntKind.i64.wrap (pcc + 1) = pcc + 1 from wrapIn (by omega) (by omega)]; refine (HE2.out rb2 cc2 _ p2 (by have := hg3.size; omega)).mono ?_
          rintro e w4 ⟨a2, c2, ms2, rfl, r2, hm2, gK⟩
          have hg4 : Grew E w4 := grew_tr hg3 gK
          clear p2
          have hs4 := HSG.out _ hg4
          have r1 := r1.grew gK
          clear gK
          refine hK.out _ _ ?_ (fun hHeld => ?_)
          · (try dsimp only); (first | with_reducible assumption | with_reducible exact HSG.out _ (grew_d (Below.refl _ _)))
          clear hK K
          try simp only [List.getElem_toArray, List.getElem_cons_succ, List.getElem_cons_zero, Act.put, List.setIfInBounds_toArray, List.set_cons_zero, List.set_cons_succ]
          have l1 := HL1.out
          have l2 := HL2.out
          obtain ⟨aj, cj, w9, hrun, hoj, hgb⟩ := OwnE.join r1 r2 (by omega) (by have := hg4.size; omega)
          have hG9 : Grew w w9 := Below.trans (grew_tr GO.out hg4) ((Chg.of_grownBy hgb).belowB (grew_tr GO.out hg4).size (fun b hb => by have := (r1.2.1.lt b hb).1; omega))
          have hsJ : w9.cell? ⟨w.heap.size + 1 + 1, 0, none⟩ = some (.bool true) ∧ w9.cell? ⟨w.heap.size + 1 + 1, 1, none⟩ = some (.slice xa 4 xc) ∧ w9.cell? ⟨w.heap.size + 1 + 1, 2, none⟩ = some (.int .i64 lo) ∧ w9.cell? ⟨w.heap.size + 1 + 1, 3, none⟩ = some (.int .i64 hi) ∧ w9.cell? ⟨w.heap.size + 1, 0, none⟩ = some (.int .i64 (8 : Int)) ∧ w9.cell? ⟨w.heap.size + 1, 1, none⟩ = some (.int .i64 d) ∧ w9.cell? ⟨w.heap.size + 1, 2, none⟩ = some (.int .i64 a) ∧ w9.cell? ⟨w.heap.size + 1, 3, none⟩ = some (.int .i64 b) ∧ w9.cell? ⟨w.heap.size + 1, 4, none⟩ = some (.int .i64 rel) ∧ w9.cell? ⟨w.heap.size + 1, 5, none⟩ = some (.int .i64 ilo) ∧ w9.cell? ⟨w.heap.size + 1, 6, none⟩ = some (.int .i64 ihi) ∧ w9.cell? ⟨w.heap.size + 1, 7, none⟩ = some (.int .i64 to) := ⟨chg_cellF (Chg.of_grownBy hgb) hs4.1 (by intro e; have := (r1.2.1.lt _ e).1; (try simp only at this); omega), chg_cellF (Chg.of_grownBy hgb) hs4.2.1 (by intro e; have := (r1.2.1.lt _ e).1; (try simp only at this); omega), chg_cellF (Chg.of_grownBy hgb) hs4.2.2.1 (by intro e; have := (r1.2.1.lt _ e).1; (try simp only at this); omega), chg_cellF (Chg.of_grownBy hgb) hs4.2.2.2.1 (by intro e; have := (r1.2.1.lt _ e).1; (try simp only at this); omega), chg_cellF (Chg.of_grownBy hgb) hs4.2.2.2.2.1 (by intro e; have := (r1.2.1.lt _ e).1; (try simp only at this); omega), chg_cellF (Chg.of_grownBy hgb) hs4.2.2.2.2.2.1 (by intro e; have := (r1.2.1.lt _ e).1; (try simp only at this); omega), chg_cellF (Chg.of_grownBy hgb) hs4.2.2.2.2.2.2.1 (by intro e; have := (r1.2.1.lt _ e).1; (try simp only at this); omega), chg_cellF (Chg.of_grownBy hgb) hs4.2.2.2.2.2.2.2.1 (by intro e; have := (r1.2.1.lt _ e).1; (try simp only at this); omega), chg_cellF (Chg.of_grownBy hgb) hs4.2.2.2.2.2.2.2.2.1 (by intro e; have := (r1.2.1.lt _ e).1; (try simp only at this); omega), chg_cellF (Chg.of_grownBy hgb) hs4.2.2.2.2.2.2.2.2.2.1 (by intro e; have := (r1.2.1.lt _ e).1; (try simp only at this); omega), chg_cellF (Chg.of_grownBy hgb) hs4.2.2.2.2.2.2.2.2.2.2.1 (by intro e; have := (r1.2.1.lt _ e).1; (try simp only at this); omega), chg_cellF (Chg.of_grownBy hgb) hs4.2.2.2.2.2.2.2.2.2.2.2 (by intro e; have := (r1.2.1.lt _ e).1; (try simp only at this); omega)⟩
          have HRUN := Lib.hid hrun
          clear hrun hgb l1 l2
          refine wpAnyH_ready (rs := [12]) (by kernel_rfl) (by simp) ?_
          refine AllReadyH.cons rfl (fun K hK => ?_) AllReadyH.nil
          try simp only [List.getElem_toArray, List.getElem_cons_succ, List.getElem_cons_zero]
          (try dsimp only)
          refine heldAppend2 (t := 43) (v := .slice a1 es1.length c1) (y := .slice a2 es2.length c2) (v' := .slice aj (es1.length + es2.length) cj) (w' := w9) ?_ (.tmp 44) (.tmp 50) ?_ ?_ ?_ ?_ HRUN.out ?_
          any_goals (first | rfl | (simp [Region.wanted]; done))
          refine hK.out _ _ ?_ (fun hHeld => ?_)
          · (try dsimp only); (first | with_reducible assumption | with_reducible exact HSG.out _ (grew_d (Below.refl _ _)))
          clear hK K
          try simp only [List.getElem_toArray, List.getElem_cons_succ, List.getElem_cons_zero, Act.put, List.setIfInBounds_toArray, List.set_cons_zero, List.set_cons_succ]
          refine wpAnyH_ready (rs := [13]) (by kernel_rfl) (by simp) ?_
          refine AllReadyH.cons rfl (fun K hK => ?_) AllReadyH.nil
          try simp only [List.getElem_toArray, List.getElem_cons_succ, List.getElem_cons_zero]
          go_simp
          refine hK.out _ _ ?_ (fun hHeld => ?_)
          · (try dsimp only); (first | with_reducible assumption | with_reducible exact HSG.out _ (grew_d (Below.refl _ _)))
          clear hK K
          try simp only [List.getElem_toArray, List.getElem_cons_succ, List.getElem_cons_zero, Act.put, List.setIfInBounds_toArray, List.set_cons_zero, List.set_cons_succ]
          refine wpAnyH_done (by kernel_rfl) ?_ _
          have HOJ := Lib.hid hoj
          have HG9 := Lib.hid hG9
          clear hs1 hg1 hs2 hg2 hs3 hg3 hs4 hg4 hsJ hoj hG9
          go_wp2
          go_ret
          refine ⟨aj, cj, ms1 ++ ms2, by rw [List.length_append]; rfl, ?_, by rw [List.map_append, hm1, hm2], HG9.out⟩
          rw [List.length_append]
          exact HOJ.out.mono (by omega)
end Go.Proofs.YtpmfpgbpndobpaaGreat
