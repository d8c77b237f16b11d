/- Where a step leads to: the reference's l7Step, op by op. No condition. -/
import Derived.Test.YtpmfpgbpndobpaaGreatSpE
import Derived.Test.YtpmfpgbpndobpaaGreatSpF
import Derived.Test.YtpmfpgbpndobpaaGreatSpG
import Derived.Test.YtpmfpgbpndobpaaGreatSpH
import Derived.Test.YtpmfpgbpndobpaaGreatEs
namespace Go.Proofs.YtpmfpgbpndobpaaGreat
open Go.RowKit
set_option linter.unusedVariables false
set_option linter.unusedSimpArgs false
attribute [local go_sem] ext_cell ext_frozen ext_lt ext_le ext_le1 lt_s2 lt_s3 lt_s4 lt_s5 lt_s6 ext_lt1 ext_lt2 ext_lt3

theorem optE_optA (o : Option (List Itv)) (to : Int) (c : Itv) : optE o to c = optA (o.map fun zs => (zs, c)) to := by cases o <;> rfl
theorem optA_one (o : Option (List Itv × Itv)) (to : Int) : (optA o to).length ≤ 1 := by cases o <;> simp [optA]
set_option maxRecDepth 100000 in
set_option maxHeartbeats 4000000 in
theorem specL7Step12 (pa : Option Addr) (pn pc : Nat) (ps : List Prc) (sa : Option Addr) (sn sc : Nat) (ss : List Sum) (xa : Option Addr) (xc : Nat) (xs : List Itv) (lo hi : Int) (d a b rel ilo ihi to pcc : Int) (w : World) (hr : RdP w pa pn ps) (hpn : pn ≤ 9223372036854775807) (hp : prgOkB ps = true) (hss : RdL ESum 3 w sa sn ss) (hsn : sn = pn) (hx : RdL EItv 2 w xa 4 xs) (hs : stOkB true xs lo hi = true) (hpc : 0 ≤ pcc ∧ pcc < 10) (hi0 : insOkB ⟨12, d, a, b, rel, ilo, ihi, to⟩ pn 10 = true) :
    Calls Tryz.prog 71 #[.agg #[.slice pa pn pc], .slice sa sn sc, Ins.v ⟨12, d, a, b, rel, ilo, ihi, to⟩, .int .i64 pcc, .agg #[.bool true, .slice xa 4 xc, .int .i64 lo, .int .i64 hi]] w (RetEb (edgesI ps ss ⟨12, d, a, b, rel, ilo, ihi, to⟩ pcc xs ⟨lo, hi⟩) w.heap.size w) := by
  have HV : Hid (edgesI ps ss ⟨12, d, a, b, rel, ilo, ihi, to⟩ pcc xs ⟨lo, hi⟩ = []) := Lib.hid (by simp [edgesI])
  rw [HV.out]
  clear HV hr hp hss hsn hx hs hi0 hpc
  go_enter Tryz.func71, Tryz.ntmps71
  go_wp2
  go_ret
  refine ⟨some ⟨w.heap.size + 1 + 1 + 1, 0, none⟩, 0, [], rfl, ownE_lit0 (by omega) ?_, rfl, ?_⟩
  · exact Blk.new' (by simp only [World.size_alloc])
  · exact gr
set_option maxRecDepth 100000 in
set_option maxHeartbeats 4000000 in
theorem specL7Step9 (pa : Option Addr) (pn pc : Nat) (ps : List Prc) (sa : Option Addr) (sn sc : Nat) (ss : List Sum) (xa : Option Addr) (xc : Nat) (xs : List Itv) (lo hi : Int) (d a b rel ilo ihi to pcc : Int) (w : World) (hr : RdP w pa pn ps) (hpn : pn ≤ 9223372036854775807) (hp : prgOkB ps = true) (hss : RdL ESum 3 w sa sn ss) (hsn : sn = pn) (hx : RdL EItv 2 w xa 4 xs) (hs : stOkB true xs lo hi = true) (hpc : 0 ≤ pcc ∧ pcc < 10) (hi0 : insOkB ⟨9, d, a, b, rel, ilo, ihi, to⟩ pn 10 = true) :
    Calls Tryz.prog 71 #[.agg #[.slice pa pn pc], .slice sa sn sc, Ins.v ⟨9, d, a, b, rel, ilo, ihi, to⟩, .int .i64 pcc, .agg #[.bool true, .slice xa 4 xc, .int .i64 lo, .int .i64 hi]] w (RetEb (edgesI ps ss ⟨9, d, a, b, rel, ilo, ihi, to⟩ pcc xs ⟨lo, hi⟩) w.heap.size w) := by
  have HV : Hid (edgesI ps ss ⟨9, d, a, b, rel, ilo, ihi, to⟩ pcc xs ⟨lo, hi⟩ = optA (some (xs, ⟨lo, hi⟩)) to) := Lib.hid (by simp [edgesI, optA])
  rw [HV.out]
  have HEG := Lib.hid (fun rb cc W (h : OwnR W w.heap.size rb cc xs) (hB : w.heap.size ≤ W.heap.size) => (specL7Edge to (some (xs, ⟨lo, hi⟩)) rb cc w.heap.size W (by rintro z hz; cases hz; exact h) hB :
    Calls Tryz.prog 114 #[.int .i64 to, .agg #[.bool true, .slice (some ⟨rb, 0, none⟩) 4 cc, .int .i64 lo, .int .i64 hi]] W (RetEb (optA (some (xs, ⟨lo, hi⟩)) to) w.heap.size W)))
  obtain ⟨es, hes⟩ : ∃ es, optA (some (xs, (⟨lo, hi⟩ : Itv))) to = es := ⟨_, rfl⟩
  rw [hes] at HEG ⊢
  have HX := Lib.hid hx
  clear HV hes hr hp hss hsn hx hs hi0 hpc
  go_enter Tryz.func71, Tryz.ntmps71
  go_upto_region 10 with fail
  refine wp_letH ?_
  intro E hE
  have GO := Lib.hid (show Grew w E from by rw [hE]; exact gr)
  have q0 : E.cell? ⟨w.heap.size + 1 + 1, 0, none⟩ = some (.bool true) := by rw [hE]; simp [go_sem]
  have q1 : E.cell? ⟨w.heap.size + 1 + 1, 1, none⟩ = some (.slice xa 4 xc) := by rw [hE]; simp [go_sem]
  have q2 : E.cell? ⟨w.heap.size + 1 + 1, 2, none⟩ = some (.int .i64 lo) := by rw [hE]; simp [go_sem]
  have q3 : E.cell? ⟨w.heap.size + 1 + 1, 3, none⟩ = some (.int .i64 hi) := by rw [hE]; simp [go_sem]
  have q4 : E.cell? ⟨w.heap.size + 1, 0, none⟩ = some (.int .i64 (9 : Int)) := by rw [hE]; simp [go_sem]
  have q5 : E.cell? ⟨w.heap.size + 1, 1, none⟩ = some (.int .i64 d) := by rw [hE]; simp [go_sem]
  have q6 : E.cell? ⟨w.heap.size + 1, 2, none⟩ = some (.int .i64 a) := by rw [hE]; simp [go_sem]
  have q7 : E.cell? ⟨w.heap.size + 1, 3, none⟩ = some (.int .i64 b) := by rw [hE]; simp [go_sem]
  have q8 : E.cell? ⟨w.heap.size + 1, 4, none⟩ = some (.int .i64 rel) := by rw [hE]; simp [go_sem]
  have q9 : E.cell? ⟨w.heap.size + 1, 5, none⟩ = some (.int .i64 ilo) := by rw [hE]; simp [go_sem]
  have q10 : E.cell? ⟨w.heap.size + 1, 6, none⟩ = some (.int .i64 ihi) := by rw [hE]; simp [go_sem]
  have q11 : E.cell? ⟨w.heap.size + 1, 7, none⟩ = some (.int .i64 to) := by rw [hE]; simp [go_sem]
  have hszE : w.heap.size + 1 + 1 + 1 ≤ E.heap.size := by rw [hE]; simp only [World.size_alloc]; omega
  have HSG := Lib.hid (fun W (g : Grew E W) => (⟨(g.cell (p := ⟨w.heap.size + 1 + 1, 0, none⟩) (World.block_lt_of_cell? _ _ q0)).trans q0, (g.cell (p := ⟨w.heap.size + 1 + 1, 1, none⟩) (World.block_lt_of_cell? _ _ q1)).trans q1, (g.cell (p := ⟨w.heap.size + 1 + 1, 2, none⟩) (World.block_lt_of_cell? _ _ q2)).trans q2, (g.cell (p := ⟨w.heap.size + 1 + 1, 3, none⟩) (World.block_lt_of_cell? _ _ q3)).trans q3, (g.cell (p := ⟨w.heap.size + 1, 0, none⟩) (World.block_lt_of_cell? _ _ q4)).trans q4, (g.cell (p := ⟨w.heap.size + 1, 1, none⟩) (World.block_lt_of_cell? _ _ q5)).trans q5, (g.cell (p := ⟨w.heap.size + 1, 2, none⟩) (World.block_lt_of_cell? _ _ q6)).trans q6, (g.cell (p := ⟨w.heap.size + 1, 3, none⟩) (World.block_lt_of_cell? _ _ q7)).trans q7, (g.cell (p := ⟨w.heap.size + 1, 4, none⟩) (World.block_lt_of_cell? _ _ q8)).trans q8, (g.cell (p := ⟨w.heap.size + 1, 5, none⟩) (World.block_lt_of_cell? _ _ q9)).trans q9, (g.cell (p := ⟨w.heap.size + 1, 6, none⟩) (World.block_lt_of_cell? _ _ q10)).trans q10, (g.cell (p := ⟨w.heap.size + 1, 7, none⟩) (World.block_lt_of_cell? _ _ q11)).trans q11⟩ : W.cell? ⟨w.heap.size + 1 + 1, 0, none⟩ = some (.bool true) ∧ W.cell? ⟨w.heap.size + 1 + 1, 1, none⟩ = some (.slice xa 4 xc) ∧ W.cell? ⟨w.heap.size + 1 + 1, 2, none⟩ = some (.int .i64 lo) ∧ W.cell? ⟨w.heap.size + 1 + 1, 3, none⟩ = some (.int .i64 hi) ∧ W.cell? ⟨w.heap.size + 1, 0, none⟩ = some (.int .i64 (9 : Int)) ∧ W.cell? ⟨w.heap.size + 1, 1, none⟩ = some (.int .i64 d) ∧ W.cell? ⟨w.heap.size + 1, 2, none⟩ = some (.int .i64 a) ∧ W.cell? ⟨w.heap.size + 1, 3, none⟩ = some (.int .i64 b) ∧ W.cell? ⟨w.heap.size + 1, 4, none⟩ = some (.int .i64 rel) ∧ W.cell? ⟨w.heap.size + 1, 5, none⟩ = some (.int .i64 ilo) ∧ W.cell? ⟨w.heap.size + 1, 6, none⟩ = some (.int .i64 ihi) ∧ W.cell? ⟨w.heap.size + 1, 7, none⟩ = some (.int .i64 to)))
  clear hE q0 q1 q2 q3 q4 q5 q6 q7 q8 q9 q10 q11
  refine wp_region_held_drew (S := (fun W => W.cell? ⟨w.heap.size + 1 + 1, 0, none⟩ = some (.bool true) ∧ W.cell? ⟨w.heap.size + 1 + 1, 1, none⟩ = some (.slice xa 4 xc) ∧ W.cell? ⟨w.heap.size + 1 + 1, 2, none⟩ = some (.int .i64 lo) ∧ W.cell? ⟨w.heap.size + 1 + 1, 3, none⟩ = some (.int .i64 hi) ∧ W.cell? ⟨w.heap.size + 1, 0, none⟩ = some (.int .i64 (9 : Int)) ∧ W.cell? ⟨w.heap.size + 1, 1, none⟩ = some (.int .i64 d) ∧ W.cell? ⟨w.heap.size + 1, 2, none⟩ = some (.int .i64 a) ∧ W.cell? ⟨w.heap.size + 1, 3, none⟩ = some (.int .i64 b) ∧ W.cell? ⟨w.heap.size + 1, 4, none⟩ = some (.int .i64 rel) ∧ W.cell? ⟨w.heap.size + 1, 5, none⟩ = some (.int .i64 ilo) ∧ W.cell? ⟨w.heap.size + 1, 6, none⟩ = some (.int .i64 ihi) ∧ W.cell? ⟨w.heap.size + 1, 7, none⟩ = some (.int .i64 to))) (by kernel_rfl) ?_ (fun hHeld => ?_)
  · (try dsimp only); (first | with_reducible assumption | with_reducible exact HSG.out _ (grew_d (Below.refl _ _)))
  refine wpAnyH_take (i := 0) (v := ?_) rfl (by kernel_rfl) (by kernel_rfl) (by kernel_rfl) (fun _ _ _ h => h) (Or.inl ⟨by rfl, ?_⟩) (by assumption) ?_
  rotate_left
  · (intro w hSw; (try dsimp only at hSw); go_simp; try with_reducible rfl)
  try simp only [List.getElem_toArray, List.getElem_cons_succ, List.getElem_cons_zero, Act.put, List.setIfInBounds_toArray, List.set_cons_zero, List.set_cons_succ]
  refine wpAnyH_take (i := 1) (v := ?_) rfl (by kernel_rfl) (by kernel_rfl) (by kernel_rfl) (fun _ _ _ h => h) (Or.inl ⟨by rfl, ?_⟩) (by assumption) ?_
  rotate_left
  · (intro w hSw; (try dsimp only at hSw); go_simp; try with_reducible rfl)
  try simp only [List.getElem_toArray, List.getElem_cons_succ, List.getElem_cons_zero, Act.put, List.setIfInBounds_toArray, List.set_cons_zero, List.set_cons_succ]
  refine wpAnyH_take (i := 2) (v := ?_) rfl (by kernel_rfl) (by kernel_rfl) (by kernel_rfl) (fun _ _ _ h => h) (Or.inl ⟨by rfl, ?_⟩) (by assumption) ?_
  rotate_left
  · (intro w hSw; (try dsimp only at hSw); go_simp; try with_reducible rfl)
  try simp only [List.getElem_toArray, List.getElem_cons_succ, List.getElem_cons_zero, Act.put, List.setIfInBounds_toArray, List.set_cons_zero, List.set_cons_succ]
  refine wpAnyH_ready (rs := [3]) (by kernel_rfl) (by simp) ?_
  refine AllReadyH.cons rfl (fun K hK => ?_) AllReadyH.nil
  try simp only [List.getElem_toArray, List.getElem_cons_succ, List.getElem_cons_zero]
  go_simp
  (refine (specL7Copy _ xc xs lo hi _ (HX.out.grew staysItv (grew_tr GO.out (grew_d (Below.refl _ _))))).mono ?_; rintro e wh ⟨rb, cc, rfl, hor, ga⟩; have hgh : Grew E wh := grew_tr (grew_d (Below.refl _ _)) ga; have hs8 := HSG.out _ hgh; have hrb : E.heap.size ≤ rb := (by have := hor.2.1; simpa using this); clear ga)
  refine hK.out _ _ ?_ (fun hHeld => ?_)
  · (try dsimp only); (first | with_reducible assumption | with_reducible exact HSG.out _ (grew_d (Below.refl _ _)))
  clear hK K
  try simp only [List.getElem_toArray, List.getElem_cons_succ, List.getElem_cons_zero, Act.put, List.setIfInBounds_toArray, List.set_cons_zero, List.set_cons_succ]
  refine wpAnyH_ready (rs := [4]) (by kernel_rfl) (by simp) ?_
  refine AllReadyH.cons rfl (fun K hK => ?_) AllReadyH.nil
  try simp only [List.getElem_toArray, List.getElem_cons_succ, List.getElem_cons_zero]
  go_simp
  (refine (HEG.out rb cc _ (hor.mono (by simp only [World.size_drew]; omega)) (by have := hgh.size; omega)).mono ?_; rintro e w3 ⟨a3, c3, ms, rfl, hoe, hms, g3⟩; have hs9 := HSG.out _ (grew_tr hgh g3))
  refine hK.out _ _ ?_ (fun hHeld => ?_)
  · (try dsimp only); (first | with_reducible assumption | with_reducible exact HSG.out _ (grew_d (Below.refl _ _)))
  clear hK K
  try simp only [List.getElem_toArray, List.getElem_cons_succ, List.getElem_cons_zero, Act.put, List.setIfInBounds_toArray, List.set_cons_zero, List.set_cons_succ]
  refine wpAnyH_ready (rs := [5]) (by kernel_rfl) (by simp) ?_
  refine AllReadyH.cons rfl (fun K hK => ?_) AllReadyH.nil
  try simp only [List.getElem_toArray, List.getElem_cons_succ, List.getElem_cons_zero]
  go_simp
  refine hK.out _ _ ?_ (fun hHeld => ?_)
  · (try dsimp only); (first | with_reducible assumption | with_reducible exact HSG.out _ (grew_d (Below.refl _ _)))
  clear hK K
  try simp only [List.getElem_toArray, List.getElem_cons_succ, List.getElem_cons_zero, Act.put, List.setIfInBounds_toArray, List.set_cons_zero, List.set_cons_succ]
  refine wpAnyH_done (by kernel_rfl) ?_ _
  have HG3 := Lib.hid (show Grew w w3 from grew_tr GO.out (grew_tr hgh g3))
  clear hs8 hs9 hor hgh g3
  go_wp2
  go_ret
  exact ⟨a3, c3, ms, rfl, hoe, hms, HG3.out⟩
set_option maxRecDepth 100000 in
set_option maxHeartbeats 4000000 in
theorem specL7Step5 (pa : Option Addr) (pn pc : Nat) (ps : List Prc) (sa : Option Addr) (sn sc : Nat) (ss : List Sum) (xa : Option Addr) (xc : Nat) (xs : List Itv) (lo hi : Int) (d a b rel ilo ihi to pcc : Int) (w : World) (hr : RdP w pa pn ps) (hpn : pn ≤ 9223372036854775807) (hp : prgOkB ps = true) (hss : RdL ESum 3 w sa sn ss) (hsn : sn = pn) (hx : RdL EItv 2 w xa 4 xs) (hs : stOkB true xs lo hi = true) (hpc : 0 ≤ pcc ∧ pcc < 10) (hi0 : insOkB ⟨5, d, a, b, rel, ilo, ihi, to⟩ pn 10 = true) :
    Calls Tryz.prog 71 #[.agg #[.slice pa pn pc], .slice sa sn sc, Ins.v ⟨5, d, a, b, rel, ilo, ihi, to⟩, .int .i64 pcc, .agg #[.bool true, .slice xa 4 xc, .int .i64 lo, .int .i64 hi]] w (RetEb (edgesI ps ss ⟨5, d, a, b, rel, ilo, ihi, to⟩ pcc xs ⟨lo, hi⟩) w.heap.size w) := by
  obtain ⟨-, hD, hA, hB, hT⟩ := insParts hi0
  have HV : Hid (edgesI ps ss ⟨5, d, a, b, rel, ilo, ihi, to⟩ pcc xs ⟨lo, hi⟩ = optA (some (setI xs d ⟨ilo, ihi⟩, ⟨lo, hi⟩)) (pcc + 1)) := Lib.hid (by simp [edgesI, actI])
  rw [HV.out]
  simp only at hD
  have HSET := Lib.hid (fun B rb cc W (h : OwnR W B rb cc xs) => specL7Set B rb cc xs lo hi d ⟨ilo, ihi⟩ W h hD)
  obtain ⟨zs, hzs⟩ : ∃ zs, setI xs d ⟨ilo, ihi⟩ = zs := ⟨_, rfl⟩
  rw [hzs] at HSET ⊢
  have HEG := Lib.hid (fun rb cc W (h : OwnR W w.heap.size rb cc zs) (hB : w.heap.size ≤ W.heap.size) => (specL7Edge (pcc + 1) (some (zs, ⟨lo, hi⟩)) rb cc w.heap.size W (by rintro z hz; cases hz; exact h) hB :
    Calls Tryz.prog 114 #[.int .i64 (pcc + 1), .agg #[.bool true, .slice (some ⟨rb, 0, none⟩) 4 cc, .int .i64 lo, .int .i64 hi]] W (RetEb (optA (some (zs, ⟨lo, hi⟩)) (pcc + 1)) w.heap.size W)))
  obtain ⟨es, hes⟩ : ∃ es, optA (some (zs, (⟨lo, hi⟩ : Itv))) (pcc + 1) = es := ⟨_, rfl⟩
  rw [hes] at HEG ⊢
  have HX := Lib.hid hx
  clear HV hes hzs hr hp hss hsn hx hs hi0 hD hA hB hT
  obtain ⟨hpc1, hpc2⟩ := hpc
  go_enter Tryz.func71, Tryz.ntmps71
  go_upto_region 3 with fail
  refine wp_letH ?_
  intro E hE
  have GO := Lib.hid (show Grew w E from by rw [hE]; exact gr)
  have q0 : E.cell? ⟨w.heap.size + 1 + 1, 0, none⟩ = some (.bool true) := by rw [hE]; simp [go_sem]
  have q1 : E.cell? ⟨w.heap.size + 1 + 1, 1, none⟩ = some (.slice xa 4 xc) := by rw [hE]; simp [go_sem]
  have q2 : E.cell? ⟨w.heap.size + 1 + 1, 2, none⟩ = some (.int .i64 lo) := by rw [hE]; simp [go_sem]
  have q3 : E.cell? ⟨w.heap.size + 1 + 1, 3, none⟩ = some (.int .i64 hi) := by rw [hE]; simp [go_sem]
  have q4 : E.cell? ⟨w.heap.size + 1, 0, none⟩ = some (.int .i64 (5 : Int)) := by rw [hE]; simp [go_sem]
  have q5 : E.cell? ⟨w.heap.size + 1, 1, none⟩ = some (.int .i64 d) := by rw [hE]; simp [go_sem]
  have q6 : E.cell? ⟨w.heap.size + 1, 2, none⟩ = some (.int .i64 a) := by rw [hE]; simp [go_sem]
  have q7 : E.cell? ⟨w.heap.size + 1, 3, none⟩ = some (.int .i64 b) := by rw [hE]; simp [go_sem]
  have q8 : E.cell? ⟨w.heap.size + 1, 4, none⟩ = some (.int .i64 rel) := by rw [hE]; simp [go_sem]
  have q9 : E.cell? ⟨w.heap.size + 1, 5, none⟩ = some (.int .i64 ilo) := by rw [hE]; simp [go_sem]
  have q10 : E.cell? ⟨w.heap.size + 1, 6, none⟩ = some (.int .i64 ihi) := by rw [hE]; simp [go_sem]
  have q11 : E.cell? ⟨w.heap.size + 1, 7, none⟩ = some (.int .i64 to) := by rw [hE]; simp [go_sem]
  have hszE : w.heap.size + 1 + 1 + 1 ≤ E.heap.size := by rw [hE]; simp only [World.size_alloc]; omega
  have HSG := Lib.hid (fun W (g : Grew E W) => (⟨(g.cell (p := ⟨w.heap.size + 1 + 1, 0, none⟩) (World.block_lt_of_cell? _ _ q0)).trans q0, (g.cell (p := ⟨w.heap.size + 1 + 1, 1, none⟩) (World.block_lt_of_cell? _ _ q1)).trans q1, (g.cell (p := ⟨w.heap.size + 1 + 1, 2, none⟩) (World.block_lt_of_cell? _ _ q2)).trans q2, (g.cell (p := ⟨w.heap.size + 1 + 1, 3, none⟩) (World.block_lt_of_cell? _ _ q3)).trans q3, (g.cell (p := ⟨w.heap.size + 1, 0, none⟩) (World.block_lt_of_cell? _ _ q4)).trans q4, (g.cell (p := ⟨w.heap.size + 1, 1, none⟩) (World.block_lt_of_cell? _ _ q5)).trans q5, (g.cell (p := ⟨w.heap.size + 1, 2, none⟩) (World.block_lt_of_cell? _ _ q6)).trans q6, (g.cell (p := ⟨w.heap.size + 1, 3, none⟩) (World.block_lt_of_cell? _ _ q7)).trans q7, (g.cell (p := ⟨w.heap.size + 1, 4, none⟩) (World.block_lt_of_cell? _ _ q8)).trans q8, (g.cell (p := ⟨w.heap.size + 1, 5, none⟩) (World.block_lt_of_cell? _ _ q9)).trans q9, (g.cell (p := ⟨w.heap.size + 1, 6, none⟩) (World.block_lt_of_cell? _ _ q10)).trans q10, (g.cell (p := ⟨w.heap.size + 1, 7, none⟩) (World.block_lt_of_cell? _ _ q11)).trans q11⟩ : W.cell? ⟨w.heap.size + 1 + 1, 0, none⟩ = some (.bool true) ∧ W.cell? ⟨w.heap.size + 1 + 1, 1, none⟩ = some (.slice xa 4 xc) ∧ W.cell? ⟨w.heap.size + 1 + 1, 2, none⟩ = some (.int .i64 lo) ∧ W.cell? ⟨w.heap.size + 1 + 1, 3, none⟩ = some (.int .i64 hi) ∧ W.cell? ⟨w.heap.size + 1, 0, none⟩ = some (.int .i64 (5 : Int)) ∧ W.cell? ⟨w.heap.size + 1, 1, none⟩ = some (.int .i64 d) ∧ W.cell? ⟨w.heap.size + 1, 2, none⟩ = some (.int .i64 a) ∧ W.cell? ⟨w.heap.size + 1, 3, none⟩ = some (.int .i64 b) ∧ W.cell? ⟨w.heap.size + 1, 4, none⟩ = some (.int .i64 rel) ∧ W.cell? ⟨w.heap.size + 1, 5, none⟩ = some (.int .i64 ilo) ∧ W.cell? ⟨w.heap.size + 1, 6, none⟩ = some (.int .i64 ihi) ∧ W.cell? ⟨w.heap.size + 1, 7, none⟩ = some (.int .i64 to)))
  clear hE q0 q1 q2 q3 q4 q5 q6 q7 q8 q9 q10 q11
  refine wp_region_held_drew (S := (fun W => W.cell? ⟨w.heap.size + 1 + 1, 0, none⟩ = some (.bool true) ∧ W.cell? ⟨w.heap.size + 1 + 1, 1, none⟩ = some (.slice xa 4 xc) ∧ W.cell? ⟨w.heap.size + 1 + 1, 2, none⟩ = some (.int .i64 lo) ∧ W.cell? ⟨w.heap.size + 1 + 1, 3, none⟩ = some (.int .i64 hi) ∧ W.cell? ⟨w.heap.size + 1, 0, none⟩ = some (.int .i64 (5 : Int)) ∧ W.cell? ⟨w.heap.size + 1, 1, none⟩ = some (.int .i64 d) ∧ W.cell? ⟨w.heap.size + 1, 2, none⟩ = some (.int .i64 a) ∧ W.cell? ⟨w.heap.size + 1, 3, none⟩ = some (.int .i64 b) ∧ W.cell? ⟨w.heap.size + 1, 4, none⟩ = some (.int .i64 rel) ∧ W.cell? ⟨w.heap.size + 1, 5, none⟩ = some (.int .i64 ilo) ∧ W.cell? ⟨w.heap.size + 1, 6, none⟩ = some (.int .i64 ihi) ∧ W.cell? ⟨w.heap.size + 1, 7, none⟩ = some (.int .i64 to))) (by kernel_rfl) ?_ (fun hHeld => ?_)
  · (try dsimp only); (first | with_reducible assumption | with_reducible exact HSG.out _ (grew_d (Below.refl _ _)))
  refine wpAnyH_take (i := 0) (v := ?_) rfl (by kernel_rfl) (by kernel_rfl) (by kernel_rfl) (fun _ _ _ h => h) (Or.inl ⟨by rfl, ?_⟩) (by assumption) ?_
  rotate_left
  · (intro w hSw; (try dsimp only at hSw); go_simp; try with_reducible rfl)
  try simp only [List.getElem_toArray, List.getElem_cons_succ, List.getElem_cons_zero, Act.put, List.setIfInBounds_toArray, List.set_cons_zero, List.set_cons_succ]
  refine wpAnyH_take (i := 1) (v := ?_) rfl (by kernel_rfl) (by kernel_rfl) (by kernel_rfl) (fun _ _ _ h => h) (Or.inl ⟨by rfl, ?_⟩) (by assumption) ?_
  rotate_left
  · (intro w hSw; (try dsimp only at hSw); go_simp; try with_reducible rfl)
  try simp only [List.getElem_toArray, List.getElem_cons_succ, List.getElem_cons_zero, Act.put, List.setIfInBounds_toArray, List.set_cons_zero, List.set_cons_succ]
  refine wpAnyH_take (i := 2) (v := ?_) rfl (by kernel_rfl) (by kernel_rfl) (by kernel_rfl) (fun _ _ _ h => h) (Or.inl ⟨by rfl, ?_⟩) (by assumption) ?_
  rotate_left
  · (intro w hSw; (try dsimp only at hSw); go_simp; try with_reducible rfl)
  try simp only [List.getElem_toArray, List.getElem_cons_succ, List.getElem_cons_zero, Act.put, List.setIfInBounds_toArray, List.set_cons_zero, List.set_cons_succ]
  refine wpAnyH_take (i := 4) (v := ?_) rfl (by kernel_rfl) (by kernel_rfl) (by kernel_rfl) (fun _ _ _ h => h) (Or.inl ⟨by rfl, ?_⟩) (by assumption) ?_
  rotate_left
  · (intro w hSw; (try dsimp only at hSw); go_simp; try with_reducible rfl)
  try simp only [List.getElem_toArray, List.getElem_cons_succ, List.getElem_cons_zero, Act.put, List.setIfInBounds_toArray, List.set_cons_zero, List.set_cons_succ]
  refine wpAnyH_take (i := 5) (v := ?_) rfl (by kernel_rfl) (by kernel_rfl) (by kernel_rfl) (fun _ _ _ h => h) (Or.inl ⟨by rfl, ?_⟩) (by assumption) ?_
  rotate_left
  · (intro w hSw; (try dsimp only at hSw); go_simp; try with_reducible rfl)
  try simp only [List.getElem_toArray, List.getElem_cons_succ, List.getElem_cons_zero, Act.put, List.setIfInBounds_toArray, List.set_cons_zero, List.set_cons_succ]
  refine wpAnyH_take (i := 6) (v := ?_) rfl (by kernel_rfl) (by kernel_rfl) (by kernel_rfl) (fun _ _ _ h => h) (Or.inl ⟨by rfl, ?_⟩) (by assumption) ?_
  rotate_left
  · (intro w hSw; (try dsimp only at hSw); go_simp; try with_reducible rfl)
  try simp only [List.getElem_toArray, List.getElem_cons_succ, List.getElem_cons_zero, Act.put, List.setIfInBounds_toArray, List.set_cons_zero, List.set_cons_succ]
  refine wpAnyH_take (i := 7) (v := ?_) rfl (by kernel_rfl) (by kernel_rfl) (by kernel_rfl) (fun _ _ _ h => h) (Or.inl ⟨by rfl, ?_⟩) (by assumption) ?_
  rotate_left
  · (intro w hSw; (try dsimp only at hSw); go_simp; try with_reducible rfl)
  try simp only [List.getElem_toArray, List.getElem_cons_succ, List.getElem_cons_zero, Act.put, List.setIfInBounds_toArray, List.set_cons_zero, List.set_cons_succ]
  refine wpAnyH_take (i := 8) (v := ?_) rfl (by kernel_rfl) (by kernel_rfl) (by kernel_rfl) (fun _ _ _ h => h) (Or.inl ⟨by rfl, ?_⟩) (by assumption) ?_
  rotate_left
  · (intro w hSw; (try dsimp only at hSw); go_simp; try with_reducible rfl)
  try simp only [List.getElem_toArray, List.getElem_cons_succ, List.getElem_cons_zero, Act.put, List.setIfInBounds_toArray, List.set_cons_zero, List.set_cons_succ]
  refine wpAnyH_take (i := 9) (v := ?_) rfl (by kernel_rfl) (by kernel_rfl) (by kernel_rfl) (fun _ _ _ h => h) (Or.inl ⟨by rfl, ?_⟩) (by assumption) ?_
  rotate_left
  · (intro w hSw; (try dsimp only at hSw); go_simp; try with_reducible rfl)
  try simp only [List.getElem_toArray, List.getElem_cons_succ, List.getElem_cons_zero, Act.put, List.setIfInBounds_toArray, List.set_cons_zero, List.set_cons_succ]
  refine wpAnyH_take (i := 10) (v := ?_) rfl (by kernel_rfl) (by kernel_rfl) (by kernel_rfl) (fun _ _ _ h => h) (Or.inl ⟨by rfl, ?_⟩) (by assumption) ?_
  rotate_left
  · (intro w hSw; (try dsimp only at hSw); go_simp; try with_reducible rfl)
  try simp only [List.getElem_toArray, List.getElem_cons_succ, List.getElem_cons_zero, Act.put, List.setIfInBounds_toArray, List.set_cons_zero, List.set_cons_succ]
  refine wpAnyH_ready (rs := [3]) (by kernel_rfl) (by simp) ?_
  refine AllReadyH.cons rfl (fun K hK => ?_) AllReadyH.nil
  try simp only [List.getElem_toArray, List.getElem_cons_succ, List.getElem_cons_zero]
  go_simp
  (refine (specL7Copy _ xc xs lo hi _ (HX.out.grew staysItv (grew_tr GO.out (grew_d (Below.refl _ _))))).mono ?_; rintro e wh ⟨rb, cc, rfl, hor, ga⟩; have hgh : Grew E wh := grew_tr (grew_d (Below.refl _ _)) ga; have hs8 := HSG.out _ hgh; have hrb : E.heap.size ≤ rb := (by have := hor.2.1; simpa using this); clear ga)
  refine hK.out _ _ ?_ (fun hHeld => ?_)
  · (try dsimp only); (first | with_reducible assumption | with_reducible exact HSG.out _ (grew_d (Below.refl _ _)))
  clear hK K
  try simp only [List.getElem_toArray, List.getElem_cons_succ, List.getElem_cons_zero, Act.put, List.setIfInBounds_toArray, List.set_cons_zero, List.set_cons_succ]
  refine wpAnyH_ready (rs := [11]) (by kernel_rfl) (by simp) ?_
  refine AllReadyH.cons rfl (fun K hK => ?_) AllReadyH.nil
  try simp only [List.getElem_toArray, List.getElem_cons_succ, List.getElem_cons_zero]
  go_simp
  (refine (HSET.out _ rb cc _ hor).mono ?_; rintro e w2 ⟨rfl, hoy, hc2⟩; have hs9 : w2.cell? ⟨w.heap.size + 1 + 1, 0, none⟩ = some (.bool true) ∧ w2.cell? ⟨w.heap.size + 1 + 1, 1, none⟩ = some (.slice xa 4 xc) ∧ w2.cell? ⟨w.heap.size + 1 + 1, 2, none⟩ = some (.int .i64 lo) ∧ w2.cell? ⟨w.heap.size + 1 + 1, 3, none⟩ = some (.int .i64 hi) ∧ w2.cell? ⟨w.heap.size + 1, 0, none⟩ = some (.int .i64 (5 : Int)) ∧ w2.cell? ⟨w.heap.size + 1, 1, none⟩ = some (.int .i64 d) ∧ w2.cell? ⟨w.heap.size + 1, 2, none⟩ = some (.int .i64 a) ∧ w2.cell? ⟨w.heap.size + 1, 3, none⟩ = some (.int .i64 b) ∧ w2.cell? ⟨w.heap.size + 1, 4, none⟩ = some (.int .i64 rel) ∧ w2.cell? ⟨w.heap.size + 1, 5, none⟩ = some (.int .i64 ilo) ∧ w2.cell? ⟨w.heap.size + 1, 6, none⟩ = some (.int .i64 ihi) ∧ w2.cell? ⟨w.heap.size + 1, 7, none⟩ = some (.int .i64 to) := ⟨chg_cell hc2 hs8.1 (by omega), chg_cell hc2 hs8.2.1 (by omega), chg_cell hc2 hs8.2.2.1 (by omega), chg_cell hc2 hs8.2.2.2.1 (by omega), chg_cell hc2 hs8.2.2.2.2.1 (by omega), chg_cell hc2 hs8.2.2.2.2.2.1 (by omega), chg_cell hc2 hs8.2.2.2.2.2.2.1 (by omega), chg_cell hc2 hs8.2.2.2.2.2.2.2.1 (by omega), chg_cell hc2 hs8.2.2.2.2.2.2.2.2.1 (by omega), chg_cell hc2 hs8.2.2.2.2.2.2.2.2.2.1 (by omega), chg_cell hc2 hs8.2.2.2.2.2.2.2.2.2.2.1 (by omega), chg_cell hc2 hs8.2.2.2.2.2.2.2.2.2.2.2 (by omega)⟩; have HG2 : Grew w w2 := Below.trans (grew_tr GO.out hgh) (hc2.belowB (grew_tr GO.out hgh).size (fun k hk => by subst hk; omega)))
  refine hK.out _ _ ?_ (fun hHeld => ?_)
  · (try dsimp only); (first | with_reducible assumption | with_reducible exact HSG.out _ (grew_d (Below.refl _ _)))
  clear hK K
  try simp only [List.getElem_toArray, List.getElem_cons_succ, List.getElem_cons_zero, Act.put, List.setIfInBounds_toArray, List.set_cons_zero, List.set_cons_succ]
  refine wpAnyH_ready (rs := [12]) (by kernel_rfl) (by simp) ?_
  refine AllReadyH.cons rfl (fun K hK => ?_) AllReadyH.nil
  try simp only [List.getElem_toArray, List.getElem_cons_succ, List.getElem_cons_zero]
  go_simp
  (rw [show IntKind.i64.wrap (pcc + 1) = pcc + 1 from wrapIn (by omega) (by omega)]; refine (HEG.out rb cc _ (hoy.mono (by simp only [World.size_drew]; omega)) HG2.size).mono ?_; rintro e w3 ⟨a3, c3, ms, rfl, hoe, hms, g3⟩; have hsA : w3.cell? ⟨w.heap.size + 1 + 1, 0, none⟩ = some (.bool true) ∧ w3.cell? ⟨w.heap.size + 1 + 1, 1, none⟩ = some (.slice xa 4 xc) ∧ w3.cell? ⟨w.heap.size + 1 + 1, 2, none⟩ = some (.int .i64 lo) ∧ w3.cell? ⟨w.heap.size + 1 + 1, 3, none⟩ = some (.int .i64 hi) ∧ w3.cell? ⟨w.heap.size + 1, 0, none⟩ = some (.int .i64 (5 : Int)) ∧ w3.cell? ⟨w.heap.size + 1, 1, none⟩ = some (.int .i64 d) ∧ w3.cell? ⟨w.heap.size + 1, 2, none⟩ = some (.int .i64 a) ∧ w3.cell? ⟨w.heap.size + 1, 3, none⟩ = some (.int .i64 b) ∧ w3.cell? ⟨w.heap.size + 1, 4, none⟩ = some (.int .i64 rel) ∧ w3.cell? ⟨w.heap.size + 1, 5, none⟩ = some (.int .i64 ilo) ∧ w3.cell? ⟨w.heap.size + 1, 6, none⟩ = some (.int .i64 ihi) ∧ w3.cell? ⟨w.heap.size + 1, 7, none⟩ = some (.int .i64 to) := ⟨(g3.cell (p := ⟨w.heap.size + 1 + 1, 0, none⟩) (World.block_lt_of_cell? _ _ hs9.1)).trans hs9.1, (g3.cell (p := ⟨w.heap.size + 1 + 1, 1, none⟩) (World.block_lt_of_cell? _ _ hs9.2.1)).trans hs9.2.1, (g3.cell (p := ⟨w.heap.size + 1 + 1, 2, none⟩) (World.block_lt_of_cell? _ _ hs9.2.2.1)).trans hs9.2.2.1, (g3.cell (p := ⟨w.heap.size + 1 + 1, 3, none⟩) (World.block_lt_of_cell? _ _ hs9.2.2.2.1)).trans hs9.2.2.2.1, (g3.cell (p := ⟨w.heap.size + 1, 0, none⟩) (World.block_lt_of_cell? _ _ hs9.2.2.2.2.1)).trans hs9.2.2.2.2.1, (g3.cell (p := ⟨w.heap.size + 1, 1, none⟩) (World.block_lt_of_cell? _ _ hs9.2.2.2.2.2.1)).trans hs9.2.2.2.2.2.1, (g3.cell (p := ⟨w.heap.size + 1, 2, none⟩) (World.block_lt_of_cell? _ _ hs9.2.2.2.2.2.2.1)).trans hs9.2.2.2.2.2.2.1, (g3.cell (p := ⟨w.heap.size + 1, 3, none⟩) (World.block_lt_of_cell? _ _ hs9.2.2.2.2.2.2.2.1)).trans hs9.2.2.2.2.2.2.2.1, (g3.cell (p := ⟨w.heap.size + 1, 4, none⟩) (World.block_lt_of_cell? _ _ hs9.2.2.2.2.2.2.2.2.1)).trans hs9.2.2.2.2.2.2.2.2.1, (g3.cell (p := ⟨w.heap.size + 1, 5, none⟩) (World.block_lt_of_cell? _ _ hs9.2.2.2.2.2.2.2.2.2.1)).trans hs9.2.2.2.2.2.2.2.2.2.1, (g3.cell (p := ⟨w.heap.size + 1, 6, none⟩) (World.block_lt_of_cell? _ _ hs9.2.2.2.2.2.2.2.2.2.2.1)).trans hs9.2.2.2.2.2.2.2.2.2.2.1, (g3.cell (p := ⟨w.heap.size + 1, 7, none⟩) (World.block_lt_of_cell? _ _ hs9.2.2.2.2.2.2.2.2.2.2.2)).trans hs9.2.2.2.2.2.2.2.2.2.2.2⟩)
  refine hK.out _ _ ?_ (fun hHeld => ?_)
  · (try dsimp only); (first | with_reducible assumption | with_reducible exact HSG.out _ (grew_d (Below.refl _ _)))
  clear hK K
  try simp only [List.getElem_toArray, List.getElem_cons_succ, List.getElem_cons_zero, Act.put, List.setIfInBounds_toArray, List.set_cons_zero, List.set_cons_succ]
  refine wpAnyH_ready (rs := [13]) (by kernel_rfl) (by simp) ?_
  refine AllReadyH.cons rfl (fun K hK => ?_) AllReadyH.nil
  try simp only [List.getElem_toArray, List.getElem_cons_succ, List.getElem_cons_zero]
  go_simp
  refine hK.out _ _ ?_ (fun hHeld => ?_)
  · (try dsimp only); (first | with_reducible assumption | with_reducible exact HSG.out _ (grew_d (Below.refl _ _)))
  clear hK K
  try simp only [List.getElem_toArray, List.getElem_cons_succ, List.getElem_cons_zero, Act.put, List.setIfInBounds_toArray, List.set_cons_zero, List.set_cons_succ]
  refine wpAnyH_done (by kernel_rfl) ?_ _
  have HG3 := Lib.hid (show Grew w w3 from grew_tr HG2 g3)
  clear hs8 hs9 hsA hor hoy hgh hc2 g3 HG2
  go_wp2
  go_ret
  exact ⟨a3, c3, ms, rfl, hoe, hms, HG3.out⟩
set_option maxRecDepth 100000 in
set_option maxHeartbeats 4000000 in
theorem specL7Step6 (pa : Option Addr) (pn pc : Nat) (ps : List Prc) (sa : Option Addr) (sn sc : Nat) (ss : List Sum) (xa : Option Addr) (xc : Nat) (xs : List Itv) (lo hi : Int) (d a b rel ilo ihi to pcc : Int) (w : World) (hr : RdP w pa pn ps) (hpn : pn ≤ 9223372036854775807) (hp : prgOkB ps = true) (hss : RdL ESum 3 w sa sn ss) (hsn : sn = pn) (hx : RdL EItv 2 w xa 4 xs) (hs : stOkB true xs lo hi = true) (hpc : 0 ≤ pcc ∧ pcc < 10) (hi0 : insOkB ⟨6, d, a, b, rel, ilo, ihi, to⟩ pn 10 = true) :
    Calls Tryz.prog 71 #[.agg #[.slice pa pn pc], .slice sa sn sc, Ins.v ⟨6, d, a, b, rel, ilo, ihi, to⟩, .int .i64 pcc, .agg #[.bool true, .slice xa 4 xc, .int .i64 lo, .int .i64 hi]] w (RetEb (edgesI ps ss ⟨6, d, a, b, rel, ilo, ihi, to⟩ pcc xs ⟨lo, hi⟩) w.heap.size w) := by
  have HV : Hid (edgesI ps ss ⟨6, d, a, b, rel, ilo, ihi, to⟩ pcc xs ⟨lo, hi⟩ = optA (actI ps ss ⟨6, d, a, b, rel, ilo, ihi, to⟩ xs ⟨lo, hi⟩) (pcc + 1)) := Lib.hid (by simp [edgesI])
  rw [HV.out]
  obtain ⟨-, hD, hA, hB, hT⟩ := insParts hi0
  simp only at hD hA hB
  have HC := Lib.hid (fun W (g : Grew w W) => specL7Cell6 ps ss xa xc xs lo hi d a b rel ilo ihi to W (hx.grew staysItv g) hs hD hA hB)
  obtain ⟨O, hO⟩ : ∃ o, actI ps ss ⟨6, d, a, b, rel, ilo, ihi, to⟩ xs ⟨lo, hi⟩ = o := ⟨_, rfl⟩
  rw [hO] at HC ⊢
  have hl := hx.len
  clear HV hO hr hp hss hsn hx hs hi0 hl
  obtain ⟨hpc1, hpc2⟩ := hpc
  go_enter Tryz.func71, Tryz.ntmps71
  go_wp2_with fail
  refine (HC.out _ (gr)).mono ?_
  rintro e w1 ⟨g1, rb, cc, rfl, ho⟩
  have HG1 := Lib.hid (show Grew w w1 from grew_tr (gr) g1)
  have HO := Lib.hid (fun z (hz : O = some z) => (ho z hz).mono (show w.heap.size ≤ _ by simp only [World.size_alloc]; omega))
  clear g1 ho
  go_wp2_with fail
  refine (specL7Edge (pcc + 1) O rb cc w.heap.size w1 HO.out HG1.out.size).mono ?_
  rintro e w3 ⟨a3, c3, ms, rfl, hoe, hms, g3⟩
  have HG3 := Lib.hid (show Grew w w3 from grew_tr HG1.out g3)
  clear g3
  go_wp2
  go_ret
  exact ⟨a3, c3, ms, rfl, hoe, hms, HG3.out⟩
set_option maxRecDepth 100000 in
set_option maxHeartbeats 4000000 in
theorem specL7Step7 (pa : Option Addr) (pn pc : Nat) (ps : List Prc) (sa : Option Addr) (sn sc : Nat) (ss : List Sum) (xa : Option Addr) (xc : Nat) (xs : List Itv) (lo hi : Int) (d a b rel ilo ihi to pcc : Int) (w : World) (hr : RdP w pa pn ps) (hpn : pn ≤ 9223372036854775807) (hp : prgOkB ps = true) (hss : RdL ESum 3 w sa sn ss) (hsn : sn = pn) (hx : RdL EItv 2 w xa 4 xs) (hs : stOkB true xs lo hi = true) (hpc : 0 ≤ pcc ∧ pcc < 10) (hi0 : insOkB ⟨7, d, a, b, rel, ilo, ihi, to⟩ pn 10 = true) :
    Calls Tryz.prog 71 #[.agg #[.slice pa pn pc], .slice sa sn sc, Ins.v ⟨7, d, a, b, rel, ilo, ihi, to⟩, .int .i64 pcc, .agg #[.bool true, .slice xa 4 xc, .int .i64 lo, .int .i64 hi]] w (RetEb (edgesI ps ss ⟨7, d, a, b, rel, ilo, ihi, to⟩ pcc xs ⟨lo, hi⟩) w.heap.size w) := by
  have HV : Hid (edgesI ps ss ⟨7, d, a, b, rel, ilo, ihi, to⟩ pcc xs ⟨lo, hi⟩ = optA (actI ps ss ⟨7, d, a, b, rel, ilo, ihi, to⟩ xs ⟨lo, hi⟩) (pcc + 1)) := Lib.hid (by simp [edgesI])
  rw [HV.out]
  obtain ⟨-, hD, hA, hB, hT⟩ := insParts hi0
  simp only at hD hA hB
  have HC := Lib.hid (fun W (g : Grew w W) => specL7Cell7 ps ss xa xc xs lo hi d a b rel ilo ihi to W (hx.grew staysItv g) hs hD hA hB)
  obtain ⟨O, hO⟩ : ∃ o, actI ps ss ⟨7, d, a, b, rel, ilo, ihi, to⟩ xs ⟨lo, hi⟩ = o := ⟨_, rfl⟩
  rw [hO] at HC ⊢
  have hl := hx.len
  clear HV hO hr hp hss hsn hx hs hi0 hl
  obtain ⟨hpc1, hpc2⟩ := hpc
  go_enter Tryz.func71, Tryz.ntmps71
  go_wp2_with fail
  refine (HC.out _ (gr)).mono ?_
  rintro e w1 ⟨g1, rb, cc, rfl, ho⟩
  have HG1 := Lib.hid (show Grew w w1 from grew_tr (gr) g1)
  have HO := Lib.hid (fun z (hz : O = some z) => (ho z hz).mono (show w.heap.size ≤ _ by simp only [World.size_alloc]; omega))
  clear g1 ho
  go_wp2_with fail
  refine (specL7Edge (pcc + 1) O rb cc w.heap.size w1 HO.out HG1.out.size).mono ?_
  rintro e w3 ⟨a3, c3, ms, rfl, hoe, hms, g3⟩
  have HG3 := Lib.hid (show Grew w w3 from grew_tr HG1.out g3)
  clear g3
  go_wp2
  go_ret
  exact ⟨a3, c3, ms, rfl, hoe, hms, HG3.out⟩
set_option maxRecDepth 100000 in
set_option maxHeartbeats 4000000 in
theorem specL7Step10 (pa : Option Addr) (pn pc : Nat) (ps : List Prc) (sa : Option Addr) (sn sc : Nat) (ss : List Sum) (xa : Option Addr) (xc : Nat) (xs : List Itv) (lo hi : Int) (d a b rel ilo ihi to pcc : Int) (w : World) (hr : RdP w pa pn ps) (hpn : pn ≤ 9223372036854775807) (hp : prgOkB ps = true) (hss : RdL ESum 3 w sa sn ss) (hsn : sn = pn) (hx : RdL EItv 2 w xa 4 xs) (hs : stOkB true xs lo hi = true) (hpc : 0 ≤ pcc ∧ pcc < 10) (hi0 : insOkB ⟨10, d, a, b, rel, ilo, ihi, to⟩ pn 10 = true) :
    Calls Tryz.prog 71 #[.agg #[.slice pa pn pc], .slice sa sn sc, Ins.v ⟨10, d, a, b, rel, ilo, ihi, to⟩, .int .i64 pcc, .agg #[.bool true, .slice xa 4 xc, .int .i64 lo, .int .i64 hi]] w (RetEb (edgesI ps ss ⟨10, d, a, b, rel, ilo, ihi, to⟩ pcc xs ⟨lo, hi⟩) w.heap.size w) := by
  have HV : Hid (edgesI ps ss ⟨10, d, a, b, rel, ilo, ihi, to⟩ pcc xs ⟨lo, hi⟩ = optA (actI ps ss ⟨10, d, a, b, rel, ilo, ihi, to⟩ xs ⟨lo, hi⟩) (pcc + 1)) := Lib.hid (by simp [edgesI])
  rw [HV.out]
  obtain ⟨-, hD, hA, hB, hT⟩ := insParts hi0
  simp only at hD hA hB
  have HC := Lib.hid (fun W (g : Grew w W) => specL7Call pa pn pc ps sa sn sc ss xa xc xs lo hi d a b rel ilo ihi to W (hr.grew g) hpn hp (by simpa [tailB] using hT) (hss.grew staysSum g) hsn (hx.grew staysItv g) hs hD hA)
  obtain ⟨O, hO⟩ : ∃ o, actI ps ss ⟨10, d, a, b, rel, ilo, ihi, to⟩ xs ⟨lo, hi⟩ = o := ⟨_, rfl⟩
  rw [hO] at HC ⊢
  have hl := hx.len
  clear HV hO hr hp hss hsn hx hs hi0 hl
  obtain ⟨hpc1, hpc2⟩ := hpc
  go_enter Tryz.func71, Tryz.ntmps71
  go_wp2_with fail
  refine (HC.out _ (gr)).mono ?_
  rintro e w1 ⟨g1, rb, cc, rfl, ho⟩
  have HG1 := Lib.hid (show Grew w w1 from grew_tr (gr) g1)
  have HO := Lib.hid (fun z (hz : O = some z) => (ho z hz).mono (show w.heap.size ≤ _ by simp only [World.size_alloc]; omega))
  clear g1 ho
  go_wp2_with fail
  refine (specL7Edge (pcc + 1) O rb cc w.heap.size w1 HO.out HG1.out.size).mono ?_
  rintro e w3 ⟨a3, c3, ms, rfl, hoe, hms, g3⟩
  have HG3 := Lib.hid (show Grew w w3 from grew_tr HG1.out g3)
  clear g3
  go_wp2
  go_ret
  exact ⟨a3, c3, ms, rfl, hoe, hms, HG3.out⟩
set_option maxRecDepth 100000 in
set_option maxHeartbeats 4000000 in
theorem specL7Step11 (pa : Option Addr) (pn pc : Nat) (ps : List Prc) (sa : Option Addr) (sn sc : Nat) (ss : List Sum) (xa : Option Addr) (xc : Nat) (xs : List Itv) (lo hi : Int) (d a b rel ilo ihi to pcc : Int) (w : World) (hr : RdP w pa pn ps) (hpn : pn ≤ 9223372036854775807) (hp : prgOkB ps = true) (hss : RdL ESum 3 w sa sn ss) (hsn : sn = pn) (hx : RdL EItv 2 w xa 4 xs) (hs : stOkB true xs lo hi = true) (hpc : 0 ≤ pcc ∧ pcc < 10) (hi0 : insOkB ⟨11, d, a, b, rel, ilo, ihi, to⟩ pn 10 = true) :
    Calls Tryz.prog 71 #[.agg #[.slice pa pn pc], .slice sa sn sc, Ins.v ⟨11, d, a, b, rel, ilo, ihi, to⟩, .int .i64 pcc, .agg #[.bool true, .slice xa 4 xc, .int .i64 lo, .int .i64 hi]] w (RetEb (edgesI ps ss ⟨11, d, a, b, rel, ilo, ihi, to⟩ pcc xs ⟨lo, hi⟩) w.heap.size w) := by
  have HV : Hid (edgesI ps ss ⟨11, d, a, b, rel, ilo, ihi, to⟩ pcc xs ⟨lo, hi⟩ = optA (((relSt (relI rel (nthI xs a) (nthI xs b)) xs a b).map fun zs => (zs, (⟨lo, hi⟩ : Itv)))) (pcc + 1)) := Lib.hid (by simp [edgesI, actI])
  rw [HV.out]
  obtain ⟨-, hD, hA, hB, hT⟩ := insParts hi0
  simp only at hD hA hB
  have HC := Lib.hid (fun W (g : Grew w W) => specL7Holds xa xc xs lo hi ⟨11, d, a, b, rel, ilo, ihi, to⟩ W (hx.grew staysItv g) hs hA hB (by simpa [tailB] using hT))
  obtain ⟨O, hO⟩ : ∃ o, ((relSt (relI rel (nthI xs a) (nthI xs b)) xs a b).map fun zs => (zs, (⟨lo, hi⟩ : Itv))) = o := ⟨_, rfl⟩
  rw [hO] at HC ⊢
  have hl := hx.len
  clear HV hO hr hp hss hsn hx hs hi0 hl
  obtain ⟨hpc1, hpc2⟩ := hpc
  go_enter Tryz.func71, Tryz.ntmps71
  go_wp2_with fail
  refine (HC.out _ (gr)).mono ?_
  rintro e w1 ⟨g1, rb, cc, rfl, ho⟩
  have HG1 := Lib.hid (show Grew w w1 from grew_tr (gr) g1)
  have HO := Lib.hid (fun z (hz : O = some z) => (ho z hz).mono (show w.heap.size ≤ _ by simp only [World.size_alloc]; omega))
  clear g1 ho
  go_wp2_with fail
  refine (specL7Edge (pcc + 1) O rb cc w.heap.size w1 HO.out HG1.out.size).mono ?_
  rintro e w3 ⟨a3, c3, ms, rfl, hoe, hms, g3⟩
  have HG3 := Lib.hid (show Grew w w3 from grew_tr HG1.out g3)
  clear g3
  go_wp2
  go_ret
  exact ⟨a3, c3, ms, rfl, hoe, hms, HG3.out⟩
set_option maxRecDepth 100000 in
set_option maxHeartbeats 4000000 in
theorem specL7Step1 (pa : Option Addr) (pn pc : Nat) (ps : List Prc) (sa : Option Addr) (sn sc : Nat) (ss : List Sum) (xa : Option Addr) (xc : Nat) (xs : List Itv) (lo hi : Int) (d a b rel ilo ihi to pcc : Int) (w : World) (hr : RdP w pa pn ps) (hpn : pn ≤ 9223372036854775807) (hp : prgOkB ps = true) (hss : RdL ESum 3 w sa sn ss) (hsn : sn = pn) (hx : RdL EItv 2 w xa 4 xs) (hs : stOkB true xs lo hi = true) (hpc : 0 ≤ pcc ∧ pcc < 10) (hi0 : insOkB ⟨1, d, a, b, rel, ilo, ihi, to⟩ pn 10 = true) :
    Calls Tryz.prog 71 #[.agg #[.slice pa pn pc], .slice sa sn sc, Ins.v ⟨1, d, a, b, rel, ilo, ihi, to⟩, .int .i64 pcc, .agg #[.bool true, .slice xa 4 xc, .int .i64 lo, .int .i64 hi]] w (RetEb (edgesI ps ss ⟨1, d, a, b, rel, ilo, ihi, to⟩ pcc xs ⟨lo, hi⟩) w.heap.size w) := by
  have HV : Hid (edgesI ps ss ⟨1, d, a, b, rel, ilo, ihi, to⟩ pcc xs ⟨lo, hi⟩ = optA (actI ps ss ⟨1, d, a, b, rel, ilo, ihi, to⟩ xs ⟨lo, hi⟩) (pcc + 1)) := Lib.hid (by simp [edgesI])
  rw [HV.out]
  obtain ⟨-, hD, hA, hB, hT⟩ := insParts hi0
  simp only at hD hA hB
  have HC := Lib.hid (fun W (g : Grew w W) => specL7Do1 ps ss xa xc xs lo hi d a b rel ilo ihi to W (hx.grew staysItv g) hs hD hA hB)
  obtain ⟨O, hO⟩ : ∃ o, actI ps ss ⟨1, d, a, b, rel, ilo, ihi, to⟩ xs ⟨lo, hi⟩ = o := ⟨_, rfl⟩
  rw [hO] at HC ⊢
  have hl := hx.len
  clear HV hO hr hp hss hsn hx hs hi0 hl
  obtain ⟨hpc1, hpc2⟩ := hpc
  go_enter Tryz.func71, Tryz.ntmps71
  go_wp2_with fail
  refine (HC.out _ (gr)).mono ?_
  rintro e w1 ⟨g1, rb, cc, rfl, ho⟩
  have HG1 := Lib.hid (show Grew w w1 from grew_tr (gr) g1)
  have HO := Lib.hid (fun z (hz : O = some z) => (ho z hz).mono (show w.heap.size ≤ _ by simp only [World.size_alloc]; omega))
  clear g1 ho
  go_wp2_with fail
  refine (specL7Edge (pcc + 1) O rb cc w.heap.size w1 HO.out HG1.out.size).mono ?_
  rintro e w3 ⟨a3, c3, ms, rfl, hoe, hms, g3⟩
  have HG3 := Lib.hid (show Grew w w3 from grew_tr HG1.out g3)
  clear g3
  go_wp2
  go_ret
  exact ⟨a3, c3, ms, rfl, hoe, hms, HG3.out⟩
set_option maxRecDepth 100000 in
set_option maxHeartbeats 4000000 in
theorem specL7Step2 (pa : Option Addr) (pn pc : Nat) (ps : List Prc) (sa : Option Addr) (sn sc : Nat) (ss : List Sum) (xa : Option Addr) (xc : Nat) (xs : List Itv) (lo hi : Int) (d a b rel ilo ihi to pcc : Int) (w : World) (hr : RdP w pa pn ps) (hpn : pn ≤ 9223372036854775807) (hp : prgOkB ps = true) (hss : RdL ESum 3 w sa sn ss) (hsn : sn = pn) (hx : RdL EItv 2 w xa 4 xs) (hs : stOkB true xs lo hi = true) (hpc : 0 ≤ pcc ∧ pcc < 10) (hi0 : insOkB ⟨2, d, a, b, rel, ilo, ihi, to⟩ pn 10 = true) :
    Calls Tryz.prog 71 #[.agg #[.slice pa pn pc], .slice sa sn sc, Ins.v ⟨2, d, a, b, rel, ilo, ihi, to⟩, .int .i64 pcc, .agg #[.bool true, .slice xa 4 xc, .int .i64 lo, .int .i64 hi]] w (RetEb (edgesI ps ss ⟨2, d, a, b, rel, ilo, ihi, to⟩ pcc xs ⟨lo, hi⟩) w.heap.size w) := by
  have HV : Hid (edgesI ps ss ⟨2, d, a, b, rel, ilo, ihi, to⟩ pcc xs ⟨lo, hi⟩ = optA (actI ps ss ⟨2, d, a, b, rel, ilo, ihi, to⟩ xs ⟨lo, hi⟩) (pcc + 1)) := Lib.hid (by simp [edgesI])
  rw [HV.out]
  obtain ⟨-, hD, hA, hB, hT⟩ := insParts hi0
  simp only at hD hA hB
  have HC := Lib.hid (fun W (g : Grew w W) => specL7Do2 ps ss xa xc xs lo hi d a b rel ilo ihi to W (hx.grew staysItv g) hs hD hA hB)
  obtain ⟨O, hO⟩ : ∃ o, actI ps ss ⟨2, d, a, b, rel, ilo, ihi, to⟩ xs ⟨lo, hi⟩ = o := ⟨_, rfl⟩
  rw [hO] at HC ⊢
  have hl := hx.len
  clear HV hO hr hp hss hsn hx hs hi0 hl
  obtain ⟨hpc1, hpc2⟩ := hpc
  go_enter Tryz.func71, Tryz.ntmps71
  go_wp2_with fail
  refine (HC.out _ (gr)).mono ?_
  rintro e w1 ⟨g1, rb, cc, rfl, ho⟩
  have HG1 := Lib.hid (show Grew w w1 from grew_tr (gr) g1)
  have HO := Lib.hid (fun z (hz : O = some z) => (ho z hz).mono (show w.heap.size ≤ _ by simp only [World.size_alloc]; omega))
  clear g1 ho
  go_wp2_with fail
  refine (specL7Edge (pcc + 1) O rb cc w.heap.size w1 HO.out HG1.out.size).mono ?_
  rintro e w3 ⟨a3, c3, ms, rfl, hoe, hms, g3⟩
  have HG3 := Lib.hid (show Grew w w3 from grew_tr HG1.out g3)
  clear g3
  go_wp2
  go_ret
  exact ⟨a3, c3, ms, rfl, hoe, hms, HG3.out⟩
set_option maxRecDepth 100000 in
set_option maxHeartbeats 4000000 in
theorem specL7Step3 (pa : Option Addr) (pn pc : Nat) (ps : List Prc) (sa : Option Addr) (sn sc : Nat) (ss : List Sum) (xa : Option Addr) (xc : Nat) (xs : List Itv) (lo hi : Int) (d a b rel ilo ihi to pcc : Int) (w : World) (hr : RdP w pa pn ps) (hpn : pn ≤ 9223372036854775807) (hp : prgOkB ps = true) (hss : RdL ESum 3 w sa sn ss) (hsn : sn = pn) (hx : RdL EItv 2 w xa 4 xs) (hs : stOkB true xs lo hi = true) (hpc : 0 ≤ pcc ∧ pcc < 10) (hi0 : insOkB ⟨3, d, a, b, rel, ilo, ihi, to⟩ pn 10 = true) :
    Calls Tryz.prog 71 #[.agg #[.slice pa pn pc], .slice sa sn sc, Ins.v ⟨3, d, a, b, rel, ilo, ihi, to⟩, .int .i64 pcc, .agg #[.bool true, .slice xa 4 xc, .int .i64 lo, .int .i64 hi]] w (RetEb (edgesI ps ss ⟨3, d, a, b, rel, ilo, ihi, to⟩ pcc xs ⟨lo, hi⟩) w.heap.size w) := by
  have HV : Hid (edgesI ps ss ⟨3, d, a, b, rel, ilo, ihi, to⟩ pcc xs ⟨lo, hi⟩ = optA (actI ps ss ⟨3, d, a, b, rel, ilo, ihi, to⟩ xs ⟨lo, hi⟩) (pcc + 1)) := Lib.hid (by simp [edgesI])
  rw [HV.out]
  obtain ⟨-, hD, hA, hB, hT⟩ := insParts hi0
  simp only at hD hA hB
  have HC := Lib.hid (fun W (g : Grew w W) => specL7Do3 ps ss xa xc xs lo hi d a b rel ilo ihi to W (hx.grew staysItv g) hs hD hA hB)
  obtain ⟨O, hO⟩ : ∃ o, actI ps ss ⟨3, d, a, b, rel, ilo, ihi, to⟩ xs ⟨lo, hi⟩ = o := ⟨_, rfl⟩
  rw [hO] at HC ⊢
  have hl := hx.len
  clear HV hO hr hp hss hsn hx hs hi0 hl
  obtain ⟨hpc1, hpc2⟩ := hpc
  go_enter Tryz.func71, Tryz.ntmps71
  go_wp2_with fail
  refine (HC.out _ (gr)).mono ?_
  rintro e w1 ⟨g1, rb, cc, rfl, ho⟩
  have HG1 := Lib.hid (show Grew w w1 from grew_tr (gr) g1)
  have HO := Lib.hid (fun z (hz : O = some z) => (ho z hz).mono (show w.heap.size ≤ _ by simp only [World.size_alloc]; omega))
  clear g1 ho
  go_wp2_with fail
  refine (specL7Edge (pcc + 1) O rb cc w.heap.size w1 HO.out HG1.out.size).mono ?_
  rintro e w3 ⟨a3, c3, ms, rfl, hoe, hms, g3⟩
  have HG3 := Lib.hid (show Grew w w3 from grew_tr HG1.out g3)
  clear g3
  go_wp2
  go_ret
  exact ⟨a3, c3, ms, rfl, hoe, hms, HG3.out⟩
set_option maxRecDepth 100000 in
set_option maxHeartbeats 4000000 in
theorem specL7Step4 (pa : Option Addr) (pn pc : Nat) (ps : List Prc) (sa : Option Addr) (sn sc : Nat) (ss : List Sum) (xa : Option Addr) (xc : Nat) (xs : List Itv) (lo hi : Int) (d a b rel ilo ihi to pcc : Int) (w : World) (hr : RdP w pa pn ps) (hpn : pn ≤ 9223372036854775807) (hp : prgOkB ps = true) (hss : RdL ESum 3 w sa sn ss) (hsn : sn = pn) (hx : RdL EItv 2 w xa 4 xs) (hs : stOkB true xs lo hi = true) (hpc : 0 ≤ pcc ∧ pcc < 10) (hi0 : insOkB ⟨4, d, a, b, rel, ilo, ihi, to⟩ pn 10 = true) :
    Calls Tryz.prog 71 #[.agg #[.slice pa pn pc], .slice sa sn sc, Ins.v ⟨4, d, a, b, rel, ilo, ihi, to⟩, .int .i64 pcc, .agg #[.bool true, .slice xa 4 xc, .int .i64 lo, .int .i64 hi]] w (RetEb (edgesI ps ss ⟨4, d, a, b, rel, ilo, ihi, to⟩ pcc xs ⟨lo, hi⟩) w.heap.size w) := by
  have HV : Hid (edgesI ps ss ⟨4, d, a, b, rel, ilo, ihi, to⟩ pcc xs ⟨lo, hi⟩ = optA (actI ps ss ⟨4, d, a, b, rel, ilo, ihi, to⟩ xs ⟨lo, hi⟩) (pcc + 1)) := Lib.hid (by simp [edgesI])
  rw [HV.out]
  obtain ⟨-, hD, hA, hB, hT⟩ := insParts hi0
  simp only at hD hA hB
  have HC := Lib.hid (fun W (g : Grew w W) => specL7Do4 ps ss xa xc xs lo hi d a b rel ilo ihi to W (hx.grew staysItv g) hs hD hA hB)
  obtain ⟨O, hO⟩ : ∃ o, actI ps ss ⟨4, d, a, b, rel, ilo, ihi, to⟩ xs ⟨lo, hi⟩ = o := ⟨_, rfl⟩
  rw [hO] at HC ⊢
  have hl := hx.len
  clear HV hO hr hp hss hsn hx hs hi0 hl
  obtain ⟨hpc1, hpc2⟩ := hpc
  go_enter Tryz.func71, Tryz.ntmps71
  go_wp2_with fail
  refine (HC.out _ (gr)).mono ?_
  rintro e w1 ⟨g1, rb, cc, rfl, ho⟩
  have HG1 := Lib.hid (show Grew w w1 from grew_tr (gr) g1)
  have HO := Lib.hid (fun z (hz : O = some z) => (ho z hz).mono (show w.heap.size ≤ _ by simp only [World.size_alloc]; omega))
  clear g1 ho
  go_wp2_with fail
  refine (specL7Edge (pcc + 1) O rb cc w.heap.size w1 HO.out HG1.out.size).mono ?_
  rintro e w3 ⟨a3, c3, ms, rfl, hoe, hms, g3⟩
  have HG3 := Lib.hid (show Grew w w3 from grew_tr HG1.out g3)
  clear g3
  go_wp2
  go_ret
  exact ⟨a3, c3, ms, rfl, hoe, hms, HG3.out⟩
end Go.Proofs.YtpmfpgbpndobpaaGreat
