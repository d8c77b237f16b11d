/- The walk of the law FnAbsEntry. No condition. -/
import Derived.Test.YtnjoofpllhbccaaHas4
import Derived.Test.YtnjoofpllhbccaaDrAE
import Derived.Test.YtnjoofpllhbccaaDrIn
namespace Go.Proofs.Ytnjoofpllhbccaa
open Go.RowKit
set_option linter.unusedVariables false
set_option linter.unusedSimpArgs false
attribute [local go_sem] ext_cell ext_frozen ext_lt ext_le ext_le1 lt_s2 lt_s3 lt_s4 lt_s5 lt_s6 ext_lt1 ext_lt2 ext_lt3

theorem owOkG (w : World) : Calls Try.prog 18 #[] w fun e w' => e = .returned (.bool true) ∧ w = w' := by
  have C := Lib.hid (fun w => implNumOk 1 w)
  go_enter Try.func18, Try.ntmps18
  go_wp2_with fail
  refine (C.out _).mono ?_
  rintro e w' ⟨rfl, rfl⟩
  go_wp2
  go_ret
  exact ⟨rfl, rfl⟩

set_option maxHeartbeats 4000000 in
theorem lawFnAbsEntry (a : Option Addr) (n c : Nat) (xs : List Int) (a' : Option Addr) (n' c' : Nat) (ys : List Int) (w : World) (hr : Rd w a n 1 (ints .u8 xs)) (hx : Bs xs) (hc : n ≤ c ∧ c ≤ maxLen) (hr' : Rd w a' n' 1 (ints .u8 ys)) (hy : Bs ys) (hc' : n' ≤ c' ∧ c' ≤ maxLen) :
    Calls Try.prog 3 #[.slice a n c, .slice a' n' c'] w fun e w' => e = .returned (.bool true) ∧ Grew w w' := by
  have HR := Lib.hid hr; clear hr
  have HR' := Lib.hid hr'; clear hr'
  have HX := Lib.hid hx; clear hx
  have HY := Lib.hid hy; clear hy
  by_cases h1 : (n : Int) > 1048576
  · go_enter Try.func3, Try.ntmps3
    go_wp2
    go_ret
    exact ⟨rfl, Below.refl _ _⟩
  by_cases h2 : (n' : Int) > 1048576
  · go_enter Try.func3, Try.ntmps3
    go_wp2
    go_ret
    exact ⟨rfl, Below.refl _ _⟩
  go_enter Try.func3, Try.ntmps3
  go_wp2_with fail
  refine (DrawAbsEntry a n c xs w HR.out HX.out hc).mono ?_
  rintro e w1 ⟨lo, hi, v, is, rfl, ho, hle, g1⟩
  obtain ⟨ia, ic, rfl⟩ := owns_slice ho
  clear ho
  go_wp2_with fail
  refine (DrawInputs a' n' c' ys _ (HR'.out.grew (by have h := g1; repeat (first | with_reducible exact Below.refl _ _ | with_reducible assumption | with_reducible apply grew_ext | with_reducible apply grew_al | with_reducible apply grew_dn | with_reducible apply grew_d | (with_reducible refine grew_set ?_ (by first | omega | (repeat (first | with_reducible exact Nat.le_refl _ | with_reducible apply le_pl | with_reducible apply le_ext | with_reducible apply le_al))) _)))) HY.out hc').mono ?_
  rintro e w2 ⟨m, v2, zs, rfl, hm, hz, ho2, g2⟩
  obtain ⟨za, zc, rfl⟩ := owns_slice ho2
  clear ho2 hz
  have B0 := (Boxd.new w1 25 #[.int .i64 lo, .int .i64 hi, .slice ia is.length ic]).grew g2
  generalize w1.heap.size = b5 at *
  have l0 := B0.1
  have p0 : w2.cell? ⟨b5, 0, none⟩ = some (.int .i64 lo) := B0.2 0 _ rfl
  have p1 : w2.cell? ⟨b5, 1, none⟩ = some (.int .i64 hi) := B0.2 1 _ rfl
  have p2 : w2.cell? ⟨b5, 2, none⟩ = some (.slice ia is.length ic) := B0.2 2 _ rfl
  have G2 := Lib.hid (grew_tr (grew_al g1 _) g2)
  go_wp2_with fail
  have CO := fun w => specItvOk ⟨lo, hi⟩ w
  cases hB : itvOkB lo hi
  · have HS : Hid (entrySt lo hi = ⟨false, [], 0, 0⟩) := Lib.hid (by simp [entrySt, hB])
    dsimp only at CO
    rw [hB] at CO
    have HCO := Lib.hid CO; clear CO hB
    refine (implAbsEntryS ⟨false, [], 0, 0⟩ HS.out (.slice ia is.length ic) _ rfl).mono ?_
    rintro e w3 ⟨val, rfl, ⟨sa, sc, rfl, o3⟩, g3⟩
    have R3 : Hid (RdL EItv 2 w3 sa 0 []) := Lib.hid (rdItv_of_own rfl o3)
    have p0' := (g3.cell (p := ⟨b5, 0, none⟩) l0).trans p0
    have p1' := (g3.cell (p := ⟨b5, 1, none⟩) l0).trans p1
    have p2' := (g3.cell (p := ⟨b5, 2, none⟩) l0).trans p2
    have l5 : b5 < w3.heap.size := Nat.lt_of_lt_of_le l0 g3.size
    have HG3 := Lib.hid (grew_tr G2.out g3)
    clear o3 g3 p0 p1 p2 l0 G2
    have SG : ∀ W, Grew (w3.alloc (.cells #[.bool false, .slice sa 0 sc, .int .i64 0, .int .i64 0] 34)) W → W.cell? ⟨b5, 0, none⟩ = some (.int .i64 lo) ∧ W.cell? ⟨b5, 1, none⟩ = some (.int .i64 hi) ∧ W.cell? ⟨b5, 2, none⟩ = some (.slice ia is.length ic) ∧ W.cell? ⟨w3.heap.size, 0, none⟩ = some (.bool false) ∧ W.cell? ⟨w3.heap.size, 1, none⟩ = some (.slice sa 0 sc) ∧ W.cell? ⟨w3.heap.size, 2, none⟩ = some (.int .i64 0) ∧ W.cell? ⟨w3.heap.size, 3, none⟩ = some (.int .i64 0) := fun W h => ⟨(h.cell (p := ⟨b5, 0, none⟩) (by simp; omega)).trans (by simp [go_sem, p0', l5]), (h.cell (p := ⟨b5, 1, none⟩) (by simp; omega)).trans (by simp [go_sem, p1', l5]), (h.cell (p := ⟨b5, 2, none⟩) (by simp; omega)).trans (by simp [go_sem, p2', l5]), (h.cell (p := ⟨w3.heap.size, 0, none⟩) (by simp)).trans (by simp [go_sem]), (h.cell (p := ⟨w3.heap.size, 1, none⟩) (by simp)).trans (by simp [go_sem]), (h.cell (p := ⟨w3.heap.size, 2, none⟩) (by simp)).trans (by simp [go_sem]), (h.cell (p := ⟨w3.heap.size, 3, none⟩) (by simp)).trans (by simp [go_sem])⟩
    go_wp2_with fail
    go_region_held3 (fun W => W.cell? ⟨b5, 0, none⟩ = some (.int .i64 lo) ∧ W.cell? ⟨b5, 1, none⟩ = some (.int .i64 hi) ∧ W.cell? ⟨b5, 2, none⟩ = some (.slice ia is.length ic) ∧ W.cell? ⟨w3.heap.size, 0, none⟩ = some (.bool false) ∧ W.cell? ⟨w3.heap.size, 1, none⟩ = some (.slice sa 0 sc) ∧ W.cell? ⟨w3.heap.size, 2, none⟩ = some (.int .i64 0) ∧ W.cell? ⟨w3.heap.size, 3, none⟩ = some (.int .i64 0)) (first | assumption | exact SG _ (by repeat (first | with_reducible exact Below.refl _ _ | with_reducible assumption | with_reducible apply grew_ext | with_reducible apply grew_al | with_reducible apply grew_dn | with_reducible apply grew_d | (with_reducible refine grew_set ?_ (by first | omega | (repeat (first | with_reducible exact Nat.le_refl _ | with_reducible apply le_pl | with_reducible apply le_ext | with_reducible apply le_al))) _))))
      (first
      | (go_at_call 16; refine (specAbsEntryS ⟨false, [], 0, 0⟩ HS.out (.slice ia is.length ic) _ rfl).mono ?_; rintro e w4 ⟨val4, rfl, ⟨sa4, sc4, rfl, o4⟩, g4⟩; have R4 : Hid (RdL EItv 2 w4 sa4 0 []) := Lib.hid (rdItv_of_own rfl o4); clear o4; obtain ⟨y4, rfl⟩ := ext_of g4; clear g4)
      | (go_at_call 15; refine (owStateS false sa sa4 0 sc sc4 [] 0 0 _ (RdL.grew staysItv R3.out (by repeat (first | with_reducible exact Below.refl _ _ | with_reducible assumption | with_reducible apply grew_ext | with_reducible apply grew_al | with_reducible apply grew_dn | with_reducible apply grew_d | (with_reducible refine grew_set ?_ (by first | omega | (repeat (first | with_reducible exact Nat.le_refl _ | with_reducible apply le_pl | with_reducible apply le_ext | with_reducible apply le_al))) _)))) R4.out (by omega)).mono ?_; rintro e w5 ⟨rfl, g5⟩; obtain ⟨y5, rfl⟩ := ext_col g5; clear g5))
    clear R4
    have hW : Grew (w3.alloc (.cells #[.bool false, .slice sa 0 sc, .int .i64 0, .int .i64 0] 34)) (ext (w3.alloc (.cells #[.bool false, .slice sa 0 sc, .int .i64 0, .int .i64 0] 34)).drew y5) := by repeat (first | with_reducible exact Below.refl _ _ | with_reducible assumption | with_reducible apply grew_ext | with_reducible apply grew_al | with_reducible apply grew_dn | with_reducible apply grew_d | (with_reducible refine grew_set ?_ (by first | omega | (repeat (first | with_reducible exact Nat.le_refl _ | with_reducible apply le_pl | with_reducible apply le_ext | with_reducible apply le_al))) _))
    obtain ⟨s0, s1, s2, s3, s4, s5, s6⟩ := SG _ hW
    obtain ⟨w6, hw6⟩ : ∃ X, ext (w3.alloc (.cells #[.bool false, .slice sa 0 sc, .int .i64 0, .int .i64 0] 34)).drew y5 = X := ⟨_, rfl⟩
    rw [hw6] at s0 s1 s2 s3 s4 s5 s6 hW ⊢
    have l8 : w3.heap.size < w6.heap.size := Nat.lt_of_lt_of_le (by simp) hW.size
    have l5' : b5 < w6.heap.size := by omega
    have R6 := Lib.hid (RdL.grew staysItv R3.out (grew_tr (grew_al (Below.refl _ _) _) hW))
    have HG6 := Lib.hid (grew_tr HG3.out (grew_tr (grew_al (Below.refl _ _) _) hW))
    clear SG hW hw6 R3 HG3 p0' p1' p2'
    go_wp2_with fail
    refine (HCO.out _).mono ?_
    rintro e w7 ⟨rfl, g7⟩
    have t3 := (g7.cell (p := ⟨w3.heap.size, 0, none⟩) (by simp; omega)).trans ((by simp [go_sem, s3, l8]) : _ = some (.bool false))
    have HG7 := Lib.hid (grew_tr HG6.out (grew_tr (grew_al (Below.refl _ _) _) g7))
    have l9 : w3.heap.size < w7.heap.size := Nat.lt_of_lt_of_le (by simp; omega) g7.size
    clear g7 s0 s1 s2 s3 s4 s5 s6
    go_wp2_with fail
    refine (owOkG _).mono ?_
    rintro e w8 ⟨rfl, rfl⟩
    go_wp2
    go_ret
    exact ⟨rfl, HG7.out⟩
  · have HS : Hid (entrySt lo hi = ⟨true, [⟨lo, hi⟩, ⟨0, 0⟩, ⟨0, 0⟩, ⟨0, 0⟩], 0, 0⟩) := Lib.hid (by simp [entrySt, hB])
    dsimp only at CO
    rw [hB] at CO
    have HCO := Lib.hid CO; clear CO
    refine (implAbsEntryS ⟨true, [⟨lo, hi⟩, ⟨0, 0⟩, ⟨0, 0⟩, ⟨0, 0⟩], 0, 0⟩ HS.out (.slice ia is.length ic) _ rfl).mono ?_
    rintro e w3 ⟨val, rfl, ⟨sa, sc, rfl, o3⟩, g3⟩
    have hsc : 4 ≤ sc := (owns_cap o3).1
    have R3 : Hid (RdL EItv 2 w3 sa 4 [⟨lo, hi⟩, ⟨0, 0⟩, ⟨0, 0⟩, ⟨0, 0⟩]) := Lib.hid (rdItv_of_own rfl o3)
    have p0' := (g3.cell (p := ⟨b5, 0, none⟩) l0).trans p0
    have p1' := (g3.cell (p := ⟨b5, 1, none⟩) l0).trans p1
    have p2' := (g3.cell (p := ⟨b5, 2, none⟩) l0).trans p2
    have l5 : b5 < w3.heap.size := Nat.lt_of_lt_of_le l0 g3.size
    have HG3 := Lib.hid (grew_tr G2.out g3)
    clear o3 g3 p0 p1 p2 l0 G2
    have SG : ∀ W, Grew (w3.alloc (.cells #[.bool true, .slice sa 4 sc, .int .i64 0, .int .i64 0] 34)) W → W.cell? ⟨b5, 0, none⟩ = some (.int .i64 lo) ∧ W.cell? ⟨b5, 1, none⟩ = some (.int .i64 hi) ∧ W.cell? ⟨b5, 2, none⟩ = some (.slice ia is.length ic) ∧ W.cell? ⟨w3.heap.size, 0, none⟩ = some (.bool true) ∧ W.cell? ⟨w3.heap.size, 1, none⟩ = some (.slice sa 4 sc) ∧ W.cell? ⟨w3.heap.size, 2, none⟩ = some (.int .i64 0) ∧ W.cell? ⟨w3.heap.size, 3, none⟩ = some (.int .i64 0) := fun W h => ⟨(h.cell (p := ⟨b5, 0, none⟩) (by simp; omega)).trans (by simp [go_sem, p0', l5]), (h.cell (p := ⟨b5, 1, none⟩) (by simp; omega)).trans (by simp [go_sem, p1', l5]), (h.cell (p := ⟨b5, 2, none⟩) (by simp; omega)).trans (by simp [go_sem, p2', l5]), (h.cell (p := ⟨w3.heap.size, 0, none⟩) (by simp)).trans (by simp [go_sem]), (h.cell (p := ⟨w3.heap.size, 1, none⟩) (by simp)).trans (by simp [go_sem]), (h.cell (p := ⟨w3.heap.size, 2, none⟩) (by simp)).trans (by simp [go_sem]), (h.cell (p := ⟨w3.heap.size, 3, none⟩) (by simp)).trans (by simp [go_sem])⟩
    go_wp2_with fail
    go_region_held3 (fun W => W.cell? ⟨b5, 0, none⟩ = some (.int .i64 lo) ∧ W.cell? ⟨b5, 1, none⟩ = some (.int .i64 hi) ∧ W.cell? ⟨b5, 2, none⟩ = some (.slice ia is.length ic) ∧ W.cell? ⟨w3.heap.size, 0, none⟩ = some (.bool true) ∧ W.cell? ⟨w3.heap.size, 1, none⟩ = some (.slice sa 4 sc) ∧ W.cell? ⟨w3.heap.size, 2, none⟩ = some (.int .i64 0) ∧ W.cell? ⟨w3.heap.size, 3, none⟩ = some (.int .i64 0)) (first | assumption | exact SG _ (by repeat (first | with_reducible exact Below.refl _ _ | with_reducible assumption | with_reducible apply grew_ext | with_reducible apply grew_al | with_reducible apply grew_dn | with_reducible apply grew_d | (with_reducible refine grew_set ?_ (by first | omega | (repeat (first | with_reducible exact Nat.le_refl _ | with_reducible apply le_pl | with_reducible apply le_ext | with_reducible apply le_al))) _))))
      (first
      | (go_at_call 16; refine (specAbsEntryS ⟨true, [⟨lo, hi⟩, ⟨0, 0⟩, ⟨0, 0⟩, ⟨0, 0⟩], 0, 0⟩ HS.out (.slice ia is.length ic) _ rfl).mono ?_; rintro e w4 ⟨val4, rfl, ⟨sa4, sc4, rfl, o4⟩, g4⟩; have R4 : Hid (RdL EItv 2 w4 sa4 4 [⟨lo, hi⟩, ⟨0, 0⟩, ⟨0, 0⟩, ⟨0, 0⟩]) := Lib.hid (rdItv_of_own rfl o4); clear o4; obtain ⟨y4, rfl⟩ := ext_of g4; clear g4)
      | (go_at_call 15; refine (owStateS true sa sa4 4 sc sc4 [⟨lo, hi⟩, ⟨0, 0⟩, ⟨0, 0⟩, ⟨0, 0⟩] 0 0 _ (RdL.grew staysItv R3.out (by repeat (first | with_reducible exact Below.refl _ _ | with_reducible assumption | with_reducible apply grew_ext | with_reducible apply grew_al | with_reducible apply grew_dn | with_reducible apply grew_d | (with_reducible refine grew_set ?_ (by first | omega | (repeat (first | with_reducible exact Nat.le_refl _ | with_reducible apply le_pl | with_reducible apply le_ext | with_reducible apply le_al))) _)))) R4.out (by omega)).mono ?_; rintro e w5 ⟨rfl, g5⟩; obtain ⟨y5, rfl⟩ := ext_col g5; clear g5))
    clear R4
    have hW : Grew (w3.alloc (.cells #[.bool true, .slice sa 4 sc, .int .i64 0, .int .i64 0] 34)) (ext (w3.alloc (.cells #[.bool true, .slice sa 4 sc, .int .i64 0, .int .i64 0] 34)).drew y5) := by repeat (first | with_reducible exact Below.refl _ _ | with_reducible assumption | with_reducible apply grew_ext | with_reducible apply grew_al | with_reducible apply grew_dn | with_reducible apply grew_d | (with_reducible refine grew_set ?_ (by first | omega | (repeat (first | with_reducible exact Nat.le_refl _ | with_reducible apply le_pl | with_reducible apply le_ext | with_reducible apply le_al))) _))
    obtain ⟨s0, s1, s2, s3, s4, s5, s6⟩ := SG _ hW
    obtain ⟨w6, hw6⟩ : ∃ X, ext (w3.alloc (.cells #[.bool true, .slice sa 4 sc, .int .i64 0, .int .i64 0] 34)).drew y5 = X := ⟨_, rfl⟩
    rw [hw6] at s0 s1 s2 s3 s4 s5 s6 hW ⊢
    have l8 : w3.heap.size < w6.heap.size := Nat.lt_of_lt_of_le (by simp) hW.size
    have l5' : b5 < w6.heap.size := by omega
    have R6 := Lib.hid (RdL.grew staysItv R3.out (grew_tr (grew_al (Below.refl _ _) _) hW))
    have HG6 := Lib.hid (grew_tr HG3.out (grew_tr (grew_al (Below.refl _ _) _) hW))
    clear SG hW hw6 R3 HG3 p0' p1' p2'
    go_wp2_with fail
    refine (HCO.out _).mono ?_
    rintro e w7 ⟨rfl, g7⟩
    have n8 : w3.heap.size < w6.heap.size := l8
    have hn7 : Rd w7 (some ⟨w6.heap.size, 0, none⟩) 4 1 (ints .i64 [0, 0, 0, 0]) := (rd_lit w6 3 (ints .i64 [0, 0, 0, 0]).toArray 4 1 rfl).grew g7
    have k0 := (g7.cell (p := ⟨b5, 0, none⟩) (by simp; omega)).trans ((by simp [go_sem, s0, l5']) : _ = some (.int .i64 lo))
    have k1 := (g7.cell (p := ⟨b5, 1, none⟩) (by simp; omega)).trans ((by simp [go_sem, s1, l5']) : _ = some (.int .i64 hi))
    have k3 := (g7.cell (p := ⟨w3.heap.size, 0, none⟩) (by simp; omega)).trans ((by simp [go_sem, s3, l8]) : _ = some (.bool true))
    have k4 := (g7.cell (p := ⟨w3.heap.size, 1, none⟩) (by simp; omega)).trans ((by simp [go_sem, s4, l8]) : _ = some (.slice sa 4 sc))
    have k5 := (g7.cell (p := ⟨w3.heap.size, 2, none⟩) (by simp; omega)).trans ((by simp [go_sem, s5, l8]) : _ = some (.int .i64 0))
    have k6 := (g7.cell (p := ⟨w3.heap.size, 3, none⟩) (by simp; omega)).trans ((by simp [go_sem, s6, l8]) : _ = some (.int .i64 0))
    have HG7 := Lib.hid (grew_tr HG6.out (grew_tr (grew_al (Below.refl _ _) _) g7))
    have R7 := Lib.hid (RdL.grew staysItv R6.out (grew_tr (grew_al (Below.refl _ _) _) g7))
    have l95 : b5 < w7.heap.size := Nat.lt_of_lt_of_le (by simp; omega) g7.size
    have l9 : w3.heap.size < w7.heap.size := Nat.lt_of_lt_of_le (by simp; omega) g7.size
    have N7 := Lib.hid hn7
    have HH : Hid (∀ (x : Int) (W W0 : World), Rd W (some ⟨W0.heap.size, 0, none⟩) 4 1 (ints .i64 [x, 0, 0, 0]) → Grew w7 W → ∀ B : Bool, inB lo hi x = B → Calls Try.prog 19 #[.agg #[.bool true, .slice sa 4 sc, .int .i64 0, .int .i64 0], .slice (some ⟨W0.heap.size, 0, none⟩) 4 4, .slice (some ⟨w6.heap.size, 0, none⟩) 4 4] W fun e w' => e = .returned (.bool B) ∧ Grew W w') := Lib.hid (fun x W W0 hv hg B hx => by
      have h := implAbsHas4 sa sc ⟨lo, hi⟩ ⟨0, 0⟩ ⟨0, 0⟩ ⟨0, 0⟩ 0 0 _ 4 x 0 0 0 _ 4 [0, 0, 0, 0] W (R7.out.grew staysItv hg) (by decide) (by simp [itvB, hB]; decide) hsc hv (N7.out.grew hg)
      have e : (inB lo hi x && inB 0 0 0 && inB 0 0 0 && inB 0 0 0 && [0, 0, 0, 0].all (inB 0 0)) = B := by rw [← hx]; simp [inB]
      dsimp only at h
      rwa [e] at h)
    clear g7 s0 s1 s2 s3 s4 s5 s6 R6 HG6 hn7
    have hlh : lo ≤ hi := by simp [itvOkB] at hB; omega
    have hin2 : inB lo hi hi = true := by simp [inB]; omega
    have SG2 : ∀ W, Grew w7 W → W.cell? ⟨b5, 0, none⟩ = some (.int .i64 lo) ∧ W.cell? ⟨b5, 1, none⟩ = some (.int .i64 hi) ∧ W.cell? ⟨w3.heap.size, 0, none⟩ = some (.bool true) ∧ W.cell? ⟨w3.heap.size, 1, none⟩ = some (.slice sa 4 sc) ∧ W.cell? ⟨w3.heap.size, 2, none⟩ = some (.int .i64 0) ∧ W.cell? ⟨w3.heap.size, 3, none⟩ = some (.int .i64 0) := fun W h => ⟨(h.cell (p := ⟨b5, 0, none⟩) l95).trans k0, (h.cell (p := ⟨b5, 1, none⟩) l95).trans k1, (h.cell (p := ⟨w3.heap.size, 0, none⟩) l9).trans k3, (h.cell (p := ⟨w3.heap.size, 1, none⟩) l9).trans k4, (h.cell (p := ⟨w3.heap.size, 2, none⟩) l9).trans k5, (h.cell (p := ⟨w3.heap.size, 3, none⟩) l9).trans k6⟩
    by_cases hm1 : lo ≤ m
    · have d1 : decide (lo ≤ m) = true := decide_eq_true hm1
      by_cases hm2 : m ≤ hi
      · have d2 : decide (m ≤ hi) = true := decide_eq_true hm2
        have hin1 : inB lo hi m = true := by simp [inB, hm1, hm2]
        go_wp2_with fail
        go_region_held3 (fun W => W.cell? ⟨b5, 0, none⟩ = some (.int .i64 lo) ∧ W.cell? ⟨b5, 1, none⟩ = some (.int .i64 hi) ∧ W.cell? ⟨w3.heap.size, 0, none⟩ = some (.bool true) ∧ W.cell? ⟨w3.heap.size, 1, none⟩ = some (.slice sa 4 sc) ∧ W.cell? ⟨w3.heap.size, 2, none⟩ = some (.int .i64 0) ∧ W.cell? ⟨w3.heap.size, 3, none⟩ = some (.int .i64 0)) (first | assumption | exact SG2 _ (by repeat (first | with_reducible exact Below.refl _ _ | with_reducible assumption | with_reducible apply grew_ext | with_reducible apply grew_al | with_reducible apply grew_dn | with_reducible apply grew_d | (with_reducible refine grew_set ?_ (by first | omega | (repeat (first | with_reducible exact Nat.le_refl _ | with_reducible apply le_pl | with_reducible apply le_ext | with_reducible apply le_al))) _))))
          (first
          | (go_at_call 19; refine (HH.out m _ _ ?_ ?_ true hin1).mono ?_; (exact rd_lit _ _ _ 4 1 rfl); (repeat (first | with_reducible exact Below.refl _ _ | with_reducible assumption | with_reducible apply grew_ext | with_reducible apply grew_al | with_reducible apply grew_dn | with_reducible apply grew_d | (with_reducible refine grew_set ?_ (by first | omega | (repeat (first | with_reducible exact Nat.le_refl _ | with_reducible apply le_pl | with_reducible apply le_ext | with_reducible apply le_al))) _))); rintro e wh ⟨rfl, ga⟩; (first | obtain ⟨ya, rfl⟩ := ext_cold ga | obtain ⟨ya, rfl⟩ := ext_col ga | obtain ⟨ya, rfl⟩ := ext_of ga); clear ga)
          | (go_at_call 19; refine (HH.out hi _ _ ?_ ?_ true hin2).mono ?_; (exact rd_lit _ _ _ 4 1 rfl); (repeat (first | with_reducible exact Below.refl _ _ | with_reducible assumption | with_reducible apply grew_ext | with_reducible apply grew_al | with_reducible apply grew_dn | with_reducible apply grew_d | (with_reducible refine grew_set ?_ (by first | omega | (repeat (first | with_reducible exact Nat.le_refl _ | with_reducible apply le_pl | with_reducible apply le_ext | with_reducible apply le_al))) _))); rintro e wh ⟨rfl, gb⟩; (first | obtain ⟨yb, rfl⟩ := ext_cold gb | obtain ⟨yb, rfl⟩ := ext_col gb | obtain ⟨yb, rfl⟩ := ext_of gb); clear gb))
        all_goals
          go_wp2
          go_ret
          have h7 := HG7.out
          refine ⟨rfl, ?_⟩
          repeat (first | with_reducible exact Below.refl _ _ | with_reducible assumption | with_reducible apply grew_ext | with_reducible apply grew_al | with_reducible apply grew_dn | with_reducible apply grew_d | (with_reducible refine grew_set ?_ (by first | omega | (repeat (first | with_reducible exact Nat.le_refl _ | with_reducible apply le_pl | with_reducible apply le_ext | with_reducible apply le_al))) _))
      · have d2 : decide (m ≤ hi) = false := decide_eq_false hm2
        have hin1 : inB lo hi m = false := by simp [inB, hm1, hm2]
        go_wp2_with fail
        go_region_held3 (fun W => W.cell? ⟨b5, 0, none⟩ = some (.int .i64 lo) ∧ W.cell? ⟨b5, 1, none⟩ = some (.int .i64 hi) ∧ W.cell? ⟨w3.heap.size, 0, none⟩ = some (.bool true) ∧ W.cell? ⟨w3.heap.size, 1, none⟩ = some (.slice sa 4 sc) ∧ W.cell? ⟨w3.heap.size, 2, none⟩ = some (.int .i64 0) ∧ W.cell? ⟨w3.heap.size, 3, none⟩ = some (.int .i64 0)) (first | assumption | exact SG2 _ (by repeat (first | with_reducible exact Below.refl _ _ | with_reducible assumption | with_reducible apply grew_ext | with_reducible apply grew_al | with_reducible apply grew_dn | with_reducible apply grew_d | (with_reducible refine grew_set ?_ (by first | omega | (repeat (first | with_reducible exact Nat.le_refl _ | with_reducible apply le_pl | with_reducible apply le_ext | with_reducible apply le_al))) _))))
          (first
          | (go_at_call 19; refine (HH.out m _ _ ?_ ?_ false hin1).mono ?_; (exact rd_lit _ _ _ 4 1 rfl); (repeat (first | with_reducible exact Below.refl _ _ | with_reducible assumption | with_reducible apply grew_ext | with_reducible apply grew_al | with_reducible apply grew_dn | with_reducible apply grew_d | (with_reducible refine grew_set ?_ (by first | omega | (repeat (first | with_reducible exact Nat.le_refl _ | with_reducible apply le_pl | with_reducible apply le_ext | with_reducible apply le_al))) _))); rintro e wh ⟨rfl, ga⟩; (first | obtain ⟨ya, rfl⟩ := ext_cold ga | obtain ⟨ya, rfl⟩ := ext_col ga | obtain ⟨ya, rfl⟩ := ext_of ga); clear ga)
          | (go_at_call 19; refine (HH.out hi _ _ ?_ ?_ true hin2).mono ?_; (exact rd_lit _ _ _ 4 1 rfl); (repeat (first | with_reducible exact Below.refl _ _ | with_reducible assumption | with_reducible apply grew_ext | with_reducible apply grew_al | with_reducible apply grew_dn | with_reducible apply grew_d | (with_reducible refine grew_set ?_ (by first | omega | (repeat (first | with_reducible exact Nat.le_refl _ | with_reducible apply le_pl | with_reducible apply le_ext | with_reducible apply le_al))) _))); rintro e wh ⟨rfl, gb⟩; (first | obtain ⟨yb, rfl⟩ := ext_cold gb | obtain ⟨yb, rfl⟩ := ext_col gb | obtain ⟨yb, rfl⟩ := ext_of gb); clear gb))
        all_goals
          go_wp2
          go_ret
          have h7 := HG7.out
          refine ⟨rfl, ?_⟩
          repeat (first | with_reducible exact Below.refl _ _ | with_reducible assumption | with_reducible apply grew_ext | with_reducible apply grew_al | with_reducible apply grew_dn | with_reducible apply grew_d | (with_reducible refine grew_set ?_ (by first | omega | (repeat (first | with_reducible exact Nat.le_refl _ | with_reducible apply le_pl | with_reducible apply le_ext | with_reducible apply le_al))) _))
    · have hin1 : inB lo hi m = false := by simp [inB, hm1]
      have d1 : ∀ (i : Decidable (lo ≤ m)), @decide (lo ≤ m) i = false := fun i => @decide_eq_false (lo ≤ m) i hm1
      have d3 : decide (m ≥ lo) = false := decide_eq_false hm1
      have d4 : (lo ≤ m) = False := eq_false hm1
      clear hm1
      go_wp2_with fail
      refine wp_region_held_drew (S := (fun W => W.cell? ⟨b5, 0, none⟩ = some (.int .i64 lo) ∧ W.cell? ⟨b5, 1, none⟩ = some (.int .i64 hi) ∧ W.cell? ⟨w3.heap.size, 0, none⟩ = some (.bool true) ∧ W.cell? ⟨w3.heap.size, 1, none⟩ = some (.slice sa 4 sc) ∧ W.cell? ⟨w3.heap.size, 2, none⟩ = some (.int .i64 0) ∧ W.cell? ⟨w3.heap.size, 3, none⟩ = some (.int .i64 0))) (by kernel_rfl) ?_ (fun hHeld => ?_)
      · (try dsimp only); (first | assumption | exact SG2 _ (by repeat (first | with_reducible exact Below.refl _ _ | with_reducible assumption | with_reducible apply grew_ext | with_reducible apply grew_al | with_reducible apply grew_dn | with_reducible apply grew_d | (with_reducible refine grew_set ?_ (by first | omega | (repeat (first | with_reducible exact Nat.le_refl _ | with_reducible apply le_pl | with_reducible apply le_ext | with_reducible apply le_al))) _))))
      refine wpAnyH_take (i := 0) (v := ?_) rfl (by kernel_rfl) (by kernel_rfl) (by kernel_rfl) (fun _ _ _ h => h) (Or.inl ⟨by rfl, ?_⟩) (by assumption) ?_
      rotate_left
      · (intro w hSw; (try dsimp only at hSw); go_simp; try with_reducible rfl)
      try simp only [List.getElem_toArray, List.getElem_cons_succ, List.getElem_cons_zero, Act.put, List.setIfInBounds_toArray, List.set_cons_zero, List.set_cons_succ]
      refine wpAnyH_take (i := 1) (v := ?_) rfl (by kernel_rfl) (by kernel_rfl) (by kernel_rfl) (fun _ _ _ h => h) (Or.inl ⟨by rfl, ?_⟩) (by assumption) ?_
      rotate_left
      · (intro w hSw; (try dsimp only at hSw); go_simp; try with_reducible rfl)
      try simp only [List.getElem_toArray, List.getElem_cons_succ, List.getElem_cons_zero, Act.put, List.setIfInBounds_toArray, List.set_cons_zero, List.set_cons_succ]
      refine wpAnyH_take (i := 3) (v := ?_) rfl (by kernel_rfl) (by kernel_rfl) (by kernel_rfl) (fun _ _ _ h => h) (Or.inl ⟨by rfl, ?_⟩) (by assumption) ?_
      rotate_left
      · (intro w hSw; (try dsimp only at hSw); go_simp; try with_reducible rfl)
      try simp only [List.getElem_toArray, List.getElem_cons_succ, List.getElem_cons_zero, Act.put, List.setIfInBounds_toArray, List.set_cons_zero, List.set_cons_succ]
      refine wpAnyH_take (i := 5) (v := ?_) rfl (by kernel_rfl) (by kernel_rfl) (by kernel_rfl) (fun _ _ _ h => h) (Or.inl ⟨by rfl, ?_⟩) (by assumption) ?_
      rotate_left
      · (intro w hSw; (try dsimp only at hSw); go_simp; try with_reducible rfl)
      try simp only [List.getElem_toArray, List.getElem_cons_succ, List.getElem_cons_zero, Act.put, List.setIfInBounds_toArray, List.set_cons_zero, List.set_cons_succ]
      refine wpAnyH_take (i := 6) (v := ?_) rfl (by kernel_rfl) (by kernel_rfl) (by kernel_rfl) (fun _ _ _ h => h) (Or.inl ⟨by rfl, ?_⟩) (by assumption) ?_
      rotate_left
      · (intro w hSw; (try dsimp only at hSw); go_simp; try with_reducible rfl)
      try simp only [List.getElem_toArray, List.getElem_cons_succ, List.getElem_cons_zero, Act.put, List.setIfInBounds_toArray, List.set_cons_zero, List.set_cons_succ]
      refine wpAnyH_take (i := 7) (v := ?_) rfl (by kernel_rfl) (by kernel_rfl) (by kernel_rfl) (fun _ _ _ h => h) (Or.inl ⟨by rfl, ?_⟩) (by assumption) ?_
      rotate_left
      · (intro w hSw; (try dsimp only at hSw); go_simp; try with_reducible rfl)
      try simp only [List.getElem_toArray, List.getElem_cons_succ, List.getElem_cons_zero, Act.put, List.setIfInBounds_toArray, List.set_cons_zero, List.set_cons_succ]
      refine wpAnyH_take (i := 8) (v := ?_) rfl (by kernel_rfl) (by kernel_rfl) (by kernel_rfl) (fun _ _ _ h => h) (Or.inl ⟨by rfl, ?_⟩) (by assumption) ?_
      rotate_left
      · (intro w hSw; (try dsimp only at hSw); go_simp; try with_reducible rfl)
      try simp only [List.getElem_toArray, List.getElem_cons_succ, List.getElem_cons_zero, Act.put, List.setIfInBounds_toArray, List.set_cons_zero, List.set_cons_succ]
      refine wpAnyH_ready (rs := [2]) (by kernel_rfl) (by simp) ?_
      refine AllReadyH.cons rfl (fun K hK => ?_) AllReadyH.nil
      try simp only [List.getElem_toArray, List.getElem_cons_succ, List.getElem_cons_zero]
      go_simp
      refine hK.out _ _ ?_ (fun hHeld => ?_)
      · (try dsimp only); (first | assumption | exact SG2 _ (by repeat (first | with_reducible exact Below.refl _ _ | with_reducible assumption | with_reducible apply grew_ext | with_reducible apply grew_al | with_reducible apply grew_dn | with_reducible apply grew_d | (with_reducible refine grew_set ?_ (by first | omega | (repeat (first | with_reducible exact Nat.le_refl _ | with_reducible apply le_pl | with_reducible apply le_ext | with_reducible apply le_al))) _))))
      clear hK K
      try simp only [List.getElem_toArray, List.getElem_cons_succ, List.getElem_cons_zero, Act.put, List.setIfInBounds_toArray, List.set_cons_zero, List.set_cons_succ]
      refine wpAnyH_ready (rs := [4]) (by kernel_rfl) (by simp) ?_
      refine AllReadyH.cons rfl (fun K hK => ?_) AllReadyH.nil
      try simp only [List.getElem_toArray, List.getElem_cons_succ, List.getElem_cons_zero]
      go_simp
      (go_at_call 19; refine (HH.out m _ _ ?_ ?_ false hin1).mono ?_; (exact rd_lit _ _ _ 4 1 rfl); (repeat (first | with_reducible exact Below.refl _ _ | with_reducible assumption | with_reducible apply grew_ext | with_reducible apply grew_al | with_reducible apply grew_dn | with_reducible apply grew_d | (with_reducible refine grew_set ?_ (by first | omega | (repeat (first | with_reducible exact Nat.le_refl _ | with_reducible apply le_pl | with_reducible apply le_ext | with_reducible apply le_al))) _))); rintro e wh ⟨rfl, ga⟩; (first | obtain ⟨ya, rfl⟩ := ext_cold ga | obtain ⟨ya, rfl⟩ := ext_col ga | obtain ⟨ya, rfl⟩ := ext_of ga); clear ga)
      refine hK.out _ _ ?_ (fun hHeld => ?_)
      · (try dsimp only); (first | assumption | exact SG2 _ (by repeat (first | with_reducible exact Below.refl _ _ | with_reducible assumption | with_reducible apply grew_ext | with_reducible apply grew_al | with_reducible apply grew_dn | with_reducible apply grew_d | (with_reducible refine grew_set ?_ (by first | omega | (repeat (first | with_reducible exact Nat.le_refl _ | with_reducible apply le_pl | with_reducible apply le_ext | with_reducible apply le_al))) _))))
      clear hK K
      try simp only [List.getElem_toArray, List.getElem_cons_succ, List.getElem_cons_zero, Act.put, List.setIfInBounds_toArray, List.set_cons_zero, List.set_cons_succ]
      refine wpAnyH_take (i := 9) (v := ?_) rfl (by kernel_rfl) (by kernel_rfl) (by kernel_rfl) (fun _ _ _ h => h) (Or.inl ⟨by rfl, ?_⟩) (by assumption) ?_
      rotate_left
      · (intro w hSw; (try dsimp only at hSw); go_simp; try with_reducible rfl)
      try simp only [List.getElem_toArray, List.getElem_cons_succ, List.getElem_cons_zero, Act.put, List.setIfInBounds_toArray, List.set_cons_zero, List.set_cons_succ]
      refine wpAnyH_take (i := 10) (v := undef) rfl (by kernel_rfl) (by kernel_rfl) (by kernel_rfl) (fun _ _ _ h => h) (Or.inr ⟨by rfl, rfl⟩) (by assumption) ?_
      try simp only [List.getElem_toArray, List.getElem_cons_succ, List.getElem_cons_zero, Act.put, List.setIfInBounds_toArray, List.set_cons_zero, List.set_cons_succ]
      refine wpAnyH_take (i := 11) (v := undef) rfl (by kernel_rfl) (by kernel_rfl) (by kernel_rfl) (fun _ _ _ h => h) (Or.inr ⟨by rfl, rfl⟩) (by assumption) ?_
      try simp only [List.getElem_toArray, List.getElem_cons_succ, List.getElem_cons_zero, Act.put, List.setIfInBounds_toArray, List.set_cons_zero, List.set_cons_succ]
      refine wpAnyH_take (i := 12) (v := undef) rfl (by kernel_rfl) (by kernel_rfl) (by kernel_rfl) (fun _ _ _ h => h) (Or.inr ⟨by rfl, rfl⟩) (by assumption) ?_
      try simp only [List.getElem_toArray, List.getElem_cons_succ, List.getElem_cons_zero, Act.put, List.setIfInBounds_toArray, List.set_cons_zero, List.set_cons_succ]
      refine wpAnyH_take (i := 13) (v := undef) rfl (by kernel_rfl) (by kernel_rfl) (by kernel_rfl) (fun _ _ _ h => h) (Or.inr ⟨by rfl, rfl⟩) (by assumption) ?_
      try simp only [List.getElem_toArray, List.getElem_cons_succ, List.getElem_cons_zero, Act.put, List.setIfInBounds_toArray, List.set_cons_zero, List.set_cons_succ]
      refine wpAnyH_take (i := 14) (v := ?_) rfl (by kernel_rfl) (by kernel_rfl) (by kernel_rfl) (fun _ _ _ h => h) (Or.inl ⟨by rfl, ?_⟩) (by assumption) ?_
      rotate_left
      · (intro w hSw; (try dsimp only at hSw); go_simp; try with_reducible rfl)
      try simp only [List.getElem_toArray, List.getElem_cons_succ, List.getElem_cons_zero, Act.put, List.setIfInBounds_toArray, List.set_cons_zero, List.set_cons_succ]
      refine wpAnyH_take (i := 15) (v := ?_) rfl (by kernel_rfl) (by kernel_rfl) (by kernel_rfl) (fun _ _ _ h => h) (Or.inl ⟨by rfl, ?_⟩) (by assumption) ?_
      rotate_left
      · (intro w hSw; (try dsimp only at hSw); go_simp; try with_reducible rfl)
      try simp only [List.getElem_toArray, List.getElem_cons_succ, List.getElem_cons_zero, Act.put, List.setIfInBounds_toArray, List.set_cons_zero, List.set_cons_succ]
      refine wpAnyH_take (i := 16) (v := ?_) rfl (by kernel_rfl) (by kernel_rfl) (by kernel_rfl) (fun _ _ _ h => h) (Or.inl ⟨by rfl, ?_⟩) (by assumption) ?_
      rotate_left
      · (intro w hSw; (try dsimp only at hSw); go_simp; try with_reducible rfl)
      try simp only [List.getElem_toArray, List.getElem_cons_succ, List.getElem_cons_zero, Act.put, List.setIfInBounds_toArray, List.set_cons_zero, List.set_cons_succ]
      refine wpAnyH_take (i := 17) (v := ?_) rfl (by kernel_rfl) (by kernel_rfl) (by kernel_rfl) (fun _ _ _ h => h) (Or.inl ⟨by rfl, ?_⟩) (by assumption) ?_
      rotate_left
      · (intro w hSw; (try dsimp only at hSw); go_simp; try with_reducible rfl)
      try simp only [List.getElem_toArray, List.getElem_cons_succ, List.getElem_cons_zero, Act.put, List.setIfInBounds_toArray, List.set_cons_zero, List.set_cons_succ]
      refine wpAnyH_take (i := 18) (v := ?_) rfl (by kernel_rfl) (by kernel_rfl) (by kernel_rfl) (fun _ _ _ h => h) (Or.inl ⟨by rfl, ?_⟩) (by assumption) ?_
      rotate_left
      · (intro w hSw; (try dsimp only at hSw); go_simp; try with_reducible rfl)
      try simp only [List.getElem_toArray, List.getElem_cons_succ, List.getElem_cons_zero, Act.put, List.setIfInBounds_toArray, List.set_cons_zero, List.set_cons_succ]
      refine wpAnyH_take (i := 19) (v := ?_) rfl (by kernel_rfl) (by kernel_rfl) (by kernel_rfl) (fun _ _ _ h => h) (Or.inl ⟨by rfl, ?_⟩) (by assumption) ?_
      rotate_left
      · (intro w hSw; (try dsimp only at hSw); go_simp; try with_reducible rfl)
      try simp only [List.getElem_toArray, List.getElem_cons_succ, List.getElem_cons_zero, Act.put, List.setIfInBounds_toArray, List.set_cons_zero, List.set_cons_succ]
      refine wpAnyH_take (i := 21) (v := ?_) rfl (by kernel_rfl) (by kernel_rfl) (by kernel_rfl) (fun _ _ _ h => h) (Or.inl ⟨by rfl, ?_⟩) (by assumption) ?_
      rotate_left
      · (intro w hSw; (try dsimp only at hSw); go_simp; try with_reducible rfl)
      try simp only [List.getElem_toArray, List.getElem_cons_succ, List.getElem_cons_zero, Act.put, List.setIfInBounds_toArray, List.set_cons_zero, List.set_cons_succ]
      refine wpAnyH_ready (rs := [20]) (by kernel_rfl) (by simp) ?_
      refine AllReadyH.cons rfl (fun K hK => ?_) AllReadyH.nil
      try simp only [List.getElem_toArray, List.getElem_cons_succ, List.getElem_cons_zero]
      go_simp
      refine hK.out _ _ ?_ (fun hHeld => ?_)
      · (try dsimp only); (first | assumption | exact SG2 _ (by repeat (first | with_reducible exact Below.refl _ _ | with_reducible assumption | with_reducible apply grew_ext | with_reducible apply grew_al | with_reducible apply grew_dn | with_reducible apply grew_d | (with_reducible refine grew_set ?_ (by first | omega | (repeat (first | with_reducible exact Nat.le_refl _ | with_reducible apply le_pl | with_reducible apply le_ext | with_reducible apply le_al))) _))))
      clear hK K
      try simp only [List.getElem_toArray, List.getElem_cons_succ, List.getElem_cons_zero, Act.put, List.setIfInBounds_toArray, List.set_cons_zero, List.set_cons_succ]
      refine wpAnyH_ready (rs := [22]) (by kernel_rfl) (by simp) ?_
      refine AllReadyH.cons rfl (fun K hK => ?_) AllReadyH.nil
      try simp only [List.getElem_toArray, List.getElem_cons_succ, List.getElem_cons_zero]
      go_simp
      (go_at_call 19; refine (HH.out hi _ _ ?_ ?_ true hin2).mono ?_; (exact rd_lit _ _ _ 4 1 rfl); (repeat (first | with_reducible exact Below.refl _ _ | with_reducible assumption | with_reducible apply grew_ext | with_reducible apply grew_al | with_reducible apply grew_dn | with_reducible apply grew_d | (with_reducible refine grew_set ?_ (by first | omega | (repeat (first | with_reducible exact Nat.le_refl _ | with_reducible apply le_pl | with_reducible apply le_ext | with_reducible apply le_al))) _))); rintro e wh ⟨rfl, gb⟩; (first | obtain ⟨yb, rfl⟩ := ext_cold gb | obtain ⟨yb, rfl⟩ := ext_col gb | obtain ⟨yb, rfl⟩ := ext_of gb); clear gb)
      refine hK.out _ _ ?_ (fun hHeld => ?_)
      · (try dsimp only); (first | assumption | exact SG2 _ (by repeat (first | with_reducible exact Below.refl _ _ | with_reducible assumption | with_reducible apply grew_ext | with_reducible apply grew_al | with_reducible apply grew_dn | with_reducible apply grew_d | (with_reducible refine grew_set ?_ (by first | omega | (repeat (first | with_reducible exact Nat.le_refl _ | with_reducible apply le_pl | with_reducible apply le_ext | with_reducible apply le_al))) _))))
      clear hK K
      try simp only [List.getElem_toArray, List.getElem_cons_succ, List.getElem_cons_zero, Act.put, List.setIfInBounds_toArray, List.set_cons_zero, List.set_cons_succ]
      refine wpAnyH_take (i := 23) (v := ?_) rfl (by kernel_rfl) (by kernel_rfl) (by kernel_rfl) (fun _ _ _ h => h) (Or.inl ⟨by rfl, ?_⟩) (by assumption) ?_
      rotate_left
      · (intro w hSw; (try dsimp only at hSw); go_simp; try with_reducible rfl)
      try simp only [List.getElem_toArray, List.getElem_cons_succ, List.getElem_cons_zero, Act.put, List.setIfInBounds_toArray, List.set_cons_zero, List.set_cons_succ]
      refine wpAnyH_take (i := 24) (v := ?_) rfl (by kernel_rfl) (by kernel_rfl) (by kernel_rfl) (fun _ _ _ h => h) (Or.inl ⟨by rfl, ?_⟩) (by assumption) ?_
      rotate_left
      · (intro w hSw; (try dsimp only at hSw); go_simp; try with_reducible rfl)
      try simp only [List.getElem_toArray, List.getElem_cons_succ, List.getElem_cons_zero, Act.put, List.setIfInBounds_toArray, List.set_cons_zero, List.set_cons_succ]
      refine wpAnyH_done (by kernel_rfl) ?_ _
      all_goals
        go_wp2
        go_ret
        have h7 := HG7.out
        refine ⟨rfl, ?_⟩
        repeat (first | with_reducible exact Below.refl _ _ | with_reducible assumption | with_reducible apply grew_ext | with_reducible apply grew_al | with_reducible apply grew_dn | with_reducible apply grew_d | (with_reducible refine grew_set ?_ (by first | omega | (repeat (first | with_reducible exact Nat.le_refl _ | with_reducible apply le_pl | with_reducible apply le_ext | with_reducible apply le_al))) _))
end Go.Proofs.Ytnjoofpllhbccaa
