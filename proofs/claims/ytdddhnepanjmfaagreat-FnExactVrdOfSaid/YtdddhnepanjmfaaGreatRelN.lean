/- What the contrary of a relation leaves of two bounds: both sides. No condition. -/
import Derived.Test.YtdddhnepanjmfaaGreatRelI
import Derived.Test.YtdddhnepanjmfaaGreatRelT
namespace Go.Proofs.YtdddhnepanjmfaaGreat
open Go.RowKit
set_option linter.unusedVariables false
set_option linter.unusedSimpArgs false
attribute [local go_sem] ext_cell ext_frozen ext_lt ext_le ext_le1 lt_s2 lt_s3 lt_s4 lt_s5 lt_s6 ext_lt1 ext_lt2 ext_lt3

set_option maxHeartbeats 4000000 in
theorem implItvNot1 (a b : Itv) (w : World) (ha : itvB a = true) (hb : itvB b = true) :
    Calls Tryz.prog 131 #[.int .i64 1, a.v, b.v] w fun e w' => e = .returned (relV (notI 1 a b)) ∧ Grew w w' := by
  have HR := Lib.hid (fun W => implItvRel2 b a W hb ha)
  rw [show notI 1 a b = swapI (relI 2 b a) from by simp [notI]]
  rw [relV_eq] at HR ⊢
  rw [rA_swap, rB_swap, some_swap]
  obtain ⟨O, hO⟩ : ∃ O, relI 2 b a = O := ⟨_, rfl⟩
  rw [hO] at HR ⊢
  obtain ⟨⟨xl, xh⟩, hx⟩ : ∃ x, rA O = x := ⟨_, rfl⟩
  obtain ⟨⟨yl, yh⟩, hy⟩ : ∃ x, rB O = x := ⟨_, rfl⟩
  obtain ⟨B, hB⟩ : ∃ x, O.isSome = x := ⟨_, rfl⟩
  rw [hx, hy, hB] at HR ⊢
  clear hO hx hy hB ha hb
  obtain ⟨al, ah⟩ := a
  obtain ⟨bl, bh⟩ := b
  go_enter Tryz.func131, Tryz.ntmps131
  go_wp2_with fail
  refine (HR.out _).mono ?_
  rintro e w1 ⟨rfl, g1⟩
  have Hz1 := (show Blk w1 (w.heap.size + 1 + 1) 98 #[.int .i64 0, .int .i64 0] from (show Blk ((((w.alloc (.cells #[.int .i64 al, .int .i64 ah] 98)).alloc (.cells #[.int .i64 bl, .int .i64 bh] 98)).alloc (.cells #[.int .i64 0, .int .i64 0] 98)).alloc (.cells #[.int .i64 0, .int .i64 0] 98)) _ _ _ from Blk.alloc (Blk.new' (by simp only [World.size_alloc])) _).grew g1)
  have Hu1 := (show Blk w1 (w.heap.size + 1 + 1 + 1) 98 #[.int .i64 0, .int .i64 0] from (show Blk ((((w.alloc (.cells #[.int .i64 al, .int .i64 ah] 98)).alloc (.cells #[.int .i64 bl, .int .i64 bh] 98)).alloc (.cells #[.int .i64 0, .int .i64 0] 98)).alloc (.cells #[.int .i64 0, .int .i64 0] 98)) _ _ _ from Blk.new' (by simp only [World.size_alloc])).grew g1)
  have HG1 := Lib.hid (show Grew w w1 from grew_tr (gr) g1)
  have cz0 := Hz1.cell 0
  have cz1 := Hz1.cell 1
  have fz := fun j => Hz1.frozen j
  have lz := Hz1.lt
  have cu0 := Hu1.cell 0
  have cu1 := Hu1.cell 1
  have fu := fun j => Hu1.frozen j
  have lu := Hu1.lt
  simp only [List.getElem?_toArray, List.getElem?_cons_zero, List.getElem?_cons_succ] at cz0 cz1 cu0 cu1
  clear g1 Hz1 Hu1
  have n0 : ¬ w.heap.size = w1.heap.size := by omega
  have m0 : ¬ w1.heap.size = w.heap.size := by omega
  have n1 : ¬ w.heap.size + 1 = w1.heap.size := by omega
  have m1 : ¬ w1.heap.size = w.heap.size + 1 := by omega
  have n2 : ¬ w.heap.size + 1 + 1 = w1.heap.size := by omega
  have m2 : ¬ w1.heap.size = w.heap.size + 1 + 1 := by omega
  have n3 : ¬ w.heap.size + 1 + 1 + 1 = w1.heap.size := by omega
  have m3 : ¬ w1.heap.size = w.heap.size + 1 + 1 + 1 := by omega
  have n4 : ¬ w.heap.size + 1 + 1 = w1.heap.size + 1 := by omega
  have m4 : ¬ w1.heap.size + 1 = w.heap.size + 1 + 1 := by omega
  have n5 : ¬ w.heap.size + 1 + 1 + 1 = w1.heap.size + 1 := by omega
  have m5 : ¬ w1.heap.size + 1 = w.heap.size + 1 + 1 + 1 := by omega
  have l2 : w.heap.size + 1 + 1 < w1.heap.size + 1 := by omega
  have l3 : w.heap.size + 1 + 1 + 1 < w1.heap.size + 1 := by omega
  go_wp2
  go_region
  go_wp2
  refine bodyPost_ret (by simp [results, Tryz.results131, go_sem, cz0, cz1, cu0, cu1, lz, lu, l2, l3]; try rfl) rfl ?_
  refine ⟨rfl, ?_⟩
  repeat (first | with_reducible exact HG1.out | with_reducible refine grew_set ?_ (by first | omega | (simp only; omega)) _ | with_reducible refine grew_d ?_ | with_reducible refine grew_al ?_ _)
set_option maxHeartbeats 4000000 in
theorem implItvNot2 (a b : Itv) (w : World) (ha : itvB a = true) (hb : itvB b = true) :
    Calls Tryz.prog 131 #[.int .i64 2, a.v, b.v] w fun e w' => e = .returned (relV (notI 2 a b)) ∧ Grew w w' := by
  have HR := Lib.hid (fun W => implItvRel1 b a W hb ha)
  rw [show notI 2 a b = swapI (relI 1 b a) from by simp [notI]]
  rw [relV_eq] at HR ⊢
  rw [rA_swap, rB_swap, some_swap]
  obtain ⟨O, hO⟩ : ∃ O, relI 1 b a = O := ⟨_, rfl⟩
  rw [hO] at HR ⊢
  obtain ⟨⟨xl, xh⟩, hx⟩ : ∃ x, rA O = x := ⟨_, rfl⟩
  obtain ⟨⟨yl, yh⟩, hy⟩ : ∃ x, rB O = x := ⟨_, rfl⟩
  obtain ⟨B, hB⟩ : ∃ x, O.isSome = x := ⟨_, rfl⟩
  rw [hx, hy, hB] at HR ⊢
  clear hO hx hy hB ha hb
  obtain ⟨al, ah⟩ := a
  obtain ⟨bl, bh⟩ := b
  go_enter Tryz.func131, Tryz.ntmps131
  go_wp2_with fail
  refine (HR.out _).mono ?_
  rintro e w1 ⟨rfl, g1⟩
  have Hz1 := (show Blk w1 (w.heap.size + 1 + 1) 98 #[.int .i64 0, .int .i64 0] from (show Blk ((((w.alloc (.cells #[.int .i64 al, .int .i64 ah] 98)).alloc (.cells #[.int .i64 bl, .int .i64 bh] 98)).alloc (.cells #[.int .i64 0, .int .i64 0] 98)).alloc (.cells #[.int .i64 0, .int .i64 0] 98)) _ _ _ from Blk.alloc (Blk.new' (by simp only [World.size_alloc])) _).grew g1)
  have Hu1 := (show Blk w1 (w.heap.size + 1 + 1 + 1) 98 #[.int .i64 0, .int .i64 0] from (show Blk ((((w.alloc (.cells #[.int .i64 al, .int .i64 ah] 98)).alloc (.cells #[.int .i64 bl, .int .i64 bh] 98)).alloc (.cells #[.int .i64 0, .int .i64 0] 98)).alloc (.cells #[.int .i64 0, .int .i64 0] 98)) _ _ _ from Blk.new' (by simp only [World.size_alloc])).grew g1)
  have HG1 := Lib.hid (show Grew w w1 from grew_tr (gr) g1)
  have cz0 := Hz1.cell 0
  have cz1 := Hz1.cell 1
  have fz := fun j => Hz1.frozen j
  have lz := Hz1.lt
  have cu0 := Hu1.cell 0
  have cu1 := Hu1.cell 1
  have fu := fun j => Hu1.frozen j
  have lu := Hu1.lt
  simp only [List.getElem?_toArray, List.getElem?_cons_zero, List.getElem?_cons_succ] at cz0 cz1 cu0 cu1
  clear g1 Hz1 Hu1
  have n0 : ¬ w.heap.size = w1.heap.size := by omega
  have m0 : ¬ w1.heap.size = w.heap.size := by omega
  have n1 : ¬ w.heap.size + 1 = w1.heap.size := by omega
  have m1 : ¬ w1.heap.size = w.heap.size + 1 := by omega
  have n2 : ¬ w.heap.size + 1 + 1 = w1.heap.size := by omega
  have m2 : ¬ w1.heap.size = w.heap.size + 1 + 1 := by omega
  have n3 : ¬ w.heap.size + 1 + 1 + 1 = w1.heap.size := by omega
  have m3 : ¬ w1.heap.size = w.heap.size + 1 + 1 + 1 := by omega
  have n4 : ¬ w.heap.size + 1 + 1 = w1.heap.size + 1 := by omega
  have m4 : ¬ w1.heap.size + 1 = w.heap.size + 1 + 1 := by omega
  have n5 : ¬ w.heap.size + 1 + 1 + 1 = w1.heap.size + 1 := by omega
  have m5 : ¬ w1.heap.size + 1 = w.heap.size + 1 + 1 + 1 := by omega
  have l2 : w.heap.size + 1 + 1 < w1.heap.size + 1 := by omega
  have l3 : w.heap.size + 1 + 1 + 1 < w1.heap.size + 1 := by omega
  go_wp2
  go_region
  go_wp2
  refine bodyPost_ret (by simp [results, Tryz.results131, go_sem, cz0, cz1, cu0, cu1, lz, lu, l2, l3]; try rfl) rfl ?_
  refine ⟨rfl, ?_⟩
  repeat (first | with_reducible exact HG1.out | with_reducible refine grew_set ?_ (by first | omega | (simp only; omega)) _ | with_reducible refine grew_d ?_ | with_reducible refine grew_al ?_ _)
set_option maxHeartbeats 4000000 in
theorem implItvNot3 (a b : Itv) (w : World) (ha : itvB a = true) (hb : itvB b = true) :
    Calls Tryz.prog 131 #[.int .i64 3, a.v, b.v] w fun e w' => e = .returned (relV (notI 3 a b)) ∧ Grew w w' := by
  have HR := Lib.hid (fun W => implItvRel4 a b W ha hb)
  rw [show notI 3 a b = relI 4 a b from by simp [notI]]
  rw [relV_eq] at HR ⊢
  obtain ⟨O, hO⟩ : ∃ O, relI 4 a b = O := ⟨_, rfl⟩
  rw [hO] at HR ⊢
  obtain ⟨⟨xl, xh⟩, hx⟩ : ∃ x, rA O = x := ⟨_, rfl⟩
  obtain ⟨⟨yl, yh⟩, hy⟩ : ∃ x, rB O = x := ⟨_, rfl⟩
  obtain ⟨B, hB⟩ : ∃ x, O.isSome = x := ⟨_, rfl⟩
  rw [hx, hy, hB] at HR ⊢
  clear hO hx hy hB ha hb
  obtain ⟨al, ah⟩ := a
  obtain ⟨bl, bh⟩ := b
  go_enter Tryz.func131, Tryz.ntmps131
  go_wp2_with fail
  refine (HR.out _).mono ?_
  rintro e w1 ⟨rfl, g1⟩
  have Hz1 := (show Blk w1 (w.heap.size + 1 + 1) 98 #[.int .i64 0, .int .i64 0] from (show Blk ((((w.alloc (.cells #[.int .i64 al, .int .i64 ah] 98)).alloc (.cells #[.int .i64 bl, .int .i64 bh] 98)).alloc (.cells #[.int .i64 0, .int .i64 0] 98)).alloc (.cells #[.int .i64 0, .int .i64 0] 98)) _ _ _ from Blk.alloc (Blk.new' (by simp only [World.size_alloc])) _).grew g1)
  have Hu1 := (show Blk w1 (w.heap.size + 1 + 1 + 1) 98 #[.int .i64 0, .int .i64 0] from (show Blk ((((w.alloc (.cells #[.int .i64 al, .int .i64 ah] 98)).alloc (.cells #[.int .i64 bl, .int .i64 bh] 98)).alloc (.cells #[.int .i64 0, .int .i64 0] 98)).alloc (.cells #[.int .i64 0, .int .i64 0] 98)) _ _ _ from Blk.new' (by simp only [World.size_alloc])).grew g1)
  have HG1 := Lib.hid (show Grew w w1 from grew_tr (gr) g1)
  have cz0 := Hz1.cell 0
  have cz1 := Hz1.cell 1
  have fz := fun j => Hz1.frozen j
  have lz := Hz1.lt
  have cu0 := Hu1.cell 0
  have cu1 := Hu1.cell 1
  have fu := fun j => Hu1.frozen j
  have lu := Hu1.lt
  simp only [List.getElem?_toArray, List.getElem?_cons_zero, List.getElem?_cons_succ] at cz0 cz1 cu0 cu1
  clear g1 Hz1 Hu1
  go_wp2
  refine bodyPost_ret (by simp [results, Tryz.results131, go_sem, cz0, cz1, cu0, cu1, lz, lu]; try rfl) rfl ?_
  refine ⟨rfl, ?_⟩
  repeat (first | with_reducible exact HG1.out | with_reducible refine grew_set ?_ (by first | omega | (simp only; omega)) _ | with_reducible refine grew_d ?_ | with_reducible refine grew_al ?_ _)
set_option maxHeartbeats 4000000 in
theorem implItvNot4 (a b : Itv) (w : World) (ha : itvB a = true) (hb : itvB b = true) :
    Calls Tryz.prog 131 #[.int .i64 4, a.v, b.v] w fun e w' => e = .returned (relV (notI 4 a b)) ∧ Grew w w' := by
  have HR := Lib.hid (fun W => implItvRel3 a b W ha hb)
  rw [show notI 4 a b = relI 3 a b from by simp [notI]]
  rw [relV_eq] at HR ⊢
  obtain ⟨O, hO⟩ : ∃ O, relI 3 a b = O := ⟨_, rfl⟩
  rw [hO] at HR ⊢
  obtain ⟨⟨xl, xh⟩, hx⟩ : ∃ x, rA O = x := ⟨_, rfl⟩
  obtain ⟨⟨yl, yh⟩, hy⟩ : ∃ x, rB O = x := ⟨_, rfl⟩
  obtain ⟨B, hB⟩ : ∃ x, O.isSome = x := ⟨_, rfl⟩
  rw [hx, hy, hB] at HR ⊢
  clear hO hx hy hB ha hb
  obtain ⟨al, ah⟩ := a
  obtain ⟨bl, bh⟩ := b
  go_enter Tryz.func131, Tryz.ntmps131
  go_wp2_with fail
  refine (HR.out _).mono ?_
  rintro e w1 ⟨rfl, g1⟩
  have Hz1 := (show Blk w1 (w.heap.size + 1 + 1) 98 #[.int .i64 0, .int .i64 0] from (show Blk ((((w.alloc (.cells #[.int .i64 al, .int .i64 ah] 98)).alloc (.cells #[.int .i64 bl, .int .i64 bh] 98)).alloc (.cells #[.int .i64 0, .int .i64 0] 98)).alloc (.cells #[.int .i64 0, .int .i64 0] 98)) _ _ _ from Blk.alloc (Blk.new' (by simp only [World.size_alloc])) _).grew g1)
  have Hu1 := (show Blk w1 (w.heap.size + 1 + 1 + 1) 98 #[.int .i64 0, .int .i64 0] from (show Blk ((((w.alloc (.cells #[.int .i64 al, .int .i64 ah] 98)).alloc (.cells #[.int .i64 bl, .int .i64 bh] 98)).alloc (.cells #[.int .i64 0, .int .i64 0] 98)).alloc (.cells #[.int .i64 0, .int .i64 0] 98)) _ _ _ from Blk.new' (by simp only [World.size_alloc])).grew g1)
  have HG1 := Lib.hid (show Grew w w1 from grew_tr (gr) g1)
  have cz0 := Hz1.cell 0
  have cz1 := Hz1.cell 1
  have fz := fun j => Hz1.frozen j
  have lz := Hz1.lt
  have cu0 := Hu1.cell 0
  have cu1 := Hu1.cell 1
  have fu := fun j => Hu1.frozen j
  have lu := Hu1.lt
  simp only [List.getElem?_toArray, List.getElem?_cons_zero, List.getElem?_cons_succ] at cz0 cz1 cu0 cu1
  clear g1 Hz1 Hu1
  go_wp2
  refine bodyPost_ret (by simp [results, Tryz.results131, go_sem, cz0, cz1, cu0, cu1, lz, lu]; try rfl) rfl ?_
  refine ⟨rfl, ?_⟩
  repeat (first | with_reducible exact HG1.out | with_reducible refine grew_set ?_ (by first | omega | (simp only; omega)) _ | with_reducible refine grew_d ?_ | with_reducible refine grew_al ?_ _)
set_option maxHeartbeats 4000000 in
theorem specItvNot1 (a b : Itv) (w : World) (ha : itvB a = true) (hb : itvB b = true) :
    Calls Tryz.prog 82 #[.int .i64 1, a.v, b.v] w fun e w' => e = .returned (relV (notI 1 a b)) ∧ Grew w w' := by
  have HR := Lib.hid (fun W => specItvRel2 b a W hb ha)
  rw [show notI 1 a b = swapI (relI 2 b a) from by simp [notI]]
  rw [relV_eq] at HR ⊢
  rw [rA_swap, rB_swap, some_swap]
  obtain ⟨O, hO⟩ : ∃ O, relI 2 b a = O := ⟨_, rfl⟩
  rw [hO] at HR ⊢
  obtain ⟨⟨xl, xh⟩, hx⟩ : ∃ x, rA O = x := ⟨_, rfl⟩
  obtain ⟨⟨yl, yh⟩, hy⟩ : ∃ x, rB O = x := ⟨_, rfl⟩
  obtain ⟨B, hB⟩ : ∃ x, O.isSome = x := ⟨_, rfl⟩
  rw [hx, hy, hB] at HR ⊢
  clear hO hx hy hB ha hb
  obtain ⟨al, ah⟩ := a
  obtain ⟨bl, bh⟩ := b
  go_enter Tryz.func82, Tryz.ntmps82
  go_wp2_with fail
  refine (HR.out _).mono ?_
  rintro e w1 ⟨rfl, g1⟩
  have Hz1 := (show Blk w1 (w.heap.size + 1 + 1) 98 #[.int .i64 0, .int .i64 0] from (show Blk ((((w.alloc (.cells #[.int .i64 al, .int .i64 ah] 98)).alloc (.cells #[.int .i64 bl, .int .i64 bh] 98)).alloc (.cells #[.int .i64 0, .int .i64 0] 98)).alloc (.cells #[.int .i64 0, .int .i64 0] 98)) _ _ _ from Blk.alloc (Blk.new' (by simp only [World.size_alloc])) _).grew g1)
  have Hu1 := (show Blk w1 (w.heap.size + 1 + 1 + 1) 98 #[.int .i64 0, .int .i64 0] from (show Blk ((((w.alloc (.cells #[.int .i64 al, .int .i64 ah] 98)).alloc (.cells #[.int .i64 bl, .int .i64 bh] 98)).alloc (.cells #[.int .i64 0, .int .i64 0] 98)).alloc (.cells #[.int .i64 0, .int .i64 0] 98)) _ _ _ from Blk.new' (by simp only [World.size_alloc])).grew g1)
  have HG1 := Lib.hid (show Grew w w1 from grew_tr (gr) g1)
  have cz0 := Hz1.cell 0
  have cz1 := Hz1.cell 1
  have fz := fun j => Hz1.frozen j
  have lz := Hz1.lt
  have cu0 := Hu1.cell 0
  have cu1 := Hu1.cell 1
  have fu := fun j => Hu1.frozen j
  have lu := Hu1.lt
  simp only [List.getElem?_toArray, List.getElem?_cons_zero, List.getElem?_cons_succ] at cz0 cz1 cu0 cu1
  clear g1 Hz1 Hu1
  have n0 : ¬ w.heap.size = w1.heap.size := by omega
  have m0 : ¬ w1.heap.size = w.heap.size := by omega
  have n1 : ¬ w.heap.size + 1 = w1.heap.size := by omega
  have m1 : ¬ w1.heap.size = w.heap.size + 1 := by omega
  have n2 : ¬ w.heap.size + 1 + 1 = w1.heap.size := by omega
  have m2 : ¬ w1.heap.size = w.heap.size + 1 + 1 := by omega
  have n3 : ¬ w.heap.size + 1 + 1 + 1 = w1.heap.size := by omega
  have m3 : ¬ w1.heap.size = w.heap.size + 1 + 1 + 1 := by omega
  have n4 : ¬ w.heap.size + 1 + 1 = w1.heap.size + 1 := by omega
  have m4 : ¬ w1.heap.size + 1 = w.heap.size + 1 + 1 := by omega
  have n5 : ¬ w.heap.size + 1 + 1 + 1 = w1.heap.size + 1 := by omega
  have m5 : ¬ w1.heap.size + 1 = w.heap.size + 1 + 1 + 1 := by omega
  have l2 : w.heap.size + 1 + 1 < w1.heap.size + 1 := by omega
  have l3 : w.heap.size + 1 + 1 + 1 < w1.heap.size + 1 := by omega
  go_wp2
  go_region
  go_wp2
  refine bodyPost_ret (by simp [results, Tryz.results82, go_sem, cz0, cz1, cu0, cu1, lz, lu, l2, l3]; try rfl) rfl ?_
  refine ⟨rfl, ?_⟩
  repeat (first | with_reducible exact HG1.out | with_reducible refine grew_set ?_ (by first | omega | (simp only; omega)) _ | with_reducible refine grew_d ?_ | with_reducible refine grew_al ?_ _)
set_option maxHeartbeats 4000000 in
theorem specItvNot2 (a b : Itv) (w : World) (ha : itvB a = true) (hb : itvB b = true) :
    Calls Tryz.prog 82 #[.int .i64 2, a.v, b.v] w fun e w' => e = .returned (relV (notI 2 a b)) ∧ Grew w w' := by
  have HR := Lib.hid (fun W => specItvRel1 b a W hb ha)
  rw [show notI 2 a b = swapI (relI 1 b a) from by simp [notI]]
  rw [relV_eq] at HR ⊢
  rw [rA_swap, rB_swap, some_swap]
  obtain ⟨O, hO⟩ : ∃ O, relI 1 b a = O := ⟨_, rfl⟩
  rw [hO] at HR ⊢
  obtain ⟨⟨xl, xh⟩, hx⟩ : ∃ x, rA O = x := ⟨_, rfl⟩
  obtain ⟨⟨yl, yh⟩, hy⟩ : ∃ x, rB O = x := ⟨_, rfl⟩
  obtain ⟨B, hB⟩ : ∃ x, O.isSome = x := ⟨_, rfl⟩
  rw [hx, hy, hB] at HR ⊢
  clear hO hx hy hB ha hb
  obtain ⟨al, ah⟩ := a
  obtain ⟨bl, bh⟩ := b
  go_enter Tryz.func82, Tryz.ntmps82
  go_wp2_with fail
  refine (HR.out _).mono ?_
  rintro e w1 ⟨rfl, g1⟩
  have Hz1 := (show Blk w1 (w.heap.size + 1 + 1) 98 #[.int .i64 0, .int .i64 0] from (show Blk ((((w.alloc (.cells #[.int .i64 al, .int .i64 ah] 98)).alloc (.cells #[.int .i64 bl, .int .i64 bh] 98)).alloc (.cells #[.int .i64 0, .int .i64 0] 98)).alloc (.cells #[.int .i64 0, .int .i64 0] 98)) _ _ _ from Blk.alloc (Blk.new' (by simp only [World.size_alloc])) _).grew g1)
  have Hu1 := (show Blk w1 (w.heap.size + 1 + 1 + 1) 98 #[.int .i64 0, .int .i64 0] from (show Blk ((((w.alloc (.cells #[.int .i64 al, .int .i64 ah] 98)).alloc (.cells #[.int .i64 bl, .int .i64 bh] 98)).alloc (.cells #[.int .i64 0, .int .i64 0] 98)).alloc (.cells #[.int .i64 0, .int .i64 0] 98)) _ _ _ from Blk.new' (by simp only [World.size_alloc])).grew g1)
  have HG1 := Lib.hid (show Grew w w1 from grew_tr (gr) g1)
  have cz0 := Hz1.cell 0
  have cz1 := Hz1.cell 1
  have fz := fun j => Hz1.frozen j
  have lz := Hz1.lt
  have cu0 := Hu1.cell 0
  have cu1 := Hu1.cell 1
  have fu := fun j => Hu1.frozen j
  have lu := Hu1.lt
  simp only [List.getElem?_toArray, List.getElem?_cons_zero, List.getElem?_cons_succ] at cz0 cz1 cu0 cu1
  clear g1 Hz1 Hu1
  have n0 : ¬ w.heap.size = w1.heap.size := by omega
  have m0 : ¬ w1.heap.size = w.heap.size := by omega
  have n1 : ¬ w.heap.size + 1 = w1.heap.size := by omega
  have m1 : ¬ w1.heap.size = w.heap.size + 1 := by omega
  have n2 : ¬ w.heap.size + 1 + 1 = w1.heap.size := by omega
  have m2 : ¬ w1.heap.size = w.heap.size + 1 + 1 := by omega
  have n3 : ¬ w.heap.size + 1 + 1 + 1 = w1.heap.size := by omega
  have m3 : ¬ w1.heap.size = w.heap.size + 1 + 1 + 1 := by omega
  have n4 : ¬ w.heap.size + 1 + 1 = w1.heap.size + 1 := by omega
  have m4 : ¬ w1.heap.size + 1 = w.heap.size + 1 + 1 := by omega
  have n5 : ¬ w.heap.size + 1 + 1 + 1 = w1.heap.size + 1 := by omega
  have m5 : ¬ w1.heap.size + 1 = w.heap.size + 1 + 1 + 1 := by omega
  have l2 : w.heap.size + 1 + 1 < w1.heap.size + 1 := by omega
  have l3 : w.heap.size + 1 + 1 + 1 < w1.heap.size + 1 := by omega
  go_wp2
  go_region
  go_wp2
  refine bodyPost_ret (by simp [results, Tryz.results82, go_sem, cz0, cz1, cu0, cu1, lz, lu, l2, l3]; try rfl) rfl ?_
  refine ⟨rfl, ?_⟩
  repeat (first | with_reducible exact HG1.out | with_reducible refine grew_set ?_ (by first | omega | (simp only; omega)) _ | with_reducible refine grew_d ?_ | with_reducible refine grew_al ?_ _)
set_option maxHeartbeats 4000000 in
theorem specItvNot3 (a b : Itv) (w : World) (ha : itvB a = true) (hb : itvB b = true) :
    Calls Tryz.prog 82 #[.int .i64 3, a.v, b.v] w fun e w' => e = .returned (relV (notI 3 a b)) ∧ Grew w w' := by
  have HR := Lib.hid (fun W => specItvRel4 a b W ha hb)
  rw [show notI 3 a b = relI 4 a b from by simp [notI]]
  rw [relV_eq] at HR ⊢
  obtain ⟨O, hO⟩ : ∃ O, relI 4 a b = O := ⟨_, rfl⟩
  rw [hO] at HR ⊢
  obtain ⟨⟨xl, xh⟩, hx⟩ : ∃ x, rA O = x := ⟨_, rfl⟩
  obtain ⟨⟨yl, yh⟩, hy⟩ : ∃ x, rB O = x := ⟨_, rfl⟩
  obtain ⟨B, hB⟩ : ∃ x, O.isSome = x := ⟨_, rfl⟩
  rw [hx, hy, hB] at HR ⊢
  clear hO hx hy hB ha hb
  obtain ⟨al, ah⟩ := a
  obtain ⟨bl, bh⟩ := b
  go_enter Tryz.func82, Tryz.ntmps82
  go_wp2_with fail
  refine (HR.out _).mono ?_
  rintro e w1 ⟨rfl, g1⟩
  have Hz1 := (show Blk w1 (w.heap.size + 1 + 1) 98 #[.int .i64 0, .int .i64 0] from (show Blk ((((w.alloc (.cells #[.int .i64 al, .int .i64 ah] 98)).alloc (.cells #[.int .i64 bl, .int .i64 bh] 98)).alloc (.cells #[.int .i64 0, .int .i64 0] 98)).alloc (.cells #[.int .i64 0, .int .i64 0] 98)) _ _ _ from Blk.alloc (Blk.new' (by simp only [World.size_alloc])) _).grew g1)
  have Hu1 := (show Blk w1 (w.heap.size + 1 + 1 + 1) 98 #[.int .i64 0, .int .i64 0] from (show Blk ((((w.alloc (.cells #[.int .i64 al, .int .i64 ah] 98)).alloc (.cells #[.int .i64 bl, .int .i64 bh] 98)).alloc (.cells #[.int .i64 0, .int .i64 0] 98)).alloc (.cells #[.int .i64 0, .int .i64 0] 98)) _ _ _ from Blk.new' (by simp only [World.size_alloc])).grew g1)
  have HG1 := Lib.hid (show Grew w w1 from grew_tr (gr) g1)
  have cz0 := Hz1.cell 0
  have cz1 := Hz1.cell 1
  have fz := fun j => Hz1.frozen j
  have lz := Hz1.lt
  have cu0 := Hu1.cell 0
  have cu1 := Hu1.cell 1
  have fu := fun j => Hu1.frozen j
  have lu := Hu1.lt
  simp only [List.getElem?_toArray, List.getElem?_cons_zero, List.getElem?_cons_succ] at cz0 cz1 cu0 cu1
  clear g1 Hz1 Hu1
  go_wp2
  refine bodyPost_ret (by simp [results, Tryz.results82, go_sem, cz0, cz1, cu0, cu1, lz, lu]; try rfl) rfl ?_
  refine ⟨rfl, ?_⟩
  repeat (first | with_reducible exact HG1.out | with_reducible refine grew_set ?_ (by first | omega | (simp only; omega)) _ | with_reducible refine grew_d ?_ | with_reducible refine grew_al ?_ _)
set_option maxHeartbeats 4000000 in
theorem specItvNot4 (a b : Itv) (w : World) (ha : itvB a = true) (hb : itvB b = true) :
    Calls Tryz.prog 82 #[.int .i64 4, a.v, b.v] w fun e w' => e = .returned (relV (notI 4 a b)) ∧ Grew w w' := by
  have HR := Lib.hid (fun W => specItvRel3 a b W ha hb)
  rw [show notI 4 a b = relI 3 a b from by simp [notI]]
  rw [relV_eq] at HR ⊢
  obtain ⟨O, hO⟩ : ∃ O, relI 3 a b = O := ⟨_, rfl⟩
  rw [hO] at HR ⊢
  obtain ⟨⟨xl, xh⟩, hx⟩ : ∃ x, rA O = x := ⟨_, rfl⟩
  obtain ⟨⟨yl, yh⟩, hy⟩ : ∃ x, rB O = x := ⟨_, rfl⟩
  obtain ⟨B, hB⟩ : ∃ x, O.isSome = x := ⟨_, rfl⟩
  rw [hx, hy, hB] at HR ⊢
  clear hO hx hy hB ha hb
  obtain ⟨al, ah⟩ := a
  obtain ⟨bl, bh⟩ := b
  go_enter Tryz.func82, Tryz.ntmps82
  go_wp2_with fail
  refine (HR.out _).mono ?_
  rintro e w1 ⟨rfl, g1⟩
  have Hz1 := (show Blk w1 (w.heap.size + 1 + 1) 98 #[.int .i64 0, .int .i64 0] from (show Blk ((((w.alloc (.cells #[.int .i64 al, .int .i64 ah] 98)).alloc (.cells #[.int .i64 bl, .int .i64 bh] 98)).alloc (.cells #[.int .i64 0, .int .i64 0] 98)).alloc (.cells #[.int .i64 0, .int .i64 0] 98)) _ _ _ from Blk.alloc (Blk.new' (by simp only [World.size_alloc])) _).grew g1)
  have Hu1 := (show Blk w1 (w.heap.size + 1 + 1 + 1) 98 #[.int .i64 0, .int .i64 0] from (show Blk ((((w.alloc (.cells #[.int .i64 al, .int .i64 ah] 98)).alloc (.cells #[.int .i64 bl, .int .i64 bh] 98)).alloc (.cells #[.int .i64 0, .int .i64 0] 98)).alloc (.cells #[.int .i64 0, .int .i64 0] 98)) _ _ _ from Blk.new' (by simp only [World.size_alloc])).grew g1)
  have HG1 := Lib.hid (show Grew w w1 from grew_tr (gr) g1)
  have cz0 := Hz1.cell 0
  have cz1 := Hz1.cell 1
  have fz := fun j => Hz1.frozen j
  have lz := Hz1.lt
  have cu0 := Hu1.cell 0
  have cu1 := Hu1.cell 1
  have fu := fun j => Hu1.frozen j
  have lu := Hu1.lt
  simp only [List.getElem?_toArray, List.getElem?_cons_zero, List.getElem?_cons_succ] at cz0 cz1 cu0 cu1
  clear g1 Hz1 Hu1
  go_wp2
  refine bodyPost_ret (by simp [results, Tryz.results82, go_sem, cz0, cz1, cu0, cu1, lz, lu]; try rfl) rfl ?_
  refine ⟨rfl, ?_⟩
  repeat (first | with_reducible exact HG1.out | with_reducible refine grew_set ?_ (by first | omega | (simp only; omega)) _ | with_reducible refine grew_d ?_ | with_reducible refine grew_al ?_ _)
end Go.Proofs.YtdddhnepanjmfaaGreat
