/- What a relation leaves of two bounds: the reference's ItvRel. No condition. -/
import Derived.Test.YtdddhnepanjmfaaGreatRelS
import Derived.Test.YtdddhnepanjmfaaGreatItvM
namespace Go.Proofs.YtdddhnepanjmfaaGreat
open Go.RowKit
set_option linter.unusedVariables false
set_option linter.unusedSimpArgs false
attribute [local go_sem] ext_cell ext_frozen ext_lt ext_le ext_le1 lt_s2 lt_s3 lt_s4 lt_s5 lt_s6 ext_lt1 ext_lt2 ext_lt3

set_option maxHeartbeats 4000000 in
theorem specItvRel1 (a b : Itv) (w : World) (ha : itvB a = true) (hb : itvB b = true) :
    Calls Tryz.prog 114 #[.int .i64 1, a.v, b.v] w fun e w' => e = .returned (relV (relI 1 a b)) ∧ Grew w w' := by
  have hA := fun W => specItvOk a W
  have hB := fun W => specItvOk b W
  rw [show itvOkB a.lo a.hi = true from ha] at hA
  rw [show itvOkB b.lo b.hi = true from hb] at hB
  have HA := Lib.hid hA
  have HB := Lib.hid hB
  have HR := Lib.hid (fun (W : World) (x y : Itv) (h : bothI x y = relI 1 a b) => (by rw [← h]; exact specL2Both x y W : Calls Tryz.prog 148 #[x.v, y.v] W fun e w' => e = .returned (relV (relI 1 a b)) ∧ Grew W w'))
  have hS := rel1_spec ha hb
  rw [relV_eq] at HR ⊢
  obtain ⟨al, ah⟩ := a
  obtain ⟨bl, bh⟩ := b
  rw [itvB_iff] at ha hb
  simp only at ha hb hS HA HB HR ⊢
  obtain ⟨O, hO⟩ : ∃ O, relI 1 ⟨al, ah⟩ ⟨bl, bh⟩ = O := ⟨_, rfl⟩
  rw [hO] at hS HR ⊢
  obtain ⟨⟨xl, xh⟩, hx⟩ : ∃ x, rA O = x := ⟨_, rfl⟩
  obtain ⟨⟨yl, yh⟩, hy⟩ : ∃ x, rB O = x := ⟨_, rfl⟩
  obtain ⟨B, hB⟩ : ∃ x, O.isSome = x := ⟨_, rfl⟩
  rw [hx, hy, hB] at HR ⊢
  clear hA hO hx hy hB
  have HS := Lib.hid hS
  clear hS
  go_enter Tryz.func114, Tryz.ntmps114
  go_wp2_with fail
  refine (HA.out _).mono ?_
  rintro e w1 ⟨rfl, g1⟩
  have Ha1 := Lib.hid (show Blk w1 (w.heap.size) 98 #[.int .i64 al, .int .i64 ah] from (show Blk ((((w.alloc (.cells #[.int .i64 al, .int .i64 ah] 98)).alloc (.cells #[.int .i64 bl, .int .i64 bh] 98)).alloc (.cells #[.int .i64 0, .int .i64 0] 98)).alloc (.cells #[.int .i64 0, .int .i64 0] 98)) _ _ _ from Blk.alloc (Blk.alloc (Blk.alloc (Blk.new' (by simp only [World.size_alloc])) _) _) _).grew g1)
  have Hb1 := Lib.hid (show Blk w1 (w.heap.size + 1) 98 #[.int .i64 bl, .int .i64 bh] from (show Blk ((((w.alloc (.cells #[.int .i64 al, .int .i64 ah] 98)).alloc (.cells #[.int .i64 bl, .int .i64 bh] 98)).alloc (.cells #[.int .i64 0, .int .i64 0] 98)).alloc (.cells #[.int .i64 0, .int .i64 0] 98)) _ _ _ from Blk.alloc (Blk.alloc (Blk.new' (by simp only [World.size_alloc])) _) _).grew g1)
  have Hz1 := Lib.hid (show Blk w1 (w.heap.size + 1 + 1) 98 #[.int .i64 0, .int .i64 0] from (show Blk ((((w.alloc (.cells #[.int .i64 al, .int .i64 ah] 98)).alloc (.cells #[.int .i64 bl, .int .i64 bh] 98)).alloc (.cells #[.int .i64 0, .int .i64 0] 98)).alloc (.cells #[.int .i64 0, .int .i64 0] 98)) _ _ _ from Blk.alloc (Blk.new' (by simp only [World.size_alloc])) _).grew g1)
  have Hu1 := Lib.hid (show Blk w1 (w.heap.size + 1 + 1 + 1) 98 #[.int .i64 0, .int .i64 0] from (show Blk ((((w.alloc (.cells #[.int .i64 al, .int .i64 ah] 98)).alloc (.cells #[.int .i64 bl, .int .i64 bh] 98)).alloc (.cells #[.int .i64 0, .int .i64 0] 98)).alloc (.cells #[.int .i64 0, .int .i64 0] 98)) _ _ _ from Blk.new' (by simp only [World.size_alloc])).grew g1)
  have HG1 := Lib.hid (show Grew w w1 from grew_tr (gr) g1)
  clear g1
  have ca0 := Ha1.out.cell 0
  have ca1 := Ha1.out.cell 1
  have fa := fun j => Ha1.out.frozen j
  have la := Ha1.out.lt
  have cb0 := Hb1.out.cell 0
  have cb1 := Hb1.out.cell 1
  have fb := fun j => Hb1.out.frozen j
  have lb := Hb1.out.lt
  have cz0 := Hz1.out.cell 0
  have cz1 := Hz1.out.cell 1
  have fz := fun j => Hz1.out.frozen j
  have lz := Hz1.out.lt
  have cu0 := Hu1.out.cell 0
  have cu1 := Hu1.out.cell 1
  have fu := fun j => Hu1.out.frozen j
  have lu := Hu1.out.lt
  simp only [List.getElem?_toArray, List.getElem?_cons_zero, List.getElem?_cons_succ] at ca0 ca1 cb0 cb1 cz0 cz1 cu0 cu1
  go_wp2_with fail
  refine (HB.out _).mono ?_
  rintro e w2 ⟨rfl, g2⟩
  clear ca0 ca1 fa la cb0 cb1 fb lb cz0 cz1 fz lz cu0 cu1 fu lu
  have Ha2 := Lib.hid (Ha1.out.grew g2)
  have Hb2 := Lib.hid (Hb1.out.grew g2)
  have Hz2 := Lib.hid (Hz1.out.grew g2)
  have Hu2 := Lib.hid (Hu1.out.grew g2)
  have HG2 := Lib.hid (grew_tr HG1.out g2)
  clear HG1 Ha1 Hb1 Hz1 Hu1
  clear g2
  have ca0 := Ha2.out.cell 0
  have ca1 := Ha2.out.cell 1
  have fa := fun j => Ha2.out.frozen j
  have la := Ha2.out.lt
  have cb0 := Hb2.out.cell 0
  have cb1 := Hb2.out.cell 1
  have fb := fun j => Hb2.out.frozen j
  have lb := Hb2.out.lt
  have cz0 := Hz2.out.cell 0
  have cz1 := Hz2.out.cell 1
  have fz := fun j => Hz2.out.frozen j
  have lz := Hz2.out.lt
  have cu0 := Hu2.out.cell 0
  have cu1 := Hu2.out.cell 1
  have fu := fun j => Hu2.out.frozen j
  have lu := Hu2.out.lt
  simp only [List.getElem?_toArray, List.getElem?_cons_zero, List.getElem?_cons_succ] at ca0 ca1 cb0 cb1 cz0 cz1 cu0 cu1
  clear HA HB
  go_wp2_with fail
  all_goals
    refine (HR.out _ ⟨_, _⟩ ⟨_, _⟩ ((congr (congrArg bothI (itv_eq (by omega) (by omega))) (itv_eq (by omega) (by omega))).trans HS.out)).mono ?_
    rintro e w3 ⟨rfl, g3'⟩
    have g3 : Grew w2 w3 := by first | with_reducible exact g3' | exact grew_tr (grew_al (Below.refl _ _) _) g3'
    clear g3'
    clear ca0 ca1 fa la cb0 cb1 fb lb cz0 cz1 fz lz cu0 cu1 fu lu
    have Ha3 := Lib.hid (Ha2.out.grew g3)
    have Hb3 := Lib.hid (Hb2.out.grew g3)
    have Hz3 := Lib.hid (Hz2.out.grew g3)
    have Hu3 := Lib.hid (Hu2.out.grew g3)
    have HG3 := Lib.hid (grew_tr HG2.out g3)
    clear HG2 Ha2 Hb2 Hz2 Hu2
    clear g3
    have ca0 := Ha3.out.cell 0
    have ca1 := Ha3.out.cell 1
    have fa := fun j => Ha3.out.frozen j
    have la := Ha3.out.lt
    have cb0 := Hb3.out.cell 0
    have cb1 := Hb3.out.cell 1
    have fb := fun j => Hb3.out.frozen j
    have lb := Hb3.out.lt
    have cz0 := Hz3.out.cell 0
    have cz1 := Hz3.out.cell 1
    have fz := fun j => Hz3.out.frozen j
    have lz := Hz3.out.lt
    have cu0 := Hu3.out.cell 0
    have cu1 := Hu3.out.cell 1
    have fu := fun j => Hu3.out.frozen j
    have lu := Hu3.out.lt
    simp only [List.getElem?_toArray, List.getElem?_cons_zero, List.getElem?_cons_succ] at ca0 ca1 cb0 cb1 cz0 cz1 cu0 cu1
    go_wp2
    refine bodyPost_ret (by simp [results, Tryz.results114, go_sem, cz0, cz1, cu0, cu1, lz, lu]; try rfl) rfl ?_
    refine ⟨rfl, ?_⟩
    repeat (first | with_reducible exact HG3.out | with_reducible refine grew_set ?_ (by first | omega | (simp only; omega)) _ | with_reducible refine grew_d ?_ | with_reducible refine grew_al ?_ _)
set_option maxHeartbeats 4000000 in
theorem specItvRel2 (a b : Itv) (w : World) (ha : itvB a = true) (hb : itvB b = true) :
    Calls Tryz.prog 114 #[.int .i64 2, a.v, b.v] w fun e w' => e = .returned (relV (relI 2 a b)) ∧ Grew w w' := by
  have hA := fun W => specItvOk a W
  have hB := fun W => specItvOk b W
  rw [show itvOkB a.lo a.hi = true from ha] at hA
  rw [show itvOkB b.lo b.hi = true from hb] at hB
  have HA := Lib.hid hA
  have HB := Lib.hid hB
  have HR := Lib.hid (fun (W : World) (x y : Itv) (h : bothI x y = relI 2 a b) => (by rw [← h]; exact specL2Both x y W : Calls Tryz.prog 148 #[x.v, y.v] W fun e w' => e = .returned (relV (relI 2 a b)) ∧ Grew W w'))
  have hS := rel2_spec ha hb
  rw [relV_eq] at HR ⊢
  obtain ⟨al, ah⟩ := a
  obtain ⟨bl, bh⟩ := b
  rw [itvB_iff] at ha hb
  simp only at ha hb hS HA HB HR ⊢
  obtain ⟨O, hO⟩ : ∃ O, relI 2 ⟨al, ah⟩ ⟨bl, bh⟩ = O := ⟨_, rfl⟩
  rw [hO] at hS HR ⊢
  obtain ⟨⟨xl, xh⟩, hx⟩ : ∃ x, rA O = x := ⟨_, rfl⟩
  obtain ⟨⟨yl, yh⟩, hy⟩ : ∃ x, rB O = x := ⟨_, rfl⟩
  obtain ⟨B, hB⟩ : ∃ x, O.isSome = x := ⟨_, rfl⟩
  rw [hx, hy, hB] at HR ⊢
  clear hA hO hx hy hB
  have HS := Lib.hid hS
  clear hS
  go_enter Tryz.func114, Tryz.ntmps114
  go_wp2_with fail
  refine (HA.out _).mono ?_
  rintro e w1 ⟨rfl, g1⟩
  have Ha1 := Lib.hid (show Blk w1 (w.heap.size) 98 #[.int .i64 al, .int .i64 ah] from (show Blk ((((w.alloc (.cells #[.int .i64 al, .int .i64 ah] 98)).alloc (.cells #[.int .i64 bl, .int .i64 bh] 98)).alloc (.cells #[.int .i64 0, .int .i64 0] 98)).alloc (.cells #[.int .i64 0, .int .i64 0] 98)) _ _ _ from Blk.alloc (Blk.alloc (Blk.alloc (Blk.new' (by simp only [World.size_alloc])) _) _) _).grew g1)
  have Hb1 := Lib.hid (show Blk w1 (w.heap.size + 1) 98 #[.int .i64 bl, .int .i64 bh] from (show Blk ((((w.alloc (.cells #[.int .i64 al, .int .i64 ah] 98)).alloc (.cells #[.int .i64 bl, .int .i64 bh] 98)).alloc (.cells #[.int .i64 0, .int .i64 0] 98)).alloc (.cells #[.int .i64 0, .int .i64 0] 98)) _ _ _ from Blk.alloc (Blk.alloc (Blk.new' (by simp only [World.size_alloc])) _) _).grew g1)
  have Hz1 := Lib.hid (show Blk w1 (w.heap.size + 1 + 1) 98 #[.int .i64 0, .int .i64 0] from (show Blk ((((w.alloc (.cells #[.int .i64 al, .int .i64 ah] 98)).alloc (.cells #[.int .i64 bl, .int .i64 bh] 98)).alloc (.cells #[.int .i64 0, .int .i64 0] 98)).alloc (.cells #[.int .i64 0, .int .i64 0] 98)) _ _ _ from Blk.alloc (Blk.new' (by simp only [World.size_alloc])) _).grew g1)
  have Hu1 := Lib.hid (show Blk w1 (w.heap.size + 1 + 1 + 1) 98 #[.int .i64 0, .int .i64 0] from (show Blk ((((w.alloc (.cells #[.int .i64 al, .int .i64 ah] 98)).alloc (.cells #[.int .i64 bl, .int .i64 bh] 98)).alloc (.cells #[.int .i64 0, .int .i64 0] 98)).alloc (.cells #[.int .i64 0, .int .i64 0] 98)) _ _ _ from Blk.new' (by simp only [World.size_alloc])).grew g1)
  have HG1 := Lib.hid (show Grew w w1 from grew_tr (gr) g1)
  clear g1
  have ca0 := Ha1.out.cell 0
  have ca1 := Ha1.out.cell 1
  have fa := fun j => Ha1.out.frozen j
  have la := Ha1.out.lt
  have cb0 := Hb1.out.cell 0
  have cb1 := Hb1.out.cell 1
  have fb := fun j => Hb1.out.frozen j
  have lb := Hb1.out.lt
  have cz0 := Hz1.out.cell 0
  have cz1 := Hz1.out.cell 1
  have fz := fun j => Hz1.out.frozen j
  have lz := Hz1.out.lt
  have cu0 := Hu1.out.cell 0
  have cu1 := Hu1.out.cell 1
  have fu := fun j => Hu1.out.frozen j
  have lu := Hu1.out.lt
  simp only [List.getElem?_toArray, List.getElem?_cons_zero, List.getElem?_cons_succ] at ca0 ca1 cb0 cb1 cz0 cz1 cu0 cu1
  go_wp2_with fail
  refine (HB.out _).mono ?_
  rintro e w2 ⟨rfl, g2⟩
  clear ca0 ca1 fa la cb0 cb1 fb lb cz0 cz1 fz lz cu0 cu1 fu lu
  have Ha2 := Lib.hid (Ha1.out.grew g2)
  have Hb2 := Lib.hid (Hb1.out.grew g2)
  have Hz2 := Lib.hid (Hz1.out.grew g2)
  have Hu2 := Lib.hid (Hu1.out.grew g2)
  have HG2 := Lib.hid (grew_tr HG1.out g2)
  clear HG1 Ha1 Hb1 Hz1 Hu1
  clear g2
  have ca0 := Ha2.out.cell 0
  have ca1 := Ha2.out.cell 1
  have fa := fun j => Ha2.out.frozen j
  have la := Ha2.out.lt
  have cb0 := Hb2.out.cell 0
  have cb1 := Hb2.out.cell 1
  have fb := fun j => Hb2.out.frozen j
  have lb := Hb2.out.lt
  have cz0 := Hz2.out.cell 0
  have cz1 := Hz2.out.cell 1
  have fz := fun j => Hz2.out.frozen j
  have lz := Hz2.out.lt
  have cu0 := Hu2.out.cell 0
  have cu1 := Hu2.out.cell 1
  have fu := fun j => Hu2.out.frozen j
  have lu := Hu2.out.lt
  simp only [List.getElem?_toArray, List.getElem?_cons_zero, List.getElem?_cons_succ] at ca0 ca1 cb0 cb1 cz0 cz1 cu0 cu1
  clear HA HB
  go_wp2_with fail
  all_goals
    refine (HR.out _ ⟨_, _⟩ ⟨_, _⟩ ((congr (congrArg bothI (itv_eq (by omega) (by omega))) (itv_eq (by omega) (by omega))).trans HS.out)).mono ?_
    rintro e w3 ⟨rfl, g3'⟩
    have g3 : Grew w2 w3 := by first | with_reducible exact g3' | exact grew_tr (grew_al (Below.refl _ _) _) g3'
    clear g3'
    clear ca0 ca1 fa la cb0 cb1 fb lb cz0 cz1 fz lz cu0 cu1 fu lu
    have Ha3 := Lib.hid (Ha2.out.grew g3)
    have Hb3 := Lib.hid (Hb2.out.grew g3)
    have Hz3 := Lib.hid (Hz2.out.grew g3)
    have Hu3 := Lib.hid (Hu2.out.grew g3)
    have HG3 := Lib.hid (grew_tr HG2.out g3)
    clear HG2 Ha2 Hb2 Hz2 Hu2
    clear g3
    have ca0 := Ha3.out.cell 0
    have ca1 := Ha3.out.cell 1
    have fa := fun j => Ha3.out.frozen j
    have la := Ha3.out.lt
    have cb0 := Hb3.out.cell 0
    have cb1 := Hb3.out.cell 1
    have fb := fun j => Hb3.out.frozen j
    have lb := Hb3.out.lt
    have cz0 := Hz3.out.cell 0
    have cz1 := Hz3.out.cell 1
    have fz := fun j => Hz3.out.frozen j
    have lz := Hz3.out.lt
    have cu0 := Hu3.out.cell 0
    have cu1 := Hu3.out.cell 1
    have fu := fun j => Hu3.out.frozen j
    have lu := Hu3.out.lt
    simp only [List.getElem?_toArray, List.getElem?_cons_zero, List.getElem?_cons_succ] at ca0 ca1 cb0 cb1 cz0 cz1 cu0 cu1
    go_wp2
    refine bodyPost_ret (by simp [results, Tryz.results114, go_sem, cz0, cz1, cu0, cu1, lz, lu]; try rfl) rfl ?_
    refine ⟨rfl, ?_⟩
    repeat (first | with_reducible exact HG3.out | with_reducible refine grew_set ?_ (by first | omega | (simp only; omega)) _ | with_reducible refine grew_d ?_ | with_reducible refine grew_al ?_ _)
set_option maxHeartbeats 4000000 in
theorem specItvRel3 (a b : Itv) (w : World) (ha : itvB a = true) (hb : itvB b = true) :
    Calls Tryz.prog 114 #[.int .i64 3, a.v, b.v] w fun e w' => e = .returned (relV (relI 3 a b)) ∧ Grew w w' := by
  have hA := fun W => specItvOk a W
  have hB := fun W => specItvOk b W
  rw [show itvOkB a.lo a.hi = true from ha] at hA
  rw [show itvOkB b.lo b.hi = true from hb] at hB
  have HA := Lib.hid hA
  have HB := Lib.hid hB
  have HR := Lib.hid (fun (W : World) (x y : Itv) (h : bothI x y = relI 3 a b) => (by rw [← h]; exact specL2Both x y W : Calls Tryz.prog 148 #[x.v, y.v] W fun e w' => e = .returned (relV (relI 3 a b)) ∧ Grew W w'))
  have hS := rel3_spec ha hb
  rw [relV_eq] at HR ⊢
  obtain ⟨al, ah⟩ := a
  obtain ⟨bl, bh⟩ := b
  rw [itvB_iff] at ha hb
  simp only at ha hb hS HA HB HR ⊢
  obtain ⟨O, hO⟩ : ∃ O, relI 3 ⟨al, ah⟩ ⟨bl, bh⟩ = O := ⟨_, rfl⟩
  rw [hO] at hS HR ⊢
  obtain ⟨⟨xl, xh⟩, hx⟩ : ∃ x, rA O = x := ⟨_, rfl⟩
  obtain ⟨⟨yl, yh⟩, hy⟩ : ∃ x, rB O = x := ⟨_, rfl⟩
  obtain ⟨B, hB⟩ : ∃ x, O.isSome = x := ⟨_, rfl⟩
  rw [hx, hy, hB] at HR ⊢
  clear hA hO hx hy hB
  have HS := Lib.hid hS
  clear hS
  go_enter Tryz.func114, Tryz.ntmps114
  go_wp2_with fail
  refine (HA.out _).mono ?_
  rintro e w1 ⟨rfl, g1⟩
  have Ha1 := Lib.hid (show Blk w1 (w.heap.size) 98 #[.int .i64 al, .int .i64 ah] from (show Blk ((((w.alloc (.cells #[.int .i64 al, .int .i64 ah] 98)).alloc (.cells #[.int .i64 bl, .int .i64 bh] 98)).alloc (.cells #[.int .i64 0, .int .i64 0] 98)).alloc (.cells #[.int .i64 0, .int .i64 0] 98)) _ _ _ from Blk.alloc (Blk.alloc (Blk.alloc (Blk.new' (by simp only [World.size_alloc])) _) _) _).grew g1)
  have Hb1 := Lib.hid (show Blk w1 (w.heap.size + 1) 98 #[.int .i64 bl, .int .i64 bh] from (show Blk ((((w.alloc (.cells #[.int .i64 al, .int .i64 ah] 98)).alloc (.cells #[.int .i64 bl, .int .i64 bh] 98)).alloc (.cells #[.int .i64 0, .int .i64 0] 98)).alloc (.cells #[.int .i64 0, .int .i64 0] 98)) _ _ _ from Blk.alloc (Blk.alloc (Blk.new' (by simp only [World.size_alloc])) _) _).grew g1)
  have Hz1 := Lib.hid (show Blk w1 (w.heap.size + 1 + 1) 98 #[.int .i64 0, .int .i64 0] from (show Blk ((((w.alloc (.cells #[.int .i64 al, .int .i64 ah] 98)).alloc (.cells #[.int .i64 bl, .int .i64 bh] 98)).alloc (.cells #[.int .i64 0, .int .i64 0] 98)).alloc (.cells #[.int .i64 0, .int .i64 0] 98)) _ _ _ from Blk.alloc (Blk.new' (by simp only [World.size_alloc])) _).grew g1)
  have Hu1 := Lib.hid (show Blk w1 (w.heap.size + 1 + 1 + 1) 98 #[.int .i64 0, .int .i64 0] from (show Blk ((((w.alloc (.cells #[.int .i64 al, .int .i64 ah] 98)).alloc (.cells #[.int .i64 bl, .int .i64 bh] 98)).alloc (.cells #[.int .i64 0, .int .i64 0] 98)).alloc (.cells #[.int .i64 0, .int .i64 0] 98)) _ _ _ from Blk.new' (by simp only [World.size_alloc])).grew g1)
  have HG1 := Lib.hid (show Grew w w1 from grew_tr (gr) g1)
  clear g1
  have ca0 := Ha1.out.cell 0
  have ca1 := Ha1.out.cell 1
  have fa := fun j => Ha1.out.frozen j
  have la := Ha1.out.lt
  have cb0 := Hb1.out.cell 0
  have cb1 := Hb1.out.cell 1
  have fb := fun j => Hb1.out.frozen j
  have lb := Hb1.out.lt
  have cz0 := Hz1.out.cell 0
  have cz1 := Hz1.out.cell 1
  have fz := fun j => Hz1.out.frozen j
  have lz := Hz1.out.lt
  have cu0 := Hu1.out.cell 0
  have cu1 := Hu1.out.cell 1
  have fu := fun j => Hu1.out.frozen j
  have lu := Hu1.out.lt
  simp only [List.getElem?_toArray, List.getElem?_cons_zero, List.getElem?_cons_succ] at ca0 ca1 cb0 cb1 cz0 cz1 cu0 cu1
  go_wp2_with fail
  refine (HB.out _).mono ?_
  rintro e w2 ⟨rfl, g2⟩
  clear ca0 ca1 fa la cb0 cb1 fb lb cz0 cz1 fz lz cu0 cu1 fu lu
  have Ha2 := Lib.hid (Ha1.out.grew g2)
  have Hb2 := Lib.hid (Hb1.out.grew g2)
  have Hz2 := Lib.hid (Hz1.out.grew g2)
  have Hu2 := Lib.hid (Hu1.out.grew g2)
  have HG2 := Lib.hid (grew_tr HG1.out g2)
  clear HG1 Ha1 Hb1 Hz1 Hu1
  clear g2
  have ca0 := Ha2.out.cell 0
  have ca1 := Ha2.out.cell 1
  have fa := fun j => Ha2.out.frozen j
  have la := Ha2.out.lt
  have cb0 := Hb2.out.cell 0
  have cb1 := Hb2.out.cell 1
  have fb := fun j => Hb2.out.frozen j
  have lb := Hb2.out.lt
  have cz0 := Hz2.out.cell 0
  have cz1 := Hz2.out.cell 1
  have fz := fun j => Hz2.out.frozen j
  have lz := Hz2.out.lt
  have cu0 := Hu2.out.cell 0
  have cu1 := Hu2.out.cell 1
  have fu := fun j => Hu2.out.frozen j
  have lu := Hu2.out.lt
  simp only [List.getElem?_toArray, List.getElem?_cons_zero, List.getElem?_cons_succ] at ca0 ca1 cb0 cb1 cz0 cz1 cu0 cu1
  clear HA HB
  go_wp2_with fail
  all_goals
    refine (HR.out _ ⟨_, _⟩ ⟨_, _⟩ ((congr (congrArg bothI (itv_eq (by omega) (by omega))) (itv_eq (by omega) (by omega))).trans HS.out)).mono ?_
    rintro e w3 ⟨rfl, g3'⟩
    have g3 : Grew w2 w3 := by first | with_reducible exact g3' | exact grew_tr (grew_al (Below.refl _ _) _) g3'
    clear g3'
    clear ca0 ca1 fa la cb0 cb1 fb lb cz0 cz1 fz lz cu0 cu1 fu lu
    have Ha3 := Lib.hid (Ha2.out.grew g3)
    have Hb3 := Lib.hid (Hb2.out.grew g3)
    have Hz3 := Lib.hid (Hz2.out.grew g3)
    have Hu3 := Lib.hid (Hu2.out.grew g3)
    have HG3 := Lib.hid (grew_tr HG2.out g3)
    clear HG2 Ha2 Hb2 Hz2 Hu2
    clear g3
    have ca0 := Ha3.out.cell 0
    have ca1 := Ha3.out.cell 1
    have fa := fun j => Ha3.out.frozen j
    have la := Ha3.out.lt
    have cb0 := Hb3.out.cell 0
    have cb1 := Hb3.out.cell 1
    have fb := fun j => Hb3.out.frozen j
    have lb := Hb3.out.lt
    have cz0 := Hz3.out.cell 0
    have cz1 := Hz3.out.cell 1
    have fz := fun j => Hz3.out.frozen j
    have lz := Hz3.out.lt
    have cu0 := Hu3.out.cell 0
    have cu1 := Hu3.out.cell 1
    have fu := fun j => Hu3.out.frozen j
    have lu := Hu3.out.lt
    simp only [List.getElem?_toArray, List.getElem?_cons_zero, List.getElem?_cons_succ] at ca0 ca1 cb0 cb1 cz0 cz1 cu0 cu1
    go_wp2
    refine bodyPost_ret (by simp [results, Tryz.results114, go_sem, cz0, cz1, cu0, cu1, lz, lu]; try rfl) rfl ?_
    refine ⟨rfl, ?_⟩
    repeat (first | with_reducible exact HG3.out | with_reducible refine grew_set ?_ (by first | omega | (simp only; omega)) _ | with_reducible refine grew_d ?_ | with_reducible refine grew_al ?_ _)
set_option maxHeartbeats 4000000 in
theorem specItvRel4 (a b : Itv) (w : World) (ha : itvB a = true) (hb : itvB b = true) :
    Calls Tryz.prog 114 #[.int .i64 4, a.v, b.v] w fun e w' => e = .returned (relV (relI 4 a b)) ∧ Grew w w' := by
  have hA := fun W => specItvOk a W
  have hB := fun W => specItvOk b W
  rw [show itvOkB a.lo a.hi = true from ha] at hA
  rw [show itvOkB b.lo b.hi = true from hb] at hB
  have HA := Lib.hid hA
  have HB := Lib.hid hB
  have hS := rel4_spec ha hb
  have HR := Lib.hid (fun (W : World) => (by rw [← hS]; exact specL2Other a b W ha hb : Calls Tryz.prog 149 #[a.v, b.v] W fun e w' => e = .returned (relV (relI 4 a b)) ∧ Grew W w'))
  rw [relV_eq] at HR ⊢
  obtain ⟨al, ah⟩ := a
  obtain ⟨bl, bh⟩ := b
  rw [itvB_iff] at ha hb
  simp only at ha hb hS HA HB HR ⊢
  obtain ⟨O, hO⟩ : ∃ O, relI 4 ⟨al, ah⟩ ⟨bl, bh⟩ = O := ⟨_, rfl⟩
  rw [hO] at hS HR ⊢
  obtain ⟨⟨xl, xh⟩, hx⟩ : ∃ x, rA O = x := ⟨_, rfl⟩
  obtain ⟨⟨yl, yh⟩, hy⟩ : ∃ x, rB O = x := ⟨_, rfl⟩
  obtain ⟨B, hB⟩ : ∃ x, O.isSome = x := ⟨_, rfl⟩
  rw [hx, hy, hB] at HR ⊢
  clear hA hO hx hy hB
  have HS := Lib.hid hS
  clear hS
  go_enter Tryz.func114, Tryz.ntmps114
  go_wp2_with fail
  refine (HA.out _).mono ?_
  rintro e w1 ⟨rfl, g1⟩
  have Ha1 := Lib.hid (show Blk w1 (w.heap.size) 98 #[.int .i64 al, .int .i64 ah] from (show Blk ((((w.alloc (.cells #[.int .i64 al, .int .i64 ah] 98)).alloc (.cells #[.int .i64 bl, .int .i64 bh] 98)).alloc (.cells #[.int .i64 0, .int .i64 0] 98)).alloc (.cells #[.int .i64 0, .int .i64 0] 98)) _ _ _ from Blk.alloc (Blk.alloc (Blk.alloc (Blk.new' (by simp only [World.size_alloc])) _) _) _).grew g1)
  have Hb1 := Lib.hid (show Blk w1 (w.heap.size + 1) 98 #[.int .i64 bl, .int .i64 bh] from (show Blk ((((w.alloc (.cells #[.int .i64 al, .int .i64 ah] 98)).alloc (.cells #[.int .i64 bl, .int .i64 bh] 98)).alloc (.cells #[.int .i64 0, .int .i64 0] 98)).alloc (.cells #[.int .i64 0, .int .i64 0] 98)) _ _ _ from Blk.alloc (Blk.alloc (Blk.new' (by simp only [World.size_alloc])) _) _).grew g1)
  have Hz1 := Lib.hid (show Blk w1 (w.heap.size + 1 + 1) 98 #[.int .i64 0, .int .i64 0] from (show Blk ((((w.alloc (.cells #[.int .i64 al, .int .i64 ah] 98)).alloc (.cells #[.int .i64 bl, .int .i64 bh] 98)).alloc (.cells #[.int .i64 0, .int .i64 0] 98)).alloc (.cells #[.int .i64 0, .int .i64 0] 98)) _ _ _ from Blk.alloc (Blk.new' (by simp only [World.size_alloc])) _).grew g1)
  have Hu1 := Lib.hid (show Blk w1 (w.heap.size + 1 + 1 + 1) 98 #[.int .i64 0, .int .i64 0] from (show Blk ((((w.alloc (.cells #[.int .i64 al, .int .i64 ah] 98)).alloc (.cells #[.int .i64 bl, .int .i64 bh] 98)).alloc (.cells #[.int .i64 0, .int .i64 0] 98)).alloc (.cells #[.int .i64 0, .int .i64 0] 98)) _ _ _ from Blk.new' (by simp only [World.size_alloc])).grew g1)
  have HG1 := Lib.hid (show Grew w w1 from grew_tr (gr) g1)
  clear g1
  have ca0 := Ha1.out.cell 0
  have ca1 := Ha1.out.cell 1
  have fa := fun j => Ha1.out.frozen j
  have la := Ha1.out.lt
  have cb0 := Hb1.out.cell 0
  have cb1 := Hb1.out.cell 1
  have fb := fun j => Hb1.out.frozen j
  have lb := Hb1.out.lt
  have cz0 := Hz1.out.cell 0
  have cz1 := Hz1.out.cell 1
  have fz := fun j => Hz1.out.frozen j
  have lz := Hz1.out.lt
  have cu0 := Hu1.out.cell 0
  have cu1 := Hu1.out.cell 1
  have fu := fun j => Hu1.out.frozen j
  have lu := Hu1.out.lt
  simp only [List.getElem?_toArray, List.getElem?_cons_zero, List.getElem?_cons_succ] at ca0 ca1 cb0 cb1 cz0 cz1 cu0 cu1
  go_wp2_with fail
  refine (HB.out _).mono ?_
  rintro e w2 ⟨rfl, g2⟩
  clear ca0 ca1 fa la cb0 cb1 fb lb cz0 cz1 fz lz cu0 cu1 fu lu
  have Ha2 := Lib.hid (Ha1.out.grew g2)
  have Hb2 := Lib.hid (Hb1.out.grew g2)
  have Hz2 := Lib.hid (Hz1.out.grew g2)
  have Hu2 := Lib.hid (Hu1.out.grew g2)
  have HG2 := Lib.hid (grew_tr HG1.out g2)
  clear HG1 Ha1 Hb1 Hz1 Hu1
  clear g2
  have ca0 := Ha2.out.cell 0
  have ca1 := Ha2.out.cell 1
  have fa := fun j => Ha2.out.frozen j
  have la := Ha2.out.lt
  have cb0 := Hb2.out.cell 0
  have cb1 := Hb2.out.cell 1
  have fb := fun j => Hb2.out.frozen j
  have lb := Hb2.out.lt
  have cz0 := Hz2.out.cell 0
  have cz1 := Hz2.out.cell 1
  have fz := fun j => Hz2.out.frozen j
  have lz := Hz2.out.lt
  have cu0 := Hu2.out.cell 0
  have cu1 := Hu2.out.cell 1
  have fu := fun j => Hu2.out.frozen j
  have lu := Hu2.out.lt
  simp only [List.getElem?_toArray, List.getElem?_cons_zero, List.getElem?_cons_succ] at ca0 ca1 cb0 cb1 cz0 cz1 cu0 cu1
  clear HA HB
  go_wp2_with fail
  all_goals
    refine (HR.out _).mono ?_
    rintro e w3 ⟨rfl, g3'⟩
    have g3 : Grew w2 w3 := by first | with_reducible exact g3' | exact grew_tr (grew_al (Below.refl _ _) _) g3'
    clear g3'
    clear ca0 ca1 fa la cb0 cb1 fb lb cz0 cz1 fz lz cu0 cu1 fu lu
    have Ha3 := Lib.hid (Ha2.out.grew g3)
    have Hb3 := Lib.hid (Hb2.out.grew g3)
    have Hz3 := Lib.hid (Hz2.out.grew g3)
    have Hu3 := Lib.hid (Hu2.out.grew g3)
    have HG3 := Lib.hid (grew_tr HG2.out g3)
    clear HG2 Ha2 Hb2 Hz2 Hu2
    clear g3
    have ca0 := Ha3.out.cell 0
    have ca1 := Ha3.out.cell 1
    have fa := fun j => Ha3.out.frozen j
    have la := Ha3.out.lt
    have cb0 := Hb3.out.cell 0
    have cb1 := Hb3.out.cell 1
    have fb := fun j => Hb3.out.frozen j
    have lb := Hb3.out.lt
    have cz0 := Hz3.out.cell 0
    have cz1 := Hz3.out.cell 1
    have fz := fun j => Hz3.out.frozen j
    have lz := Hz3.out.lt
    have cu0 := Hu3.out.cell 0
    have cu1 := Hu3.out.cell 1
    have fu := fun j => Hu3.out.frozen j
    have lu := Hu3.out.lt
    simp only [List.getElem?_toArray, List.getElem?_cons_zero, List.getElem?_cons_succ] at ca0 ca1 cb0 cb1 cz0 cz1 cu0 cu1
    go_wp2
    refine bodyPost_ret (by simp [results, Tryz.results114, go_sem, cz0, cz1, cu0, cu1, lz, lu]; try rfl) rfl ?_
    refine ⟨rfl, ?_⟩
    repeat (first | with_reducible exact HG3.out | with_reducible refine grew_set ?_ (by first | omega | (simp only; omega)) _ | with_reducible refine grew_d ?_ | with_reducible refine grew_al ?_ _)
end Go.Proofs.YtdddhnepanjmfaaGreat
