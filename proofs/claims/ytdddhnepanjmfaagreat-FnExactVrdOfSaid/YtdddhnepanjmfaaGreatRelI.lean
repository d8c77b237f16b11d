/- What a relation and its contrary leave of two bounds: the program's side. No condition. -/
import Derived.Test.YtdddhnepanjmfaaGreatRelR
namespace Go.Proofs.YtdddhnepanjmfaaGreat
open Go.RowKit
set_option linter.unusedVariables false
set_option linter.unusedSimpArgs false
attribute [local go_sem] ext_cell ext_frozen ext_lt ext_le ext_le1 lt_s2 lt_s3 lt_s4 lt_s5 lt_s6 ext_lt1 ext_lt2 ext_lt3

theorem methLess (n : Nat) (w : World) : (method (n + 1) 262 (.agg #[]) "loop.example/outwork/impl.restrict").run Tryz.prog w = .ok (205, .agg #[]) w := by kernel_rfl
theorem methMost (n : Nat) (w : World) : (method (n + 1) 263 (.agg #[]) "loop.example/outwork/impl.restrict").run Tryz.prog w = .ok (206, .agg #[]) w := by kernel_rfl
theorem methSame (n : Nat) (w : World) : (method (n + 1) 253 (.agg #[]) "loop.example/outwork/impl.restrict").run Tryz.prog w = .ok (204, .agg #[]) w := by kernel_rfl
theorem methOther (n : Nat) (w : World) : (method (n + 1) 264 (.agg #[]) "loop.example/outwork/impl.restrict").run Tryz.prog w = .ok (207, .agg #[]) w := by kernel_rfl
set_option maxHeartbeats 1000000 in
theorem sameRestrict (a b : Itv) (w : World) (ha : itvB a = true) (hb : itvB b = true) :
    Calls Tryz.prog 204 #[.agg #[], a.v, b.v] w fun e w' => e = .returned (.tuple #[(resI 3 a b).1.v, (resI 3 a b).2.v]) ∧ Grew w w' := by
  obtain ⟨al, ah⟩ := a
  obtain ⟨bl, bh⟩ := b
  have HC := Lib.hid (fun W => implCutItv ⟨al, ah⟩ bl bh W)
  have hR : (resI 3 ⟨al, ah⟩ ⟨bl, bh⟩) = (cutI ⟨al, ah⟩ bl bh, cutI ⟨al, ah⟩ bl bh) := by simp [resI]
  rw [hR]
  obtain ⟨x, hx⟩ : ∃ x, cutI ⟨al, ah⟩ bl bh = x := ⟨_, rfl⟩
  rw [hx] at HC ⊢
  obtain ⟨xl, xh⟩ := x
  clear hx hR ha hb
  go_enter Tryz.func204, Tryz.ntmps204
  go_wp2_with fail
  refine (HC.out _).mono ?_
  rintro e w1 ⟨rfl, g1⟩
  have Z1 : Blk w1 (w.heap.size + 1 + 1 + 1) 98 #[.int .i64 0, .int .i64 0] := (show Blk (((((w.alloc (.cells #[] 253)).alloc (.cells #[.int .i64 al, .int .i64 ah] 98)).alloc (.cells #[.int .i64 bl, .int .i64 bh] 98)).alloc (.cells #[.int .i64 0, .int .i64 0] 98)).alloc (.cells #[.int .i64 0, .int .i64 0] 98)) _ _ _ from Blk.alloc (Blk.new' (by simp only [World.size_alloc])) _).grew g1
  have Z2 : Blk w1 (w.heap.size + 1 + 1 + 1 + 1) 98 #[.int .i64 0, .int .i64 0] := (show Blk (((((w.alloc (.cells #[] 253)).alloc (.cells #[.int .i64 al, .int .i64 ah] 98)).alloc (.cells #[.int .i64 bl, .int .i64 bh] 98)).alloc (.cells #[.int .i64 0, .int .i64 0] 98)).alloc (.cells #[.int .i64 0, .int .i64 0] 98)) _ _ _ from Blk.new' (by simp only [World.size_alloc])).grew g1
  have HG := Lib.hid (show Grew w w1 from grew_tr (gr) g1)
  have z0 := Z1.cell 0
  have z1 := Z1.cell 1
  have u0 := Z2.cell 0
  have u1 := Z2.cell 1
  have zf := fun j => Z1.frozen j
  have uf := fun j => Z2.frozen j
  have zl := Z1.lt
  have ul := Z2.lt
  simp only [List.getElem?_toArray, List.getElem?_cons_zero, List.getElem?_cons_succ] at z0 z1 u0 u1
  clear Z1 Z2 g1
  go_wp2
  go_region
  go_wp2
  refine bodyPost_ret (by simp [results, Tryz.results204, go_sem, z0, z1, u0, u1, zl, ul]; try rfl) rfl ?_
  refine ⟨rfl, ?_⟩
  exact grew_d (grew_al (grew_set (grew_set (grew_set (grew_set HG.out (by first | omega | (simp only; omega)) _) (by first | omega | (simp only; omega)) _) (by first | omega | (simp only; omega)) _) (by first | omega | (simp only; omega)) _) _)
theorem relLook {g : Nat} {W : World} (h : W.heap[g]? = some relMap) (k : Int) (t : TypeId) (j : Nat) (hf : Instr.findNow (.int .i64) (.int .i64 k) [entR 1 262 0, entR 2 263 1, entR 3 253 2, entR 4 264 3] 0 = some (some (j, .iface t (.agg #[])))) :
    (Instr.lookup 250 (.map (some g)) (.int .i64 k) true).run Tryz.prog W = .ok (.tuple #[.iface t (.agg #[]), .bool true]) W := by
  have hm : Tryz.prog.underlying 250 = some (.map 3 248) := by kernel_rfl
  have hk : Tryz.prog.underlying 3 = some (.int .i64) := by kernel_rfl
  have hc : (Instr.checkKey false 10000 3 (.int .i64 k)).run Tryz.prog W = .ok () W := MapKept.run_checkKey (k := .int .i64 k) hk (by simp [MapKept.IsKey]) false 9999
  unfold relMap at h
  simp [Instr.lookup, run_underlying hm, MapKept.run_getObj_map h, hc, MapKept.run_findKey hk hf, Result.andThen]
theorem relV_if {x y : Itv} (o : Option (Itv × Itv)) (h : o = if itvB x && itvB y then some (x, y) else none) : relV o = if itvB x && itvB y then .tuple #[x.v, y.v, .bool true] else .tuple #[(⟨0, 0⟩ : Itv).v, (⟨0, 0⟩ : Itv).v, .bool false] := by
  rw [h]
  split <;> rfl
set_option maxRecDepth 100000 in
set_option maxHeartbeats 2000000 in
theorem implItvRel1 (a b : Itv) (w : World) (ha : itvB a = true) (hb : itvB b = true) :
    Calls Tryz.prog 162 #[.int .i64 1, a.v, b.v] w fun e w' => e = .returned (relV (relI 1 a b)) ∧ Grew w w' := by
  obtain ⟨al, ah⟩ := a
  obtain ⟨bl, bh⟩ := b
  have HR := Lib.hid (fun W => lessRestrict ⟨al, ah⟩ ⟨bl, bh⟩ W ha hb)
  have HB := fun W => bothOkG ⟨al, ah⟩ ⟨bl, bh⟩ W
  rw [ha, hb] at HB
  have HB := Lib.hid HB
  have HL := Lib.hid (fun (W : World) g h => relLook (g := g) (W := W) h 1 262 0 rfl)
  have hV := relV_if (relI 1 ⟨al, ah⟩ ⟨bl, bh⟩) rfl
  rw [hV]
  obtain ⟨⟨x, y⟩, hxy⟩ : ∃ p, resI 1 ⟨al, ah⟩ ⟨bl, bh⟩ = p := ⟨_, rfl⟩
  rw [hxy] at HR ⊢
  obtain ⟨xl, xh⟩ := x
  obtain ⟨yl, yh⟩ := y
  have HD := Lib.hid (fun W => bothOkG ⟨xl, xh⟩ ⟨yl, yh⟩ W)
  simp only at HR HD ⊢
  have hm := fun n w => methLess n w
  have hta : ∀ W, (Instr.typeAssert (.iface 262 (.agg #[])) 248 253 true).run Tryz.prog W = .ok (.tuple #[.agg #[], .bool false]) W := fun W => by kernel_rfl
  clear hV
  obtain ⟨B, hB⟩ : ∃ B, (itvB ⟨xl, xh⟩ && itvB ⟨yl, yh⟩) = B := ⟨_, rfl⟩
  rw [hB] at HD ⊢
  clear hB
  clear ha hb hxy
  go_enter Tryz.func162, Tryz.ntmps162
  go_wp2_with fail
  refine (implRelations _).mono ?_
  rintro e w1 ⟨rfl, h1⟩
  simp only [World.size_alloc] at h1 ⊢
  have g1 : Grew ((((w.alloc (.cells #[.int .i64 al, .int .i64 ah] 98)).alloc (.cells #[.int .i64 bl, .int .i64 bh] 98)).alloc (.cells #[.int .i64 0, .int .i64 0] 98)).alloc (.cells #[.int .i64 0, .int .i64 0] 98)) w1 := by rw [h1]; exact grew_al (Below.refl _ _) _
  have Ha1 := Lib.hid (show Blk w1 (w.heap.size) 98 #[.int .i64 al, .int .i64 ah] from (show Blk ((((w.alloc (.cells #[.int .i64 al, .int .i64 ah] 98)).alloc (.cells #[.int .i64 bl, .int .i64 bh] 98)).alloc (.cells #[.int .i64 0, .int .i64 0] 98)).alloc (.cells #[.int .i64 0, .int .i64 0] 98)) _ _ _ from Blk.alloc (Blk.alloc (Blk.alloc (Blk.new' (by simp only [World.size_alloc])) _) _) _).grew g1)
  have Hb1 := Lib.hid (show Blk w1 (w.heap.size + 1) 98 #[.int .i64 bl, .int .i64 bh] from (show Blk ((((w.alloc (.cells #[.int .i64 al, .int .i64 ah] 98)).alloc (.cells #[.int .i64 bl, .int .i64 bh] 98)).alloc (.cells #[.int .i64 0, .int .i64 0] 98)).alloc (.cells #[.int .i64 0, .int .i64 0] 98)) _ _ _ from Blk.alloc (Blk.alloc (Blk.new' (by simp only [World.size_alloc])) _) _).grew g1)
  have Hz1 := Lib.hid (show Blk w1 (w.heap.size + 1 + 1) 98 #[.int .i64 0, .int .i64 0] from (show Blk ((((w.alloc (.cells #[.int .i64 al, .int .i64 ah] 98)).alloc (.cells #[.int .i64 bl, .int .i64 bh] 98)).alloc (.cells #[.int .i64 0, .int .i64 0] 98)).alloc (.cells #[.int .i64 0, .int .i64 0] 98)) _ _ _ from Blk.alloc (Blk.new' (by simp only [World.size_alloc])) _).grew g1)
  have Hu1 := Lib.hid (show Blk w1 (w.heap.size + 1 + 1 + 1) 98 #[.int .i64 0, .int .i64 0] from (show Blk ((((w.alloc (.cells #[.int .i64 al, .int .i64 ah] 98)).alloc (.cells #[.int .i64 bl, .int .i64 bh] 98)).alloc (.cells #[.int .i64 0, .int .i64 0] 98)).alloc (.cells #[.int .i64 0, .int .i64 0] 98)) _ _ _ from Blk.new' (by simp only [World.size_alloc])).grew g1)
  have HG1 := Lib.hid (show Grew w w1 from grew_tr (gr) g1)
  have hl := HL.out w1 (w.heap.size + 1 + 1 + 1 + 1) (by rw [h1]; have := heap_alloc_new ((((w.alloc (.cells #[.int .i64 al, .int .i64 ah] 98)).alloc (.cells #[.int .i64 bl, .int .i64 bh] 98)).alloc (.cells #[.int .i64 0, .int .i64 0] 98)).alloc (.cells #[.int .i64 0, .int .i64 0] 98)) relMap; simp only [World.size_alloc] at this; exact this)
  clear h1 g1 HL
  have ca0 := Ha1.out.cell 0
  have ca1 := Ha1.out.cell 1
  have fa := fun j => Ha1.out.frozen j
  have la := Ha1.out.lt
  have cb0 := Hb1.out.cell 0
  have cb1 := Hb1.out.cell 1
  have fb := fun j => Hb1.out.frozen j
  have lb := Hb1.out.lt
  have cz0 := Hz1.out.cell 0
  have cz1 := Hz1.out.cell 1
  have fz := fun j => Hz1.out.frozen j
  have lz := Hz1.out.lt
  have cu0 := Hu1.out.cell 0
  have cu1 := Hu1.out.cell 1
  have fu := fun j => Hu1.out.frozen j
  have lu := Hu1.out.lt
  simp only [List.getElem?_toArray, List.getElem?_cons_zero, List.getElem?_cons_succ] at ca0 ca1 cb0 cb1 cz0 cz1 cu0 cu1
  go_wp2_with fail
  refine (HB.out _).mono ?_
  rintro e w2 ⟨rfl, g2⟩
  clear ca0 ca1 fa la cb0 cb1 fb lb cz0 cz1 fz lz cu0 cu1 fu lu
  have Ha2 := Lib.hid (Ha1.out.grew g2)
  have Hb2 := Lib.hid (Hb1.out.grew g2)
  have Hz2 := Lib.hid (Hz1.out.grew g2)
  have Hu2 := Lib.hid (Hu1.out.grew g2)
  have HG2 := Lib.hid (grew_tr HG1.out g2)
  clear g2 Ha1 Hb1 Hz1 Hu1 HG1
  have ca0 := Ha2.out.cell 0
  have ca1 := Ha2.out.cell 1
  have fa := fun j => Ha2.out.frozen j
  have la := Ha2.out.lt
  have cb0 := Hb2.out.cell 0
  have cb1 := Hb2.out.cell 1
  have fb := fun j => Hb2.out.frozen j
  have lb := Hb2.out.lt
  have cz0 := Hz2.out.cell 0
  have cz1 := Hz2.out.cell 1
  have fz := fun j => Hz2.out.frozen j
  have lz := Hz2.out.lt
  have cu0 := Hu2.out.cell 0
  have cu1 := Hu2.out.cell 1
  have fu := fun j => Hu2.out.frozen j
  have lu := Hu2.out.lt
  simp only [List.getElem?_toArray, List.getElem?_cons_zero, List.getElem?_cons_succ] at ca0 ca1 cb0 cb1 cz0 cz1 cu0 cu1
  go_wp2_with fail
  refine (HR.out _).mono ?_
  rintro e w3 ⟨rfl, g3'⟩
  have g3 := grew_tr (grew_al (Below.refl _ w2) (.cells #[] 253)) g3'
  clear g3'
  clear ca0 ca1 fa la cb0 cb1 fb lb cz0 cz1 fz lz cu0 cu1 fu lu
  have Ha3 := Lib.hid (Ha2.out.grew g3)
  have Hb3 := Lib.hid (Hb2.out.grew g3)
  have Hz3 := Lib.hid (Hz2.out.grew g3)
  have Hu3 := Lib.hid (Hu2.out.grew g3)
  have HG3 := Lib.hid (grew_tr HG2.out g3)
  clear g3 Ha2 Hb2 Hz2 Hu2 HG2
  have ca0 := Ha3.out.cell 0
  have ca1 := Ha3.out.cell 1
  have fa := fun j => Ha3.out.frozen j
  have la := Ha3.out.lt
  have cb0 := Hb3.out.cell 0
  have cb1 := Hb3.out.cell 1
  have fb := fun j => Hb3.out.frozen j
  have lb := Hb3.out.lt
  have cz0 := Hz3.out.cell 0
  have cz1 := Hz3.out.cell 1
  have fz := fun j => Hz3.out.frozen j
  have lz := Hz3.out.lt
  have cu0 := Hu3.out.cell 0
  have cu1 := Hu3.out.cell 1
  have fu := fun j => Hu3.out.frozen j
  have lu := Hu3.out.lt
  simp only [List.getElem?_toArray, List.getElem?_cons_zero, List.getElem?_cons_succ] at ca0 ca1 cb0 cb1 cz0 cz1 cu0 cu1
  have n0 : ¬ w.heap.size = w3.heap.size := by omega
  have m0 : ¬ w3.heap.size = w.heap.size := by omega
  have n1 : ¬ w.heap.size + 1 = w3.heap.size := by omega
  have m1 : ¬ w3.heap.size = w.heap.size + 1 := by omega
  have n2 : ¬ w.heap.size + 1 + 1 = w3.heap.size := by omega
  have m2 : ¬ w3.heap.size = w.heap.size + 1 + 1 := by omega
  have n3 : ¬ w.heap.size + 1 + 1 + 1 = w3.heap.size := by omega
  have m3 : ¬ w3.heap.size = w.heap.size + 1 + 1 + 1 := by omega
  have n4 : ¬ w.heap.size + 1 + 1 = w3.heap.size + 1 := by omega
  have m4 : ¬ w3.heap.size + 1 = w.heap.size + 1 + 1 := by omega
  have n5 : ¬ w.heap.size + 1 + 1 + 1 = w3.heap.size + 1 := by omega
  have m5 : ¬ w3.heap.size + 1 = w.heap.size + 1 + 1 + 1 := by omega
  clear hl hm HB HR
  go_wp2_with fail
  refine (HD.out _).mono ?_
  rintro e w4 ⟨rfl, g4⟩
  have Hx4 := Lib.hid (show Blk w4 w3.heap.size 98 #[.int .i64 xl, .int .i64 xh] from (show Blk ((w3.alloc (.cells #[.int .i64 xl, .int .i64 xh] 98)).alloc (.cells #[.int .i64 yl, .int .i64 yh] 98)) _ _ _ from Blk.alloc (Blk.new' rfl) _).grew g4)
  have Hy4 := Lib.hid (show Blk w4 (w3.heap.size + 1) 98 #[.int .i64 yl, .int .i64 yh] from (show Blk ((w3.alloc (.cells #[.int .i64 xl, .int .i64 xh] 98)).alloc (.cells #[.int .i64 yl, .int .i64 yh] 98)) _ _ _ from Blk.new' (by simp only [World.size_alloc])).grew g4)
  have g4' := grew_tr (grew_al (grew_al (Below.refl _ w3) (.cells #[.int .i64 xl, .int .i64 xh] 98)) (.cells #[.int .i64 yl, .int .i64 yh] 98)) g4
  clear ca0 ca1 fa la cb0 cb1 fb lb cz0 cz1 fz lz cu0 cu1 fu lu
  have Ha4 := Lib.hid (Ha3.out.grew g4')
  have Hb4 := Lib.hid (Hb3.out.grew g4')
  have Hz4 := Lib.hid (Hz3.out.grew g4')
  have Hu4 := Lib.hid (Hu3.out.grew g4')
  have HG4 := Lib.hid (grew_tr HG3.out g4')
  clear g4' Ha3 Hb3 Hz3 Hu3 HG3
  clear g4
  have ca0 := Ha4.out.cell 0
  have ca1 := Ha4.out.cell 1
  have fa := fun j => Ha4.out.frozen j
  have la := Ha4.out.lt
  have cb0 := Hb4.out.cell 0
  have cb1 := Hb4.out.cell 1
  have fb := fun j => Hb4.out.frozen j
  have lb := Hb4.out.lt
  have cz0 := Hz4.out.cell 0
  have cz1 := Hz4.out.cell 1
  have fz := fun j => Hz4.out.frozen j
  have lz := Hz4.out.lt
  have cu0 := Hu4.out.cell 0
  have cu1 := Hu4.out.cell 1
  have fu := fun j => Hu4.out.frozen j
  have lu := Hu4.out.lt
  simp only [List.getElem?_toArray, List.getElem?_cons_zero, List.getElem?_cons_succ] at ca0 ca1 cb0 cb1 cz0 cz1 cu0 cu1
  have cx0 := Hx4.out.cell 0
  have cx1 := Hx4.out.cell 1
  have fx := fun j => Hx4.out.frozen j
  have lx := Hx4.out.lt
  have cy0 := Hy4.out.cell 0
  have cy1 := Hy4.out.cell 1
  have fy := fun j => Hy4.out.frozen j
  have ly := Hy4.out.lt
  simp only [List.getElem?_toArray, List.getElem?_cons_zero, List.getElem?_cons_succ] at cx0 cx1 cy0 cy1
  cases B
  · go_wp2
    refine bodyPost_ret (by simp [results, Tryz.results162, go_sem, cz0, cz1, cu0, cu1, lz, lu]; try rfl) rfl ?_
    refine ⟨rfl, ?_⟩
    have HG := HG4
    first | exact (grew_set (grew_set (grew_set (grew_set HG.out (by first | omega | (simp only; omega)) _) (by first | omega | (simp only; omega)) _) (by first | omega | (simp only; omega)) _) (by first | omega | (simp only; omega)) _) | exact grew_d (grew_set (grew_set (grew_set (grew_set HG.out (by first | omega | (simp only; omega)) _) (by first | omega | (simp only; omega)) _) (by first | omega | (simp only; omega)) _) (by first | omega | (simp only; omega)) _)
  · go_wp2
    go_region
    go_wp2
    refine bodyPost_ret (by simp [results, Tryz.results162, go_sem, cz0, cz1, cu0, cu1, lz, lu]; try rfl) rfl ?_
    refine ⟨rfl, ?_⟩
    have HG := HG4
    first | exact (grew_set (grew_set (grew_set (grew_set HG.out (by first | omega | (simp only; omega)) _) (by first | omega | (simp only; omega)) _) (by first | omega | (simp only; omega)) _) (by first | omega | (simp only; omega)) _) | exact grew_d (grew_set (grew_set (grew_set (grew_set HG.out (by first | omega | (simp only; omega)) _) (by first | omega | (simp only; omega)) _) (by first | omega | (simp only; omega)) _) (by first | omega | (simp only; omega)) _)
set_option maxRecDepth 100000 in
set_option maxHeartbeats 2000000 in
theorem implItvRel2 (a b : Itv) (w : World) (ha : itvB a = true) (hb : itvB b = true) :
    Calls Tryz.prog 162 #[.int .i64 2, a.v, b.v] w fun e w' => e = .returned (relV (relI 2 a b)) ∧ Grew w w' := by
  obtain ⟨al, ah⟩ := a
  obtain ⟨bl, bh⟩ := b
  have HR := Lib.hid (fun W => mostRestrict ⟨al, ah⟩ ⟨bl, bh⟩ W ha hb)
  have HB := fun W => bothOkG ⟨al, ah⟩ ⟨bl, bh⟩ W
  rw [ha, hb] at HB
  have HB := Lib.hid HB
  have HL := Lib.hid (fun (W : World) g h => relLook (g := g) (W := W) h 2 263 1 rfl)
  have hV := relV_if (relI 2 ⟨al, ah⟩ ⟨bl, bh⟩) rfl
  rw [hV]
  obtain ⟨⟨x, y⟩, hxy⟩ : ∃ p, resI 2 ⟨al, ah⟩ ⟨bl, bh⟩ = p := ⟨_, rfl⟩
  rw [hxy] at HR ⊢
  obtain ⟨xl, xh⟩ := x
  obtain ⟨yl, yh⟩ := y
  have HD := Lib.hid (fun W => bothOkG ⟨xl, xh⟩ ⟨yl, yh⟩ W)
  simp only at HR HD ⊢
  have hm := fun n w => methMost n w
  have hta : ∀ W, (Instr.typeAssert (.iface 263 (.agg #[])) 248 253 true).run Tryz.prog W = .ok (.tuple #[.agg #[], .bool false]) W := fun W => by kernel_rfl
  clear hV
  obtain ⟨B, hB⟩ : ∃ B, (itvB ⟨xl, xh⟩ && itvB ⟨yl, yh⟩) = B := ⟨_, rfl⟩
  rw [hB] at HD ⊢
  clear hB
  clear ha hb hxy
  go_enter Tryz.func162, Tryz.ntmps162
  go_wp2_with fail
  refine (implRelations _).mono ?_
  rintro e w1 ⟨rfl, h1⟩
  simp only [World.size_alloc] at h1 ⊢
  have g1 : Grew ((((w.alloc (.cells #[.int .i64 al, .int .i64 ah] 98)).alloc (.cells #[.int .i64 bl, .int .i64 bh] 98)).alloc (.cells #[.int .i64 0, .int .i64 0] 98)).alloc (.cells #[.int .i64 0, .int .i64 0] 98)) w1 := by rw [h1]; exact grew_al (Below.refl _ _) _
  have Ha1 := Lib.hid (show Blk w1 (w.heap.size) 98 #[.int .i64 al, .int .i64 ah] from (show Blk ((((w.alloc (.cells #[.int .i64 al, .int .i64 ah] 98)).alloc (.cells #[.int .i64 bl, .int .i64 bh] 98)).alloc (.cells #[.int .i64 0, .int .i64 0] 98)).alloc (.cells #[.int .i64 0, .int .i64 0] 98)) _ _ _ from Blk.alloc (Blk.alloc (Blk.alloc (Blk.new' (by simp only [World.size_alloc])) _) _) _).grew g1)
  have Hb1 := Lib.hid (show Blk w1 (w.heap.size + 1) 98 #[.int .i64 bl, .int .i64 bh] from (show Blk ((((w.alloc (.cells #[.int .i64 al, .int .i64 ah] 98)).alloc (.cells #[.int .i64 bl, .int .i64 bh] 98)).alloc (.cells #[.int .i64 0, .int .i64 0] 98)).alloc (.cells #[.int .i64 0, .int .i64 0] 98)) _ _ _ from Blk.alloc (Blk.alloc (Blk.new' (by simp only [World.size_alloc])) _) _).grew g1)
  have Hz1 := Lib.hid (show Blk w1 (w.heap.size + 1 + 1) 98 #[.int .i64 0, .int .i64 0] from (show Blk ((((w.alloc (.cells #[.int .i64 al, .int .i64 ah] 98)).alloc (.cells #[.int .i64 bl, .int .i64 bh] 98)).alloc (.cells #[.int .i64 0, .int .i64 0] 98)).alloc (.cells #[.int .i64 0, .int .i64 0] 98)) _ _ _ from Blk.alloc (Blk.new' (by simp only [World.size_alloc])) _).grew g1)
  have Hu1 := Lib.hid (show Blk w1 (w.heap.size + 1 + 1 + 1) 98 #[.int .i64 0, .int .i64 0] from (show Blk ((((w.alloc (.cells #[.int .i64 al, .int .i64 ah] 98)).alloc (.cells #[.int .i64 bl, .int .i64 bh] 98)).alloc (.cells #[.int .i64 0, .int .i64 0] 98)).alloc (.cells #[.int .i64 0, .int .i64 0] 98)) _ _ _ from Blk.new' (by simp only [World.size_alloc])).grew g1)
  have HG1 := Lib.hid (show Grew w w1 from grew_tr (gr) g1)
  have hl := HL.out w1 (w.heap.size + 1 + 1 + 1 + 1) (by rw [h1]; have := heap_alloc_new ((((w.alloc (.cells #[.int .i64 al, .int .i64 ah] 98)).alloc (.cells #[.int .i64 bl, .int .i64 bh] 98)).alloc (.cells #[.int .i64 0, .int .i64 0] 98)).alloc (.cells #[.int .i64 0, .int .i64 0] 98)) relMap; simp only [World.size_alloc] at this; exact this)
  clear h1 g1 HL
  have ca0 := Ha1.out.cell 0
  have ca1 := Ha1.out.cell 1
  have fa := fun j => Ha1.out.frozen j
  have la := Ha1.out.lt
  have cb0 := Hb1.out.cell 0
  have cb1 := Hb1.out.cell 1
  have fb := fun j => Hb1.out.frozen j
  have lb := Hb1.out.lt
  have cz0 := Hz1.out.cell 0
  have cz1 := Hz1.out.cell 1
  have fz := fun j => Hz1.out.frozen j
  have lz := Hz1.out.lt
  have cu0 := Hu1.out.cell 0
  have cu1 := Hu1.out.cell 1
  have fu := fun j => Hu1.out.frozen j
  have lu := Hu1.out.lt
  simp only [List.getElem?_toArray, List.getElem?_cons_zero, List.getElem?_cons_succ] at ca0 ca1 cb0 cb1 cz0 cz1 cu0 cu1
  go_wp2_with fail
  refine (HB.out _).mono ?_
  rintro e w2 ⟨rfl, g2⟩
  clear ca0 ca1 fa la cb0 cb1 fb lb cz0 cz1 fz lz cu0 cu1 fu lu
  have Ha2 := Lib.hid (Ha1.out.grew g2)
  have Hb2 := Lib.hid (Hb1.out.grew g2)
  have Hz2 := Lib.hid (Hz1.out.grew g2)
  have Hu2 := Lib.hid (Hu1.out.grew g2)
  have HG2 := Lib.hid (grew_tr HG1.out g2)
  clear g2 Ha1 Hb1 Hz1 Hu1 HG1
  have ca0 := Ha2.out.cell 0
  have ca1 := Ha2.out.cell 1
  have fa := fun j => Ha2.out.frozen j
  have la := Ha2.out.lt
  have cb0 := Hb2.out.cell 0
  have cb1 := Hb2.out.cell 1
  have fb := fun j => Hb2.out.frozen j
  have lb := Hb2.out.lt
  have cz0 := Hz2.out.cell 0
  have cz1 := Hz2.out.cell 1
  have fz := fun j => Hz2.out.frozen j
  have lz := Hz2.out.lt
  have cu0 := Hu2.out.cell 0
  have cu1 := Hu2.out.cell 1
  have fu := fun j => Hu2.out.frozen j
  have lu := Hu2.out.lt
  simp only [List.getElem?_toArray, List.getElem?_cons_zero, List.getElem?_cons_succ] at ca0 ca1 cb0 cb1 cz0 cz1 cu0 cu1
  go_wp2_with fail
  refine (HR.out _).mono ?_
  rintro e w3 ⟨rfl, g3'⟩
  have g3 := grew_tr (grew_al (Below.refl _ w2) (.cells #[] 253)) g3'
  clear g3'
  clear ca0 ca1 fa la cb0 cb1 fb lb cz0 cz1 fz lz cu0 cu1 fu lu
  have Ha3 := Lib.hid (Ha2.out.grew g3)
  have Hb3 := Lib.hid (Hb2.out.grew g3)
  have Hz3 := Lib.hid (Hz2.out.grew g3)
  have Hu3 := Lib.hid (Hu2.out.grew g3)
  have HG3 := Lib.hid (grew_tr HG2.out g3)
  clear g3 Ha2 Hb2 Hz2 Hu2 HG2
  have ca0 := Ha3.out.cell 0
  have ca1 := Ha3.out.cell 1
  have fa := fun j => Ha3.out.frozen j
  have la := Ha3.out.lt
  have cb0 := Hb3.out.cell 0
  have cb1 := Hb3.out.cell 1
  have fb := fun j => Hb3.out.frozen j
  have lb := Hb3.out.lt
  have cz0 := Hz3.out.cell 0
  have cz1 := Hz3.out.cell 1
  have fz := fun j => Hz3.out.frozen j
  have lz := Hz3.out.lt
  have cu0 := Hu3.out.cell 0
  have cu1 := Hu3.out.cell 1
  have fu := fun j => Hu3.out.frozen j
  have lu := Hu3.out.lt
  simp only [List.getElem?_toArray, List.getElem?_cons_zero, List.getElem?_cons_succ] at ca0 ca1 cb0 cb1 cz0 cz1 cu0 cu1
  have n0 : ¬ w.heap.size = w3.heap.size := by omega
  have m0 : ¬ w3.heap.size = w.heap.size := by omega
  have n1 : ¬ w.heap.size + 1 = w3.heap.size := by omega
  have m1 : ¬ w3.heap.size = w.heap.size + 1 := by omega
  have n2 : ¬ w.heap.size + 1 + 1 = w3.heap.size := by omega
  have m2 : ¬ w3.heap.size = w.heap.size + 1 + 1 := by omega
  have n3 : ¬ w.heap.size + 1 + 1 + 1 = w3.heap.size := by omega
  have m3 : ¬ w3.heap.size = w.heap.size + 1 + 1 + 1 := by omega
  have n4 : ¬ w.heap.size + 1 + 1 = w3.heap.size + 1 := by omega
  have m4 : ¬ w3.heap.size + 1 = w.heap.size + 1 + 1 := by omega
  have n5 : ¬ w.heap.size + 1 + 1 + 1 = w3.heap.size + 1 := by omega
  have m5 : ¬ w3.heap.size + 1 = w.heap.size + 1 + 1 + 1 := by omega
  clear hl hm HB HR
  go_wp2_with fail
  refine (HD.out _).mono ?_
  rintro e w4 ⟨rfl, g4⟩
  have Hx4 := Lib.hid (show Blk w4 w3.heap.size 98 #[.int .i64 xl, .int .i64 xh] from (show Blk ((w3.alloc (.cells #[.int .i64 xl, .int .i64 xh] 98)).alloc (.cells #[.int .i64 yl, .int .i64 yh] 98)) _ _ _ from Blk.alloc (Blk.new' rfl) _).grew g4)
  have Hy4 := Lib.hid (show Blk w4 (w3.heap.size + 1) 98 #[.int .i64 yl, .int .i64 yh] from (show Blk ((w3.alloc (.cells #[.int .i64 xl, .int .i64 xh] 98)).alloc (.cells #[.int .i64 yl, .int .i64 yh] 98)) _ _ _ from Blk.new' (by simp only [World.size_alloc])).grew g4)
  have g4' := grew_tr (grew_al (grew_al (Below.refl _ w3) (.cells #[.int .i64 xl, .int .i64 xh] 98)) (.cells #[.int .i64 yl, .int .i64 yh] 98)) g4
  clear ca0 ca1 fa la cb0 cb1 fb lb cz0 cz1 fz lz cu0 cu1 fu lu
  have Ha4 := Lib.hid (Ha3.out.grew g4')
  have Hb4 := Lib.hid (Hb3.out.grew g4')
  have Hz4 := Lib.hid (Hz3.out.grew g4')
  have Hu4 := Lib.hid (Hu3.out.grew g4')
  have HG4 := Lib.hid (grew_tr HG3.out g4')
  clear g4' Ha3 Hb3 Hz3 Hu3 HG3
  clear g4
  have ca0 := Ha4.out.cell 0
  have ca1 := Ha4.out.cell 1
  have fa := fun j => Ha4.out.frozen j
  have la := Ha4.out.lt
  have cb0 := Hb4.out.cell 0
  have cb1 := Hb4.out.cell 1
  have fb := fun j => Hb4.out.frozen j
  have lb := Hb4.out.lt
  have cz0 := Hz4.out.cell 0
  have cz1 := Hz4.out.cell 1
  have fz := fun j => Hz4.out.frozen j
  have lz := Hz4.out.lt
  have cu0 := Hu4.out.cell 0
  have cu1 := Hu4.out.cell 1
  have fu := fun j => Hu4.out.frozen j
  have lu := Hu4.out.lt
  simp only [List.getElem?_toArray, List.getElem?_cons_zero, List.getElem?_cons_succ] at ca0 ca1 cb0 cb1 cz0 cz1 cu0 cu1
  have cx0 := Hx4.out.cell 0
  have cx1 := Hx4.out.cell 1
  have fx := fun j => Hx4.out.frozen j
  have lx := Hx4.out.lt
  have cy0 := Hy4.out.cell 0
  have cy1 := Hy4.out.cell 1
  have fy := fun j => Hy4.out.frozen j
  have ly := Hy4.out.lt
  simp only [List.getElem?_toArray, List.getElem?_cons_zero, List.getElem?_cons_succ] at cx0 cx1 cy0 cy1
  cases B
  · go_wp2
    refine bodyPost_ret (by simp [results, Tryz.results162, go_sem, cz0, cz1, cu0, cu1, lz, lu]; try rfl) rfl ?_
    refine ⟨rfl, ?_⟩
    have HG := HG4
    first | exact (grew_set (grew_set (grew_set (grew_set HG.out (by first | omega | (simp only; omega)) _) (by first | omega | (simp only; omega)) _) (by first | omega | (simp only; omega)) _) (by first | omega | (simp only; omega)) _) | exact grew_d (grew_set (grew_set (grew_set (grew_set HG.out (by first | omega | (simp only; omega)) _) (by first | omega | (simp only; omega)) _) (by first | omega | (simp only; omega)) _) (by first | omega | (simp only; omega)) _)
  · go_wp2
    go_region
    go_wp2
    refine bodyPost_ret (by simp [results, Tryz.results162, go_sem, cz0, cz1, cu0, cu1, lz, lu]; try rfl) rfl ?_
    refine ⟨rfl, ?_⟩
    have HG := HG4
    first | exact (grew_set (grew_set (grew_set (grew_set HG.out (by first | omega | (simp only; omega)) _) (by first | omega | (simp only; omega)) _) (by first | omega | (simp only; omega)) _) (by first | omega | (simp only; omega)) _) | exact grew_d (grew_set (grew_set (grew_set (grew_set HG.out (by first | omega | (simp only; omega)) _) (by first | omega | (simp only; omega)) _) (by first | omega | (simp only; omega)) _) (by first | omega | (simp only; omega)) _)
set_option maxRecDepth 100000 in
set_option maxHeartbeats 2000000 in
theorem implItvRel4 (a b : Itv) (w : World) (ha : itvB a = true) (hb : itvB b = true) :
    Calls Tryz.prog 162 #[.int .i64 4, a.v, b.v] w fun e w' => e = .returned (relV (relI 4 a b)) ∧ Grew w w' := by
  obtain ⟨al, ah⟩ := a
  obtain ⟨bl, bh⟩ := b
  have HR := Lib.hid (fun W => otherRestrict ⟨al, ah⟩ ⟨bl, bh⟩ W ha hb)
  have HB := fun W => bothOkG ⟨al, ah⟩ ⟨bl, bh⟩ W
  rw [ha, hb] at HB
  have HB := Lib.hid HB
  have HL := Lib.hid (fun (W : World) g h => relLook (g := g) (W := W) h 4 264 3 rfl)
  have hV := relV_if (relI 4 ⟨al, ah⟩ ⟨bl, bh⟩) rfl
  rw [hV]
  obtain ⟨⟨x, y⟩, hxy⟩ : ∃ p, resI 4 ⟨al, ah⟩ ⟨bl, bh⟩ = p := ⟨_, rfl⟩
  rw [hxy] at HR ⊢
  obtain ⟨xl, xh⟩ := x
  obtain ⟨yl, yh⟩ := y
  have HD := Lib.hid (fun W => bothOkG ⟨xl, xh⟩ ⟨yl, yh⟩ W)
  simp only at HR HD ⊢
  have hm := fun n w => methOther n w
  have hta : ∀ W, (Instr.typeAssert (.iface 264 (.agg #[])) 248 253 true).run Tryz.prog W = .ok (.tuple #[.agg #[], .bool false]) W := fun W => by kernel_rfl
  clear hV
  obtain ⟨B, hB⟩ : ∃ B, (itvB ⟨xl, xh⟩ && itvB ⟨yl, yh⟩) = B := ⟨_, rfl⟩
  rw [hB] at HD ⊢
  clear hB
  clear ha hb hxy
  go_enter Tryz.func162, Tryz.ntmps162
  go_wp2_with fail
  refine (implRelations _).mono ?_
  rintro e w1 ⟨rfl, h1⟩
  simp only [World.size_alloc] at h1 ⊢
  have g1 : Grew ((((w.alloc (.cells #[.int .i64 al, .int .i64 ah] 98)).alloc (.cells #[.int .i64 bl, .int .i64 bh] 98)).alloc (.cells #[.int .i64 0, .int .i64 0] 98)).alloc (.cells #[.int .i64 0, .int .i64 0] 98)) w1 := by rw [h1]; exact grew_al (Below.refl _ _) _
  have Ha1 := Lib.hid (show Blk w1 (w.heap.size) 98 #[.int .i64 al, .int .i64 ah] from (show Blk ((((w.alloc (.cells #[.int .i64 al, .int .i64 ah] 98)).alloc (.cells #[.int .i64 bl, .int .i64 bh] 98)).alloc (.cells #[.int .i64 0, .int .i64 0] 98)).alloc (.cells #[.int .i64 0, .int .i64 0] 98)) _ _ _ from Blk.alloc (Blk.alloc (Blk.alloc (Blk.new' (by simp only [World.size_alloc])) _) _) _).grew g1)
  have Hb1 := Lib.hid (show Blk w1 (w.heap.size + 1) 98 #[.int .i64 bl, .int .i64 bh] from (show Blk ((((w.alloc (.cells #[.int .i64 al, .int .i64 ah] 98)).alloc (.cells #[.int .i64 bl, .int .i64 bh] 98)).alloc (.cells #[.int .i64 0, .int .i64 0] 98)).alloc (.cells #[.int .i64 0, .int .i64 0] 98)) _ _ _ from Blk.alloc (Blk.alloc (Blk.new' (by simp only [World.size_alloc])) _) _).grew g1)
  have Hz1 := Lib.hid (show Blk w1 (w.heap.size + 1 + 1) 98 #[.int .i64 0, .int .i64 0] from (show Blk ((((w.alloc (.cells #[.int .i64 al, .int .i64 ah] 98)).alloc (.cells #[.int .i64 bl, .int .i64 bh] 98)).alloc (.cells #[.int .i64 0, .int .i64 0] 98)).alloc (.cells #[.int .i64 0, .int .i64 0] 98)) _ _ _ from Blk.alloc (Blk.new' (by simp only [World.size_alloc])) _).grew g1)
  have Hu1 := Lib.hid (show Blk w1 (w.heap.size + 1 + 1 + 1) 98 #[.int .i64 0, .int .i64 0] from (show Blk ((((w.alloc (.cells #[.int .i64 al, .int .i64 ah] 98)).alloc (.cells #[.int .i64 bl, .int .i64 bh] 98)).alloc (.cells #[.int .i64 0, .int .i64 0] 98)).alloc (.cells #[.int .i64 0, .int .i64 0] 98)) _ _ _ from Blk.new' (by simp only [World.size_alloc])).grew g1)
  have HG1 := Lib.hid (show Grew w w1 from grew_tr (gr) g1)
  have hl := HL.out w1 (w.heap.size + 1 + 1 + 1 + 1) (by rw [h1]; have := heap_alloc_new ((((w.alloc (.cells #[.int .i64 al, .int .i64 ah] 98)).alloc (.cells #[.int .i64 bl, .int .i64 bh] 98)).alloc (.cells #[.int .i64 0, .int .i64 0] 98)).alloc (.cells #[.int .i64 0, .int .i64 0] 98)) relMap; simp only [World.size_alloc] at this; exact this)
  clear h1 g1 HL
  have ca0 := Ha1.out.cell 0
  have ca1 := Ha1.out.cell 1
  have fa := fun j => Ha1.out.frozen j
  have la := Ha1.out.lt
  have cb0 := Hb1.out.cell 0
  have cb1 := Hb1.out.cell 1
  have fb := fun j => Hb1.out.frozen j
  have lb := Hb1.out.lt
  have cz0 := Hz1.out.cell 0
  have cz1 := Hz1.out.cell 1
  have fz := fun j => Hz1.out.frozen j
  have lz := Hz1.out.lt
  have cu0 := Hu1.out.cell 0
  have cu1 := Hu1.out.cell 1
  have fu := fun j => Hu1.out.frozen j
  have lu := Hu1.out.lt
  simp only [List.getElem?_toArray, List.getElem?_cons_zero, List.getElem?_cons_succ] at ca0 ca1 cb0 cb1 cz0 cz1 cu0 cu1
  go_wp2_with fail
  refine (HB.out _).mono ?_
  rintro e w2 ⟨rfl, g2⟩
  clear ca0 ca1 fa la cb0 cb1 fb lb cz0 cz1 fz lz cu0 cu1 fu lu
  have Ha2 := Lib.hid (Ha1.out.grew g2)
  have Hb2 := Lib.hid (Hb1.out.grew g2)
  have Hz2 := Lib.hid (Hz1.out.grew g2)
  have Hu2 := Lib.hid (Hu1.out.grew g2)
  have HG2 := Lib.hid (grew_tr HG1.out g2)
  clear g2 Ha1 Hb1 Hz1 Hu1 HG1
  have ca0 := Ha2.out.cell 0
  have ca1 := Ha2.out.cell 1
  have fa := fun j => Ha2.out.frozen j
  have la := Ha2.out.lt
  have cb0 := Hb2.out.cell 0
  have cb1 := Hb2.out.cell 1
  have fb := fun j => Hb2.out.frozen j
  have lb := Hb2.out.lt
  have cz0 := Hz2.out.cell 0
  have cz1 := Hz2.out.cell 1
  have fz := fun j => Hz2.out.frozen j
  have lz := Hz2.out.lt
  have cu0 := Hu2.out.cell 0
  have cu1 := Hu2.out.cell 1
  have fu := fun j => Hu2.out.frozen j
  have lu := Hu2.out.lt
  simp only [List.getElem?_toArray, List.getElem?_cons_zero, List.getElem?_cons_succ] at ca0 ca1 cb0 cb1 cz0 cz1 cu0 cu1
  go_wp2_with fail
  refine (HR.out _).mono ?_
  rintro e w3 ⟨rfl, g3'⟩
  have g3 := grew_tr (grew_al (Below.refl _ w2) (.cells #[] 253)) g3'
  clear g3'
  clear ca0 ca1 fa la cb0 cb1 fb lb cz0 cz1 fz lz cu0 cu1 fu lu
  have Ha3 := Lib.hid (Ha2.out.grew g3)
  have Hb3 := Lib.hid (Hb2.out.grew g3)
  have Hz3 := Lib.hid (Hz2.out.grew g3)
  have Hu3 := Lib.hid (Hu2.out.grew g3)
  have HG3 := Lib.hid (grew_tr HG2.out g3)
  clear g3 Ha2 Hb2 Hz2 Hu2 HG2
  have ca0 := Ha3.out.cell 0
  have ca1 := Ha3.out.cell 1
  have fa := fun j => Ha3.out.frozen j
  have la := Ha3.out.lt
  have cb0 := Hb3.out.cell 0
  have cb1 := Hb3.out.cell 1
  have fb := fun j => Hb3.out.frozen j
  have lb := Hb3.out.lt
  have cz0 := Hz3.out.cell 0
  have cz1 := Hz3.out.cell 1
  have fz := fun j => Hz3.out.frozen j
  have lz := Hz3.out.lt
  have cu0 := Hu3.out.cell 0
  have cu1 := Hu3.out.cell 1
  have fu := fun j => Hu3.out.frozen j
  have lu := Hu3.out.lt
  simp only [List.getElem?_toArray, List.getElem?_cons_zero, List.getElem?_cons_succ] at ca0 ca1 cb0 cb1 cz0 cz1 cu0 cu1
  have n0 : ¬ w.heap.size = w3.heap.size := by omega
  have m0 : ¬ w3.heap.size = w.heap.size := by omega
  have n1 : ¬ w.heap.size + 1 = w3.heap.size := by omega
  have m1 : ¬ w3.heap.size = w.heap.size + 1 := by omega
  have n2 : ¬ w.heap.size + 1 + 1 = w3.heap.size := by omega
  have m2 : ¬ w3.heap.size = w.heap.size + 1 + 1 := by omega
  have n3 : ¬ w.heap.size + 1 + 1 + 1 = w3.heap.size := by omega
  have m3 : ¬ w3.heap.size = w.heap.size + 1 + 1 + 1 := by omega
  have n4 : ¬ w.heap.size + 1 + 1 = w3.heap.size + 1 := by omega
  have m4 : ¬ w3.heap.size + 1 = w.heap.size + 1 + 1 := by omega
  have n5 : ¬ w.heap.size + 1 + 1 + 1 = w3.heap.size + 1 := by omega
  have m5 : ¬ w3.heap.size + 1 = w.heap.size + 1 + 1 + 1 := by omega
  clear hl hm HB HR
  go_wp2_with fail
  refine (HD.out _).mono ?_
  rintro e w4 ⟨rfl, g4⟩
  have Hx4 := Lib.hid (show Blk w4 w3.heap.size 98 #[.int .i64 xl, .int .i64 xh] from (show Blk ((w3.alloc (.cells #[.int .i64 xl, .int .i64 xh] 98)).alloc (.cells #[.int .i64 yl, .int .i64 yh] 98)) _ _ _ from Blk.alloc (Blk.new' rfl) _).grew g4)
  have Hy4 := Lib.hid (show Blk w4 (w3.heap.size + 1) 98 #[.int .i64 yl, .int .i64 yh] from (show Blk ((w3.alloc (.cells #[.int .i64 xl, .int .i64 xh] 98)).alloc (.cells #[.int .i64 yl, .int .i64 yh] 98)) _ _ _ from Blk.new' (by simp only [World.size_alloc])).grew g4)
  have g4' := grew_tr (grew_al (grew_al (Below.refl _ w3) (.cells #[.int .i64 xl, .int .i64 xh] 98)) (.cells #[.int .i64 yl, .int .i64 yh] 98)) g4
  clear ca0 ca1 fa la cb0 cb1 fb lb cz0 cz1 fz lz cu0 cu1 fu lu
  have Ha4 := Lib.hid (Ha3.out.grew g4')
  have Hb4 := Lib.hid (Hb3.out.grew g4')
  have Hz4 := Lib.hid (Hz3.out.grew g4')
  have Hu4 := Lib.hid (Hu3.out.grew g4')
  have HG4 := Lib.hid (grew_tr HG3.out g4')
  clear g4' Ha3 Hb3 Hz3 Hu3 HG3
  clear g4
  have ca0 := Ha4.out.cell 0
  have ca1 := Ha4.out.cell 1
  have fa := fun j => Ha4.out.frozen j
  have la := Ha4.out.lt
  have cb0 := Hb4.out.cell 0
  have cb1 := Hb4.out.cell 1
  have fb := fun j => Hb4.out.frozen j
  have lb := Hb4.out.lt
  have cz0 := Hz4.out.cell 0
  have cz1 := Hz4.out.cell 1
  have fz := fun j => Hz4.out.frozen j
  have lz := Hz4.out.lt
  have cu0 := Hu4.out.cell 0
  have cu1 := Hu4.out.cell 1
  have fu := fun j => Hu4.out.frozen j
  have lu := Hu4.out.lt
  simp only [List.getElem?_toArray, List.getElem?_cons_zero, List.getElem?_cons_succ] at ca0 ca1 cb0 cb1 cz0 cz1 cu0 cu1
  have cx0 := Hx4.out.cell 0
  have cx1 := Hx4.out.cell 1
  have fx := fun j => Hx4.out.frozen j
  have lx := Hx4.out.lt
  have cy0 := Hy4.out.cell 0
  have cy1 := Hy4.out.cell 1
  have fy := fun j => Hy4.out.frozen j
  have ly := Hy4.out.lt
  simp only [List.getElem?_toArray, List.getElem?_cons_zero, List.getElem?_cons_succ] at cx0 cx1 cy0 cy1
  cases B
  · go_wp2
    refine bodyPost_ret (by simp [results, Tryz.results162, go_sem, cz0, cz1, cu0, cu1, lz, lu]; try rfl) rfl ?_
    refine ⟨rfl, ?_⟩
    have HG := HG4
    first | exact (grew_set (grew_set (grew_set (grew_set HG.out (by first | omega | (simp only; omega)) _) (by first | omega | (simp only; omega)) _) (by first | omega | (simp only; omega)) _) (by first | omega | (simp only; omega)) _) | exact grew_d (grew_set (grew_set (grew_set (grew_set HG.out (by first | omega | (simp only; omega)) _) (by first | omega | (simp only; omega)) _) (by first | omega | (simp only; omega)) _) (by first | omega | (simp only; omega)) _)
  · go_wp2
    go_region
    go_wp2
    refine bodyPost_ret (by simp [results, Tryz.results162, go_sem, cz0, cz1, cu0, cu1, lz, lu]; try rfl) rfl ?_
    refine ⟨rfl, ?_⟩
    have HG := HG4
    first | exact (grew_set (grew_set (grew_set (grew_set HG.out (by first | omega | (simp only; omega)) _) (by first | omega | (simp only; omega)) _) (by first | omega | (simp only; omega)) _) (by first | omega | (simp only; omega)) _) | exact grew_d (grew_set (grew_set (grew_set (grew_set HG.out (by first | omega | (simp only; omega)) _) (by first | omega | (simp only; omega)) _) (by first | omega | (simp only; omega)) _) (by first | omega | (simp only; omega)) _)
set_option maxRecDepth 100000 in
set_option maxHeartbeats 2000000 in
theorem implItvRel3 (a b : Itv) (w : World) (ha : itvB a = true) (hb : itvB b = true) :
    Calls Tryz.prog 162 #[.int .i64 3, a.v, b.v] w fun e w' => e = .returned (relV (relI 3 a b)) ∧ Grew w w' := by
  obtain ⟨al, ah⟩ := a
  obtain ⟨bl, bh⟩ := b
  have HR := Lib.hid (fun W => sameRestrict ⟨al, ah⟩ ⟨bl, bh⟩ W ha hb)
  have HB := fun W => bothOkG ⟨al, ah⟩ ⟨bl, bh⟩ W
  rw [ha, hb] at HB
  have HB := Lib.hid HB
  have HL := Lib.hid (fun (W : World) g h => relLook (g := g) (W := W) h 3 253 2 rfl)
  have hV := relV_if (relI 3 ⟨al, ah⟩ ⟨bl, bh⟩) rfl
  rw [hV]
  obtain ⟨⟨x, y⟩, hxy⟩ : ∃ p, resI 3 ⟨al, ah⟩ ⟨bl, bh⟩ = p := ⟨_, rfl⟩
  rw [hxy] at HR ⊢
  obtain ⟨xl, xh⟩ := x
  obtain ⟨yl, yh⟩ := y
  have HD := Lib.hid (fun W => bothOkG ⟨xl, xh⟩ ⟨yl, yh⟩ W)
  simp only at HR HD ⊢
  have hm := fun n w => methSame n w
  have hta : ∀ W, (Instr.typeAssert (.iface 253 (.agg #[])) 248 253 true).run Tryz.prog W = .ok (.tuple #[.agg #[], .bool true]) W := fun W => by kernel_rfl
  clear hV
  have HC := fun W => implCutItv ⟨al, ah⟩ bl bh W
  have hx : cutI ⟨al, ah⟩ bl bh = ⟨xl, xh⟩ ∧ (⟨xl, xh⟩ : Itv) = ⟨yl, yh⟩ := by
    simp [resI] at hxy
    exact ⟨hxy.1, hxy.1.symm.trans hxy.2⟩
  rw [hx.1] at HC
  have HC := Lib.hid HC
  obtain ⟨h1, h2⟩ := Itv.mk.inj hx.2
  subst h1 h2
  have HO := fun W => itvOk xl xh W
  rw [Bool.and_self] at HD ⊢
  obtain ⟨B, hB⟩ : ∃ B, itvB ⟨xl, xh⟩ = B := ⟨_, rfl⟩
  have hB' : itvOkB xl xh = B := hB
  rw [hB] at HD ⊢
  rw [hB'] at HO
  have HO := Lib.hid HO
  clear hx hB hB'
  clear ha hb hxy
  go_enter Tryz.func162, Tryz.ntmps162
  go_wp2_with fail
  refine (implRelations _).mono ?_
  rintro e w1 ⟨rfl, h1⟩
  simp only [World.size_alloc] at h1 ⊢
  have g1 : Grew ((((w.alloc (.cells #[.int .i64 al, .int .i64 ah] 98)).alloc (.cells #[.int .i64 bl, .int .i64 bh] 98)).alloc (.cells #[.int .i64 0, .int .i64 0] 98)).alloc (.cells #[.int .i64 0, .int .i64 0] 98)) w1 := by rw [h1]; exact grew_al (Below.refl _ _) _
  have Ha1 := Lib.hid (show Blk w1 (w.heap.size) 98 #[.int .i64 al, .int .i64 ah] from (show Blk ((((w.alloc (.cells #[.int .i64 al, .int .i64 ah] 98)).alloc (.cells #[.int .i64 bl, .int .i64 bh] 98)).alloc (.cells #[.int .i64 0, .int .i64 0] 98)).alloc (.cells #[.int .i64 0, .int .i64 0] 98)) _ _ _ from Blk.alloc (Blk.alloc (Blk.alloc (Blk.new' (by simp only [World.size_alloc])) _) _) _).grew g1)
  have Hb1 := Lib.hid (show Blk w1 (w.heap.size + 1) 98 #[.int .i64 bl, .int .i64 bh] from (show Blk ((((w.alloc (.cells #[.int .i64 al, .int .i64 ah] 98)).alloc (.cells #[.int .i64 bl, .int .i64 bh] 98)).alloc (.cells #[.int .i64 0, .int .i64 0] 98)).alloc (.cells #[.int .i64 0, .int .i64 0] 98)) _ _ _ from Blk.alloc (Blk.alloc (Blk.new' (by simp only [World.size_alloc])) _) _).grew g1)
  have Hz1 := Lib.hid (show Blk w1 (w.heap.size + 1 + 1) 98 #[.int .i64 0, .int .i64 0] from (show Blk ((((w.alloc (.cells #[.int .i64 al, .int .i64 ah] 98)).alloc (.cells #[.int .i64 bl, .int .i64 bh] 98)).alloc (.cells #[.int .i64 0, .int .i64 0] 98)).alloc (.cells #[.int .i64 0, .int .i64 0] 98)) _ _ _ from Blk.alloc (Blk.new' (by simp only [World.size_alloc])) _).grew g1)
  have Hu1 := Lib.hid (show Blk w1 (w.heap.size + 1 + 1 + 1) 98 #[.int .i64 0, .int .i64 0] from (show Blk ((((w.alloc (.cells #[.int .i64 al, .int .i64 ah] 98)).alloc (.cells #[.int .i64 bl, .int .i64 bh] 98)).alloc (.cells #[.int .i64 0, .int .i64 0] 98)).alloc (.cells #[.int .i64 0, .int .i64 0] 98)) _ _ _ from Blk.new' (by simp only [World.size_alloc])).grew g1)
  have HG1 := Lib.hid (show Grew w w1 from grew_tr (gr) g1)
  have hl := HL.out w1 (w.heap.size + 1 + 1 + 1 + 1) (by rw [h1]; have := heap_alloc_new ((((w.alloc (.cells #[.int .i64 al, .int .i64 ah] 98)).alloc (.cells #[.int .i64 bl, .int .i64 bh] 98)).alloc (.cells #[.int .i64 0, .int .i64 0] 98)).alloc (.cells #[.int .i64 0, .int .i64 0] 98)) relMap; simp only [World.size_alloc] at this; exact this)
  clear h1 g1 HL
  have ca0 := Ha1.out.cell 0
  have ca1 := Ha1.out.cell 1
  have fa := fun j => Ha1.out.frozen j
  have la := Ha1.out.lt
  have cb0 := Hb1.out.cell 0
  have cb1 := Hb1.out.cell 1
  have fb := fun j => Hb1.out.frozen j
  have lb := Hb1.out.lt
  have cz0 := Hz1.out.cell 0
  have cz1 := Hz1.out.cell 1
  have fz := fun j => Hz1.out.frozen j
  have lz := Hz1.out.lt
  have cu0 := Hu1.out.cell 0
  have cu1 := Hu1.out.cell 1
  have fu := fun j => Hu1.out.frozen j
  have lu := Hu1.out.lt
  simp only [List.getElem?_toArray, List.getElem?_cons_zero, List.getElem?_cons_succ] at ca0 ca1 cb0 cb1 cz0 cz1 cu0 cu1
  go_wp2_with fail
  refine (HB.out _).mono ?_
  rintro e w2 ⟨rfl, g2⟩
  clear ca0 ca1 fa la cb0 cb1 fb lb cz0 cz1 fz lz cu0 cu1 fu lu
  have Ha2 := Lib.hid (Ha1.out.grew g2)
  have Hb2 := Lib.hid (Hb1.out.grew g2)
  have Hz2 := Lib.hid (Hz1.out.grew g2)
  have Hu2 := Lib.hid (Hu1.out.grew g2)
  have HG2 := Lib.hid (grew_tr HG1.out g2)
  clear g2 Ha1 Hb1 Hz1 Hu1 HG1
  have ca0 := Ha2.out.cell 0
  have ca1 := Ha2.out.cell 1
  have fa := fun j => Ha2.out.frozen j
  have la := Ha2.out.lt
  have cb0 := Hb2.out.cell 0
  have cb1 := Hb2.out.cell 1
  have fb := fun j => Hb2.out.frozen j
  have lb := Hb2.out.lt
  have cz0 := Hz2.out.cell 0
  have cz1 := Hz2.out.cell 1
  have fz := fun j => Hz2.out.frozen j
  have lz := Hz2.out.lt
  have cu0 := Hu2.out.cell 0
  have cu1 := Hu2.out.cell 1
  have fu := fun j => Hu2.out.frozen j
  have lu := Hu2.out.lt
  simp only [List.getElem?_toArray, List.getElem?_cons_zero, List.getElem?_cons_succ] at ca0 ca1 cb0 cb1 cz0 cz1 cu0 cu1
  go_wp2_with fail
  refine (HC.out _).mono ?_
  rintro e w3 ⟨rfl, g3⟩
  have g3' := grew_tr (grew_al (Below.refl _ w2) (.cells #[] 253)) g3
  clear ca0 ca1 fa la cb0 cb1 fb lb cz0 cz1 fz lz cu0 cu1 fu lu
  have Ha3 := Lib.hid (Ha2.out.grew g3')
  have Hb3 := Lib.hid (Hb2.out.grew g3')
  have Hz3 := Lib.hid (Hz2.out.grew g3')
  have Hu3 := Lib.hid (Hu2.out.grew g3')
  have HG3 := Lib.hid (grew_tr HG2.out g3')
  clear g3' Ha2 Hb2 Hz2 Hu2 HG2
  clear g3
  have ca0 := Ha3.out.cell 0
  have ca1 := Ha3.out.cell 1
  have fa := fun j => Ha3.out.frozen j
  have la := Ha3.out.lt
  have cb0 := Hb3.out.cell 0
  have cb1 := Hb3.out.cell 1
  have fb := fun j => Hb3.out.frozen j
  have lb := Hb3.out.lt
  have cz0 := Hz3.out.cell 0
  have cz1 := Hz3.out.cell 1
  have fz := fun j => Hz3.out.frozen j
  have lz := Hz3.out.lt
  have cu0 := Hu3.out.cell 0
  have cu1 := Hu3.out.cell 1
  have fu := fun j => Hu3.out.frozen j
  have lu := Hu3.out.lt
  simp only [List.getElem?_toArray, List.getElem?_cons_zero, List.getElem?_cons_succ] at ca0 ca1 cb0 cb1 cz0 cz1 cu0 cu1
  go_wp2_with fail
  refine (HO.out _).mono ?_
  rintro e w4 ⟨rfl, g4⟩
  clear ca0 ca1 fa la cb0 cb1 fb lb cz0 cz1 fz lz cu0 cu1 fu lu
  have Ha4 := Lib.hid (Ha3.out.grew g4)
  have Hb4 := Lib.hid (Hb3.out.grew g4)
  have Hz4 := Lib.hid (Hz3.out.grew g4)
  have Hu4 := Lib.hid (Hu3.out.grew g4)
  have HG4 := Lib.hid (grew_tr HG3.out g4)
  clear g4 Ha3 Hb3 Hz3 Hu3 HG3
  have ca0 := Ha4.out.cell 0
  have ca1 := Ha4.out.cell 1
  have fa := fun j => Ha4.out.frozen j
  have la := Ha4.out.lt
  have cb0 := Hb4.out.cell 0
  have cb1 := Hb4.out.cell 1
  have fb := fun j => Hb4.out.frozen j
  have lb := Hb4.out.lt
  have cz0 := Hz4.out.cell 0
  have cz1 := Hz4.out.cell 1
  have fz := fun j => Hz4.out.frozen j
  have lz := Hz4.out.lt
  have cu0 := Hu4.out.cell 0
  have cu1 := Hu4.out.cell 1
  have fu := fun j => Hu4.out.frozen j
  have lu := Hu4.out.lt
  simp only [List.getElem?_toArray, List.getElem?_cons_zero, List.getElem?_cons_succ] at ca0 ca1 cb0 cb1 cz0 cz1 cu0 cu1
  cases B
  · go_wp2
    refine bodyPost_ret (by simp [results, Tryz.results162, go_sem, cz0, cz1, cu0, cu1, lz, lu]; try rfl) rfl ?_
    refine ⟨rfl, ?_⟩
    have HG := HG4
    first | exact (grew_set (grew_set (grew_set (grew_set HG.out (by first | omega | (simp only; omega)) _) (by first | omega | (simp only; omega)) _) (by first | omega | (simp only; omega)) _) (by first | omega | (simp only; omega)) _) | exact grew_d (grew_set (grew_set (grew_set (grew_set HG.out (by first | omega | (simp only; omega)) _) (by first | omega | (simp only; omega)) _) (by first | omega | (simp only; omega)) _) (by first | omega | (simp only; omega)) _)
  go_wp2_with fail
  refine (HR.out _).mono ?_
  rintro e w5 ⟨rfl, g5⟩
  clear ca0 ca1 fa la cb0 cb1 fb lb cz0 cz1 fz lz cu0 cu1 fu lu
  have Ha5 := Lib.hid (Ha4.out.grew g5)
  have Hb5 := Lib.hid (Hb4.out.grew g5)
  have Hz5 := Lib.hid (Hz4.out.grew g5)
  have Hu5 := Lib.hid (Hu4.out.grew g5)
  have HG5 := Lib.hid (grew_tr HG4.out g5)
  clear g5 Ha4 Hb4 Hz4 Hu4 HG4
  have ca0 := Ha5.out.cell 0
  have ca1 := Ha5.out.cell 1
  have fa := fun j => Ha5.out.frozen j
  have la := Ha5.out.lt
  have cb0 := Hb5.out.cell 0
  have cb1 := Hb5.out.cell 1
  have fb := fun j => Hb5.out.frozen j
  have lb := Hb5.out.lt
  have cz0 := Hz5.out.cell 0
  have cz1 := Hz5.out.cell 1
  have fz := fun j => Hz5.out.frozen j
  have lz := Hz5.out.lt
  have cu0 := Hu5.out.cell 0
  have cu1 := Hu5.out.cell 1
  have fu := fun j => Hu5.out.frozen j
  have lu := Hu5.out.lt
  simp only [List.getElem?_toArray, List.getElem?_cons_zero, List.getElem?_cons_succ] at ca0 ca1 cb0 cb1 cz0 cz1 cu0 cu1
  have n0 : ¬ w.heap.size = w5.heap.size := by omega
  have m0 : ¬ w5.heap.size = w.heap.size := by omega
  have n1 : ¬ w.heap.size + 1 = w5.heap.size := by omega
  have m1 : ¬ w5.heap.size = w.heap.size + 1 := by omega
  have n2 : ¬ w.heap.size + 1 + 1 = w5.heap.size := by omega
  have m2 : ¬ w5.heap.size = w.heap.size + 1 + 1 := by omega
  have n3 : ¬ w.heap.size + 1 + 1 + 1 = w5.heap.size := by omega
  have m3 : ¬ w5.heap.size = w.heap.size + 1 + 1 + 1 := by omega
  have n4 : ¬ w.heap.size + 1 + 1 = w5.heap.size + 1 := by omega
  have m4 : ¬ w5.heap.size + 1 = w.heap.size + 1 + 1 := by omega
  have n5 : ¬ w.heap.size + 1 + 1 + 1 = w5.heap.size + 1 := by omega
  have m5 : ¬ w5.heap.size + 1 = w.heap.size + 1 + 1 + 1 := by omega
  clear hl hm HB HR
  go_wp2_with fail
  refine (HD.out _).mono ?_
  rintro e w6 ⟨rfl, g6⟩
  have Hx6 := Lib.hid (show Blk w6 w5.heap.size 98 #[.int .i64 xl, .int .i64 xh] from (show Blk ((w5.alloc (.cells #[.int .i64 xl, .int .i64 xh] 98)).alloc (.cells #[.int .i64 xl, .int .i64 xh] 98)) _ _ _ from Blk.alloc (Blk.new' rfl) _).grew g6)
  have Hy6 := Lib.hid (show Blk w6 (w5.heap.size + 1) 98 #[.int .i64 xl, .int .i64 xh] from (show Blk ((w5.alloc (.cells #[.int .i64 xl, .int .i64 xh] 98)).alloc (.cells #[.int .i64 xl, .int .i64 xh] 98)) _ _ _ from Blk.new' (by simp only [World.size_alloc])).grew g6)
  have g6' := grew_tr (grew_al (grew_al (Below.refl _ w5) (.cells #[.int .i64 xl, .int .i64 xh] 98)) (.cells #[.int .i64 xl, .int .i64 xh] 98)) g6
  clear ca0 ca1 fa la cb0 cb1 fb lb cz0 cz1 fz lz cu0 cu1 fu lu
  have Ha6 := Lib.hid (Ha5.out.grew g6')
  have Hb6 := Lib.hid (Hb5.out.grew g6')
  have Hz6 := Lib.hid (Hz5.out.grew g6')
  have Hu6 := Lib.hid (Hu5.out.grew g6')
  have HG6 := Lib.hid (grew_tr HG5.out g6')
  clear g6' Ha5 Hb5 Hz5 Hu5 HG5
  clear g6
  have ca0 := Ha6.out.cell 0
  have ca1 := Ha6.out.cell 1
  have fa := fun j => Ha6.out.frozen j
  have la := Ha6.out.lt
  have cb0 := Hb6.out.cell 0
  have cb1 := Hb6.out.cell 1
  have fb := fun j => Hb6.out.frozen j
  have lb := Hb6.out.lt
  have cz0 := Hz6.out.cell 0
  have cz1 := Hz6.out.cell 1
  have fz := fun j => Hz6.out.frozen j
  have lz := Hz6.out.lt
  have cu0 := Hu6.out.cell 0
  have cu1 := Hu6.out.cell 1
  have fu := fun j => Hu6.out.frozen j
  have lu := Hu6.out.lt
  simp only [List.getElem?_toArray, List.getElem?_cons_zero, List.getElem?_cons_succ] at ca0 ca1 cb0 cb1 cz0 cz1 cu0 cu1
  have cx0 := Hx6.out.cell 0
  have cx1 := Hx6.out.cell 1
  have fx := fun j => Hx6.out.frozen j
  have lx := Hx6.out.lt
  have cy0 := Hy6.out.cell 0
  have cy1 := Hy6.out.cell 1
  have fy := fun j => Hy6.out.frozen j
  have ly := Hy6.out.lt
  simp only [List.getElem?_toArray, List.getElem?_cons_zero, List.getElem?_cons_succ] at cx0 cx1 cy0 cy1
  go_wp2
  go_region
  go_wp2
  refine bodyPost_ret (by simp [results, Tryz.results162, go_sem, cz0, cz1, cu0, cu1, lz, lu]; try rfl) rfl ?_
  refine ⟨rfl, ?_⟩
  have HG := HG6
  first | exact (grew_set (grew_set (grew_set (grew_set HG.out (by first | omega | (simp only; omega)) _) (by first | omega | (simp only; omega)) _) (by first | omega | (simp only; omega)) _) (by first | omega | (simp only; omega)) _) | exact grew_d (grew_set (grew_set (grew_set (grew_set HG.out (by first | omega | (simp only; omega)) _) (by first | omega | (simp only; omega)) _) (by first | omega | (simp only; omega)) _) (by first | omega | (simp only; omega)) _)
end Go.Proofs.YtdddhnepanjmfaaGreat
