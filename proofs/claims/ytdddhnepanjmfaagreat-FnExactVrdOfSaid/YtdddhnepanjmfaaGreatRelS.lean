/- What a relation leaves of two bounds: the reference's side. No condition. -/
import Derived.Test.YtdddhnepanjmfaaGreatItvM
import Derived.Test.YtdddhnepanjmfaaGreatSt
import Derived.Test.YtdddhnepanjmfaaGreatStN
namespace Go.Proofs.YtdddhnepanjmfaaGreat
open Go.RowKit
set_option linter.unusedVariables false
set_option linter.unusedSimpArgs false
attribute [local go_sem] ext_cell ext_frozen ext_lt ext_le ext_le1 lt_s2 lt_s3 lt_s4 lt_s5 lt_s6 ext_lt1 ext_lt2 ext_lt3

def rA (o : Option (Itv × Itv)) : Itv := (o.getD (⟨0, 0⟩, ⟨0, 0⟩)).1
def rB (o : Option (Itv × Itv)) : Itv := (o.getD (⟨0, 0⟩, ⟨0, 0⟩)).2
theorem relV_eq (o : Option (Itv × Itv)) : relV o = .tuple #[(rA o).v, (rB o).v, .bool o.isSome] := by cases o <;> rfl
theorem rA_swap (o : Option (Itv × Itv)) : rA (swapI o) = rB o := by cases o <;> rfl
theorem rB_swap (o : Option (Itv × Itv)) : rB (swapI o) = rA o := by cases o <;> rfl
theorem some_swap (o : Option (Itv × Itv)) : (swapI o).isSome = o.isSome := by cases o <;> rfl
theorem specL2Both (x y : Itv) (w : World) : Calls Tryz.prog 148 #[x.v, y.v] w fun e w' => e = .returned (relV (bothI x y)) ∧ Grew w w' := by
  obtain ⟨a, b⟩ := x
  obtain ⟨c, d⟩ := y
  by_cases h1 : b < a
  · have hV : relV (bothI ⟨a, b⟩ ⟨c, d⟩) = .tuple #[(⟨0, 0⟩ : Itv).v, (⟨0, 0⟩ : Itv).v, .bool false] := by simp [bothI, h1, relV]
    rw [hV]
    clear hV
    go_enter Tryz.func148, Tryz.ntmps148
    go_wp2
    go_returns
    refine ⟨rfl, ?_⟩
    exact gr
  · by_cases h2 : d < c
    · have hV : relV (bothI ⟨a, b⟩ ⟨c, d⟩) = .tuple #[(⟨0, 0⟩ : Itv).v, (⟨0, 0⟩ : Itv).v, .bool false] := by simp [bothI, h1, h2, relV]
      rw [hV]
      clear hV
      go_enter Tryz.func148, Tryz.ntmps148
      go_wp2
      go_returns
      refine ⟨rfl, ?_⟩
      exact gr
    · have hV : relV (bothI ⟨a, b⟩ ⟨c, d⟩) = .tuple #[(⟨a, b⟩ : Itv).v, (⟨c, d⟩ : Itv).v, .bool true] := by simp [bothI, h1, h2, relV]
      rw [hV]
      clear hV
      go_enter Tryz.func148, Tryz.ntmps148
      go_wp2
      go_region
      go_wp2
      go_returns
      refine ⟨rfl, ?_⟩
      exact gr
theorem specL2Cut (x : Itv) (n : Int) (w : World) (h1 : -32768 ≤ n) (h2 : n ≤ 32767) : Calls Tryz.prog 169 #[x.v, .int .i64 n] w fun e w' => e = .returned (optV (endI x n)) ∧ Grew w w' := by
  obtain ⟨a, b⟩ := x
  by_cases h3 : a = n
  · subst h3
    by_cases h4 : b = a
    · subst h4
      have hV : optV (endI ⟨b, b⟩ b) = .tuple #[(⟨0, 0⟩ : Itv).v, .bool false] := by simp [endI, optV]
      rw [hV]
      clear hV
      go_enter Tryz.func169, Tryz.ntmps169
      go_wp2
      go_returns
      refine ⟨rfl, ?_⟩
      exact gr
    · have hV : optV (endI ⟨a, b⟩ a) = .tuple #[(⟨a + 1, b⟩ : Itv).v, .bool true] := by simp [endI, optV, h4]
      rw [hV]
      clear hV
      go_enter Tryz.func169, Tryz.ntmps169
      go_wp2
      go_returns
      refine ⟨rfl, ?_⟩
      exact gr
  · by_cases h4 : b = n
    · subst h4
      have hV : optV (endI ⟨a, b⟩ b) = .tuple #[(⟨a, b - 1⟩ : Itv).v, .bool true] := by simp [endI, optV, h3]
      rw [hV]
      clear hV
      go_enter Tryz.func169, Tryz.ntmps169
      go_wp2
      go_returns
      refine ⟨rfl, ?_⟩
      exact gr
    · have hV : optV (endI ⟨a, b⟩ n) = .tuple #[(⟨a, b⟩ : Itv).v, .bool true] := by simp [endI, optV, h3, h4]
      rw [hV]
      clear hV
      go_enter Tryz.func169, Tryz.ntmps169
      go_wp2
      go_returns
      refine ⟨rfl, ?_⟩
      exact gr
set_option maxHeartbeats 8000000 in
theorem specL2Other (a b : Itv) (w : World) (ha : itvB a = true) (hb : itvB b = true) : Calls Tryz.prog 149 #[a.v, b.v] w fun e w' => e = .returned (relV (otherI a b)) ∧ Grew w w' := by
  obtain ⟨al, ah⟩ := a
  obtain ⟨bl, bh⟩ := b
  rw [itvB_iff] at ha hb
  simp only at ha hb
  have HA := fun W => specL2Cut ⟨al, ah⟩ bl W (by omega) (by omega)
  have HB := fun W => specL2Cut ⟨bl, bh⟩ al W (by omega) (by omega)
  by_cases h1 : bl = bh
  · subst h1
    cases hx : endI ⟨al, ah⟩ bl with
    | none =>
      rw [hx] at HA
      dsimp only [optV] at HA
      have hV : relV (otherI ⟨al, ah⟩ ⟨bl, bl⟩) = .tuple #[(⟨0, 0⟩ : Itv).v, (⟨0, 0⟩ : Itv).v, .bool false] := by simp [otherI, relV, hx]
      rw [hV]
      have HA := Lib.hid HA
      clear hV HB hx
      go_enter Tryz.func149, Tryz.ntmps149
      go_wp2_with fail
      refine (HA.out _).mono ?_
      rintro e w1 ⟨rfl, g1⟩
      have Ha1 := Lib.hid (show Blk w1 (w.heap.size) 98 #[.int .i64 al, .int .i64 ah] from (show Blk ((((((w.alloc (.cells #[.int .i64 al, .int .i64 ah] 98)).alloc (.cells #[.int .i64 bl, .int .i64 bl] 98)).alloc (.cells #[.int .i64 0, .int .i64 0] 98)).alloc (.cells #[.int .i64 0, .int .i64 0] 98)).alloc (.cells #[.int .i64 al, .int .i64 ah] 98)).alloc (.cells #[.int .i64 bl, .int .i64 bl] 98)) _ _ _ from Blk.alloc (Blk.alloc (Blk.alloc (Blk.alloc (Blk.alloc (Blk.new' (by simp only [World.size_alloc])) _) _) _) _) _).grew g1)
      have Hb1 := Lib.hid (show Blk w1 (w.heap.size + 1) 98 #[.int .i64 bl, .int .i64 bl] from (show Blk ((((((w.alloc (.cells #[.int .i64 al, .int .i64 ah] 98)).alloc (.cells #[.int .i64 bl, .int .i64 bl] 98)).alloc (.cells #[.int .i64 0, .int .i64 0] 98)).alloc (.cells #[.int .i64 0, .int .i64 0] 98)).alloc (.cells #[.int .i64 al, .int .i64 ah] 98)).alloc (.cells #[.int .i64 bl, .int .i64 bl] 98)) _ _ _ from Blk.alloc (Blk.alloc (Blk.alloc (Blk.alloc (Blk.new' (by simp only [World.size_alloc])) _) _) _) _).grew g1)
      have Hz1 := Lib.hid (show Blk w1 (w.heap.size + 1 + 1) 98 #[.int .i64 0, .int .i64 0] from (show Blk ((((((w.alloc (.cells #[.int .i64 al, .int .i64 ah] 98)).alloc (.cells #[.int .i64 bl, .int .i64 bl] 98)).alloc (.cells #[.int .i64 0, .int .i64 0] 98)).alloc (.cells #[.int .i64 0, .int .i64 0] 98)).alloc (.cells #[.int .i64 al, .int .i64 ah] 98)).alloc (.cells #[.int .i64 bl, .int .i64 bl] 98)) _ _ _ from Blk.alloc (Blk.alloc (Blk.alloc (Blk.new' (by simp only [World.size_alloc])) _) _) _).grew g1)
      have Hu1 := Lib.hid (show Blk w1 (w.heap.size + 1 + 1 + 1) 98 #[.int .i64 0, .int .i64 0] from (show Blk ((((((w.alloc (.cells #[.int .i64 al, .int .i64 ah] 98)).alloc (.cells #[.int .i64 bl, .int .i64 bl] 98)).alloc (.cells #[.int .i64 0, .int .i64 0] 98)).alloc (.cells #[.int .i64 0, .int .i64 0] 98)).alloc (.cells #[.int .i64 al, .int .i64 ah] 98)).alloc (.cells #[.int .i64 bl, .int .i64 bl] 98)) _ _ _ from Blk.alloc (Blk.alloc (Blk.new' (by simp only [World.size_alloc])) _) _).grew g1)
      have Hx1 := Lib.hid (show Blk w1 (w.heap.size + 1 + 1 + 1 + 1) 98 #[.int .i64 al, .int .i64 ah] from (show Blk ((((((w.alloc (.cells #[.int .i64 al, .int .i64 ah] 98)).alloc (.cells #[.int .i64 bl, .int .i64 bl] 98)).alloc (.cells #[.int .i64 0, .int .i64 0] 98)).alloc (.cells #[.int .i64 0, .int .i64 0] 98)).alloc (.cells #[.int .i64 al, .int .i64 ah] 98)).alloc (.cells #[.int .i64 bl, .int .i64 bl] 98)) _ _ _ from Blk.alloc (Blk.new' (by simp only [World.size_alloc])) _).grew g1)
      have Hy1 := Lib.hid (show Blk w1 (w.heap.size + 1 + 1 + 1 + 1 + 1) 98 #[.int .i64 bl, .int .i64 bl] from (show Blk ((((((w.alloc (.cells #[.int .i64 al, .int .i64 ah] 98)).alloc (.cells #[.int .i64 bl, .int .i64 bl] 98)).alloc (.cells #[.int .i64 0, .int .i64 0] 98)).alloc (.cells #[.int .i64 0, .int .i64 0] 98)).alloc (.cells #[.int .i64 al, .int .i64 ah] 98)).alloc (.cells #[.int .i64 bl, .int .i64 bl] 98)) _ _ _ from Blk.new' (by simp only [World.size_alloc])).grew g1)
      have HG1 := Lib.hid (show Grew w w1 from grew_tr (gr) g1)
      clear g1
      have ca0 := Ha1.out.cell 0
      have ca1 := Ha1.out.cell 1
      have fa := fun j => Ha1.out.frozen j
      have la := Ha1.out.lt
      have cb0 := Hb1.out.cell 0
      have cb1 := Hb1.out.cell 1
      have fb := fun j => Hb1.out.frozen j
      have lb := Hb1.out.lt
      have cz0 := Hz1.out.cell 0
      have cz1 := Hz1.out.cell 1
      have fz := fun j => Hz1.out.frozen j
      have lz := Hz1.out.lt
      have cu0 := Hu1.out.cell 0
      have cu1 := Hu1.out.cell 1
      have fu := fun j => Hu1.out.frozen j
      have lu := Hu1.out.lt
      have cx0 := Hx1.out.cell 0
      have cx1 := Hx1.out.cell 1
      have fx := fun j => Hx1.out.frozen j
      have lx := Hx1.out.lt
      have cy0 := Hy1.out.cell 0
      have cy1 := Hy1.out.cell 1
      have fy := fun j => Hy1.out.frozen j
      have ly := Hy1.out.lt
      simp only [List.getElem?_toArray, List.getElem?_cons_zero, List.getElem?_cons_succ] at ca0 ca1 cb0 cb1 cz0 cz1 cu0 cu1 cx0 cx1 cy0 cy1
      go_wp2
      refine bodyPost_ret (by simp [results, Tryz.results149, go_sem, cz0, cz1, cu0, cu1, lz, lu]; try rfl) rfl ?_
      refine ⟨rfl, ?_⟩
      repeat (first | with_reducible exact HG1.out | with_reducible refine grew_set ?_ (by first | omega | (simp only; omega)) _ | with_reducible refine grew_d ?_ | with_reducible refine grew_al ?_ _)
    | some x =>
      obtain ⟨xl, xh⟩ := x
      rw [hx] at HA
      dsimp only [optV] at HA
      by_cases h2 : al = ah
      · subst h2
        cases hy : endI ⟨bl, bl⟩ al with
        | none =>
          rw [hy] at HB
          dsimp only [optV] at HB
          have hV : relV (otherI ⟨al, al⟩ ⟨bl, bl⟩) = .tuple #[(⟨0, 0⟩ : Itv).v, (⟨0, 0⟩ : Itv).v, .bool false] := by simp [otherI, relV, hx, hy]
          rw [hV]
          have HA := Lib.hid HA
          have HB := Lib.hid HB
          clear hV hx hy
          go_enter Tryz.func149, Tryz.ntmps149
          go_wp2_with fail
          refine (HA.out _).mono ?_
          rintro e w1 ⟨rfl, g1⟩
          have Ha1 := Lib.hid (show Blk w1 (w.heap.size) 98 #[.int .i64 al, .int .i64 al] from (show Blk ((((((w.alloc (.cells #[.int .i64 al, .int .i64 al] 98)).alloc (.cells #[.int .i64 bl, .int .i64 bl] 98)).alloc (.cells #[.int .i64 0, .int .i64 0] 98)).alloc (.cells #[.int .i64 0, .int .i64 0] 98)).alloc (.cells #[.int .i64 al, .int .i64 al] 98)).alloc (.cells #[.int .i64 bl, .int .i64 bl] 98)) _ _ _ from Blk.alloc (Blk.alloc (Blk.alloc (Blk.alloc (Blk.alloc (Blk.new' (by simp only [World.size_alloc])) _) _) _) _) _).grew g1)
          have Hb1 := Lib.hid (show Blk w1 (w.heap.size + 1) 98 #[.int .i64 bl, .int .i64 bl] from (show Blk ((((((w.alloc (.cells #[.int .i64 al, .int .i64 al] 98)).alloc (.cells #[.int .i64 bl, .int .i64 bl] 98)).alloc (.cells #[.int .i64 0, .int .i64 0] 98)).alloc (.cells #[.int .i64 0, .int .i64 0] 98)).alloc (.cells #[.int .i64 al, .int .i64 al] 98)).alloc (.cells #[.int .i64 bl, .int .i64 bl] 98)) _ _ _ from Blk.alloc (Blk.alloc (Blk.alloc (Blk.alloc (Blk.new' (by simp only [World.size_alloc])) _) _) _) _).grew g1)
          have Hz1 := Lib.hid (show Blk w1 (w.heap.size + 1 + 1) 98 #[.int .i64 0, .int .i64 0] from (show Blk ((((((w.alloc (.cells #[.int .i64 al, .int .i64 al] 98)).alloc (.cells #[.int .i64 bl, .int .i64 bl] 98)).alloc (.cells #[.int .i64 0, .int .i64 0] 98)).alloc (.cells #[.int .i64 0, .int .i64 0] 98)).alloc (.cells #[.int .i64 al, .int .i64 al] 98)).alloc (.cells #[.int .i64 bl, .int .i64 bl] 98)) _ _ _ from Blk.alloc (Blk.alloc (Blk.alloc (Blk.new' (by simp only [World.size_alloc])) _) _) _).grew g1)
          have Hu1 := Lib.hid (show Blk w1 (w.heap.size + 1 + 1 + 1) 98 #[.int .i64 0, .int .i64 0] from (show Blk ((((((w.alloc (.cells #[.int .i64 al, .int .i64 al] 98)).alloc (.cells #[.int .i64 bl, .int .i64 bl] 98)).alloc (.cells #[.int .i64 0, .int .i64 0] 98)).alloc (.cells #[.int .i64 0, .int .i64 0] 98)).alloc (.cells #[.int .i64 al, .int .i64 al] 98)).alloc (.cells #[.int .i64 bl, .int .i64 bl] 98)) _ _ _ from Blk.alloc (Blk.alloc (Blk.new' (by simp only [World.size_alloc])) _) _).grew g1)
          have Hx1 := Lib.hid (show Blk w1 (w.heap.size + 1 + 1 + 1 + 1) 98 #[.int .i64 al, .int .i64 al] from (show Blk ((((((w.alloc (.cells #[.int .i64 al, .int .i64 al] 98)).alloc (.cells #[.int .i64 bl, .int .i64 bl] 98)).alloc (.cells #[.int .i64 0, .int .i64 0] 98)).alloc (.cells #[.int .i64 0, .int .i64 0] 98)).alloc (.cells #[.int .i64 al, .int .i64 al] 98)).alloc (.cells #[.int .i64 bl, .int .i64 bl] 98)) _ _ _ from Blk.alloc (Blk.new' (by simp only [World.size_alloc])) _).grew g1)
          have Hy1 := Lib.hid (show Blk w1 (w.heap.size + 1 + 1 + 1 + 1 + 1) 98 #[.int .i64 bl, .int .i64 bl] from (show Blk ((((((w.alloc (.cells #[.int .i64 al, .int .i64 al] 98)).alloc (.cells #[.int .i64 bl, .int .i64 bl] 98)).alloc (.cells #[.int .i64 0, .int .i64 0] 98)).alloc (.cells #[.int .i64 0, .int .i64 0] 98)).alloc (.cells #[.int .i64 al, .int .i64 al] 98)).alloc (.cells #[.int .i64 bl, .int .i64 bl] 98)) _ _ _ from Blk.new' (by simp only [World.size_alloc])).grew g1)
          have HG1 := Lib.hid (show Grew w w1 from grew_tr (gr) g1)
          clear g1
          have ca0 := Ha1.out.cell 0
          have ca1 := Ha1.out.cell 1
          have fa := fun j => Ha1.out.frozen j
          have la := Ha1.out.lt
          have cb0 := Hb1.out.cell 0
          have cb1 := Hb1.out.cell 1
          have fb := fun j => Hb1.out.frozen j
          have lb := Hb1.out.lt
          have cz0 := Hz1.out.cell 0
          have cz1 := Hz1.out.cell 1
          have fz := fun j => Hz1.out.frozen j
          have lz := Hz1.out.lt
          have cu0 := Hu1.out.cell 0
          have cu1 := Hu1.out.cell 1
          have fu := fun j => Hu1.out.frozen j
          have lu := Hu1.out.lt
          have cx0 := Hx1.out.cell 0
          have cx1 := Hx1.out.cell 1
          have fx := fun j => Hx1.out.frozen j
          have lx := Hx1.out.lt
          have cy0 := Hy1.out.cell 0
          have cy1 := Hy1.out.cell 1
          have fy := fun j => Hy1.out.frozen j
          have ly := Hy1.out.lt
          simp only [List.getElem?_toArray, List.getElem?_cons_zero, List.getElem?_cons_succ] at ca0 ca1 cb0 cb1 cz0 cz1 cu0 cu1 cx0 cx1 cy0 cy1
          go_wp2_with fail
          refine (HB.out _).mono ?_
          rintro e w2 ⟨rfl, g2⟩
          clear ca0 ca1 fa la cb0 cb1 fb lb cz0 cz1 fz lz cu0 cu1 fu lu cx0 cx1 fx lx cy0 cy1 fy ly
          have Ha2 : Hid (Blk w2 (w.heap.size) 98 #[.int .i64 al, .int .i64 al]) := Lib.hid (((Ha1.out.far (p := ⟨w.heap.size + 1 + 1 + 1 + 1, 0, none⟩) (by simp only; omega) _).far (p := ⟨w.heap.size + 1 + 1 + 1 + 1, 1, none⟩) (by simp only; omega) _).grew g2)
          have Hb2 : Hid (Blk w2 (w.heap.size + 1) 98 #[.int .i64 bl, .int .i64 bl]) := Lib.hid (((Hb1.out.far (p := ⟨w.heap.size + 1 + 1 + 1 + 1, 0, none⟩) (by simp only; omega) _).far (p := ⟨w.heap.size + 1 + 1 + 1 + 1, 1, none⟩) (by simp only; omega) _).grew g2)
          have Hz2 : Hid (Blk w2 (w.heap.size + 1 + 1) 98 #[.int .i64 0, .int .i64 0]) := Lib.hid (((Hz1.out.far (p := ⟨w.heap.size + 1 + 1 + 1 + 1, 0, none⟩) (by simp only; omega) _).far (p := ⟨w.heap.size + 1 + 1 + 1 + 1, 1, none⟩) (by simp only; omega) _).grew g2)
          have Hu2 : Hid (Blk w2 (w.heap.size + 1 + 1 + 1) 98 #[.int .i64 0, .int .i64 0]) := Lib.hid (((Hu1.out.far (p := ⟨w.heap.size + 1 + 1 + 1 + 1, 0, none⟩) (by simp only; omega) _).far (p := ⟨w.heap.size + 1 + 1 + 1 + 1, 1, none⟩) (by simp only; omega) _).grew g2)
          have Hx2 : Hid (Blk w2 (w.heap.size + 1 + 1 + 1 + 1) 98 #[.int .i64 xl, .int .i64 xh]) := Lib.hid (((Hx1.out.set_ 0 (.int .i64 xl)).set_ 1 (.int .i64 xh)).grew g2)
          have Hy2 : Hid (Blk w2 (w.heap.size + 1 + 1 + 1 + 1 + 1) 98 #[.int .i64 bl, .int .i64 bl]) := Lib.hid (((Hy1.out.far (p := ⟨w.heap.size + 1 + 1 + 1 + 1, 0, none⟩) (by simp only; omega) _).far (p := ⟨w.heap.size + 1 + 1 + 1 + 1, 1, none⟩) (by simp only; omega) _).grew g2)
          have HG2 := Lib.hid (grew_tr (grew_set (b := w.heap.size + 1 + 1 + 1 + 1) (o := 1) (grew_set (b := w.heap.size + 1 + 1 + 1 + 1) (o := 0) HG1.out (by first | omega | (simp only; omega)) _) (by first | omega | (simp only; omega)) _) g2)
          clear HG1 Ha1 Hb1 Hz1 Hu1 Hx1 Hy1
          clear g2
          have ca0 := Ha2.out.cell 0
          have ca1 := Ha2.out.cell 1
          have fa := fun j => Ha2.out.frozen j
          have la := Ha2.out.lt
          have cb0 := Hb2.out.cell 0
          have cb1 := Hb2.out.cell 1
          have fb := fun j => Hb2.out.frozen j
          have lb := Hb2.out.lt
          have cz0 := Hz2.out.cell 0
          have cz1 := Hz2.out.cell 1
          have fz := fun j => Hz2.out.frozen j
          have lz := Hz2.out.lt
          have cu0 := Hu2.out.cell 0
          have cu1 := Hu2.out.cell 1
          have fu := fun j => Hu2.out.frozen j
          have lu := Hu2.out.lt
          have cx0 := Hx2.out.cell 0
          have cx1 := Hx2.out.cell 1
          have fx := fun j => Hx2.out.frozen j
          have lx := Hx2.out.lt
          have cy0 := Hy2.out.cell 0
          have cy1 := Hy2.out.cell 1
          have fy := fun j => Hy2.out.frozen j
          have ly := Hy2.out.lt
          simp only [List.getElem?_toArray, List.getElem?_cons_zero, List.getElem?_cons_succ] at ca0 ca1 cb0 cb1 cz0 cz1 cu0 cu1 cx0 cx1 cy0 cy1
          go_wp2
          refine bodyPost_ret (by simp [results, Tryz.results149, go_sem, cz0, cz1, cu0, cu1, lz, lu]; try rfl) rfl ?_
          refine ⟨rfl, ?_⟩
          repeat (first | with_reducible exact HG2.out | with_reducible refine grew_set ?_ (by first | omega | (simp only; omega)) _ | with_reducible refine grew_d ?_ | with_reducible refine grew_al ?_ _)
        | some y =>
          obtain ⟨yl, yh⟩ := y
          rw [hy] at HB
          dsimp only [optV] at HB
          have hV : relV (otherI ⟨al, al⟩ ⟨bl, bl⟩) = .tuple #[(⟨xl, xh⟩ : Itv).v, (⟨yl, yh⟩ : Itv).v, .bool true] := by simp [otherI, relV, hx, hy]
          rw [hV]
          have HA := Lib.hid HA
          have HB := Lib.hid HB
          clear hV hx hy
          go_enter Tryz.func149, Tryz.ntmps149
          go_wp2_with fail
          refine (HA.out _).mono ?_
          rintro e w1 ⟨rfl, g1⟩
          have Ha1 := Lib.hid (show Blk w1 (w.heap.size) 98 #[.int .i64 al, .int .i64 al] from (show Blk ((((((w.alloc (.cells #[.int .i64 al, .int .i64 al] 98)).alloc (.cells #[.int .i64 bl, .int .i64 bl] 98)).alloc (.cells #[.int .i64 0, .int .i64 0] 98)).alloc (.cells #[.int .i64 0, .int .i64 0] 98)).alloc (.cells #[.int .i64 al, .int .i64 al] 98)).alloc (.cells #[.int .i64 bl, .int .i64 bl] 98)) _ _ _ from Blk.alloc (Blk.alloc (Blk.alloc (Blk.alloc (Blk.alloc (Blk.new' (by simp only [World.size_alloc])) _) _) _) _) _).grew g1)
          have Hb1 := Lib.hid (show Blk w1 (w.heap.size + 1) 98 #[.int .i64 bl, .int .i64 bl] from (show Blk ((((((w.alloc (.cells #[.int .i64 al, .int .i64 al] 98)).alloc (.cells #[.int .i64 bl, .int .i64 bl] 98)).alloc (.cells #[.int .i64 0, .int .i64 0] 98)).alloc (.cells #[.int .i64 0, .int .i64 0] 98)).alloc (.cells #[.int .i64 al, .int .i64 al] 98)).alloc (.cells #[.int .i64 bl, .int .i64 bl] 98)) _ _ _ from Blk.alloc (Blk.alloc (Blk.alloc (Blk.alloc (Blk.new' (by simp only [World.size_alloc])) _) _) _) _).grew g1)
          have Hz1 := Lib.hid (show Blk w1 (w.heap.size + 1 + 1) 98 #[.int .i64 0, .int .i64 0] from (show Blk ((((((w.alloc (.cells #[.int .i64 al, .int .i64 al] 98)).alloc (.cells #[.int .i64 bl, .int .i64 bl] 98)).alloc (.cells #[.int .i64 0, .int .i64 0] 98)).alloc (.cells #[.int .i64 0, .int .i64 0] 98)).alloc (.cells #[.int .i64 al, .int .i64 al] 98)).alloc (.cells #[.int .i64 bl, .int .i64 bl] 98)) _ _ _ from Blk.alloc (Blk.alloc (Blk.alloc (Blk.new' (by simp only [World.size_alloc])) _) _) _).grew g1)
          have Hu1 := Lib.hid (show Blk w1 (w.heap.size + 1 + 1 + 1) 98 #[.int .i64 0, .int .i64 0] from (show Blk ((((((w.alloc (.cells #[.int .i64 al, .int .i64 al] 98)).alloc (.cells #[.int .i64 bl, .int .i64 bl] 98)).alloc (.cells #[.int .i64 0, .int .i64 0] 98)).alloc (.cells #[.int .i64 0, .int .i64 0] 98)).alloc (.cells #[.int .i64 al, .int .i64 al] 98)).alloc (.cells #[.int .i64 bl, .int .i64 bl] 98)) _ _ _ from Blk.alloc (Blk.alloc (Blk.new' (by simp only [World.size_alloc])) _) _).grew g1)
          have Hx1 := Lib.hid (show Blk w1 (w.heap.size + 1 + 1 + 1 + 1) 98 #[.int .i64 al, .int .i64 al] from (show Blk ((((((w.alloc (.cells #[.int .i64 al, .int .i64 al] 98)).alloc (.cells #[.int .i64 bl, .int .i64 bl] 98)).alloc (.cells #[.int .i64 0, .int .i64 0] 98)).alloc (.cells #[.int .i64 0, .int .i64 0] 98)).alloc (.cells #[.int .i64 al, .int .i64 al] 98)).alloc (.cells #[.int .i64 bl, .int .i64 bl] 98)) _ _ _ from Blk.alloc (Blk.new' (by simp only [World.size_alloc])) _).grew g1)
          have Hy1 := Lib.hid (show Blk w1 (w.heap.size + 1 + 1 + 1 + 1 + 1) 98 #[.int .i64 bl, .int .i64 bl] from (show Blk ((((((w.alloc (.cells #[.int .i64 al, .int .i64 al] 98)).alloc (.cells #[.int .i64 bl, .int .i64 bl] 98)).alloc (.cells #[.int .i64 0, .int .i64 0] 98)).alloc (.cells #[.int .i64 0, .int .i64 0] 98)).alloc (.cells #[.int .i64 al, .int .i64 al] 98)).alloc (.cells #[.int .i64 bl, .int .i64 bl] 98)) _ _ _ from Blk.new' (by simp only [World.size_alloc])).grew g1)
          have HG1 := Lib.hid (show Grew w w1 from grew_tr (gr) g1)
          clear g1
          have ca0 := Ha1.out.cell 0
          have ca1 := Ha1.out.cell 1
          have fa := fun j => Ha1.out.frozen j
          have la := Ha1.out.lt
          have cb0 := Hb1.out.cell 0
          have cb1 := Hb1.out.cell 1
          have fb := fun j => Hb1.out.frozen j
          have lb := Hb1.out.lt
          have cz0 := Hz1.out.cell 0
          have cz1 := Hz1.out.cell 1
          have fz := fun j => Hz1.out.frozen j
          have lz := Hz1.out.lt
          have cu0 := Hu1.out.cell 0
          have cu1 := Hu1.out.cell 1
          have fu := fun j => Hu1.out.frozen j
          have lu := Hu1.out.lt
          have cx0 := Hx1.out.cell 0
          have cx1 := Hx1.out.cell 1
          have fx := fun j => Hx1.out.frozen j
          have lx := Hx1.out.lt
          have cy0 := Hy1.out.cell 0
          have cy1 := Hy1.out.cell 1
          have fy := fun j => Hy1.out.frozen j
          have ly := Hy1.out.lt
          simp only [List.getElem?_toArray, List.getElem?_cons_zero, List.getElem?_cons_succ] at ca0 ca1 cb0 cb1 cz0 cz1 cu0 cu1 cx0 cx1 cy0 cy1
          go_wp2_with fail
          refine (HB.out _).mono ?_
          rintro e w2 ⟨rfl, g2⟩
          clear ca0 ca1 fa la cb0 cb1 fb lb cz0 cz1 fz lz cu0 cu1 fu lu cx0 cx1 fx lx cy0 cy1 fy ly
          have Ha2 : Hid (Blk w2 (w.heap.size) 98 #[.int .i64 al, .int .i64 al]) := Lib.hid (((Ha1.out.far (p := ⟨w.heap.size + 1 + 1 + 1 + 1, 0, none⟩) (by simp only; omega) _).far (p := ⟨w.heap.size + 1 + 1 + 1 + 1, 1, none⟩) (by simp only; omega) _).grew g2)
          have Hb2 : Hid (Blk w2 (w.heap.size + 1) 98 #[.int .i64 bl, .int .i64 bl]) := Lib.hid (((Hb1.out.far (p := ⟨w.heap.size + 1 + 1 + 1 + 1, 0, none⟩) (by simp only; omega) _).far (p := ⟨w.heap.size + 1 + 1 + 1 + 1, 1, none⟩) (by simp only; omega) _).grew g2)
          have Hz2 : Hid (Blk w2 (w.heap.size + 1 + 1) 98 #[.int .i64 0, .int .i64 0]) := Lib.hid (((Hz1.out.far (p := ⟨w.heap.size + 1 + 1 + 1 + 1, 0, none⟩) (by simp only; omega) _).far (p := ⟨w.heap.size + 1 + 1 + 1 + 1, 1, none⟩) (by simp only; omega) _).grew g2)
          have Hu2 : Hid (Blk w2 (w.heap.size + 1 + 1 + 1) 98 #[.int .i64 0, .int .i64 0]) := Lib.hid (((Hu1.out.far (p := ⟨w.heap.size + 1 + 1 + 1 + 1, 0, none⟩) (by simp only; omega) _).far (p := ⟨w.heap.size + 1 + 1 + 1 + 1, 1, none⟩) (by simp only; omega) _).grew g2)
          have Hx2 : Hid (Blk w2 (w.heap.size + 1 + 1 + 1 + 1) 98 #[.int .i64 xl, .int .i64 xh]) := Lib.hid (((Hx1.out.set_ 0 (.int .i64 xl)).set_ 1 (.int .i64 xh)).grew g2)
          have Hy2 : Hid (Blk w2 (w.heap.size + 1 + 1 + 1 + 1 + 1) 98 #[.int .i64 bl, .int .i64 bl]) := Lib.hid (((Hy1.out.far (p := ⟨w.heap.size + 1 + 1 + 1 + 1, 0, none⟩) (by simp only; omega) _).far (p := ⟨w.heap.size + 1 + 1 + 1 + 1, 1, none⟩) (by simp only; omega) _).grew g2)
          have HG2 := Lib.hid (grew_tr (grew_set (b := w.heap.size + 1 + 1 + 1 + 1) (o := 1) (grew_set (b := w.heap.size + 1 + 1 + 1 + 1) (o := 0) HG1.out (by first | omega | (simp only; omega)) _) (by first | omega | (simp only; omega)) _) g2)
          clear HG1 Ha1 Hb1 Hz1 Hu1 Hx1 Hy1
          clear g2
          have ca0 := Ha2.out.cell 0
          have ca1 := Ha2.out.cell 1
          have fa := fun j => Ha2.out.frozen j
          have la := Ha2.out.lt
          have cb0 := Hb2.out.cell 0
          have cb1 := Hb2.out.cell 1
          have fb := fun j => Hb2.out.frozen j
          have lb := Hb2.out.lt
          have cz0 := Hz2.out.cell 0
          have cz1 := Hz2.out.cell 1
          have fz := fun j => Hz2.out.frozen j
          have lz := Hz2.out.lt
          have cu0 := Hu2.out.cell 0
          have cu1 := Hu2.out.cell 1
          have fu := fun j => Hu2.out.frozen j
          have lu := Hu2.out.lt
          have cx0 := Hx2.out.cell 0
          have cx1 := Hx2.out.cell 1
          have fx := fun j => Hx2.out.frozen j
          have lx := Hx2.out.lt
          have cy0 := Hy2.out.cell 0
          have cy1 := Hy2.out.cell 1
          have fy := fun j => Hy2.out.frozen j
          have ly := Hy2.out.lt
          simp only [List.getElem?_toArray, List.getElem?_cons_zero, List.getElem?_cons_succ] at ca0 ca1 cb0 cb1 cz0 cz1 cu0 cu1 cx0 cx1 cy0 cy1
          go_wp2
          go_region
          go_wp2
          refine bodyPost_ret (by simp [results, Tryz.results149, go_sem, cz0, cz1, cu0, cu1, lz, lu]; try rfl) rfl ?_
          refine ⟨rfl, ?_⟩
          repeat (first | with_reducible exact HG2.out | with_reducible refine grew_set ?_ (by first | omega | (simp only; omega)) _ | with_reducible refine grew_d ?_ | with_reducible refine grew_al ?_ _)
      ·
        have hV : relV (otherI ⟨al, ah⟩ ⟨bl, bl⟩) = .tuple #[(⟨xl, xh⟩ : Itv).v, (⟨bl, bl⟩ : Itv).v, .bool true] := by simp [otherI, relV, hx, h2]
        rw [hV]
        have HA := Lib.hid HA
        clear hV HB hx
        go_enter Tryz.func149, Tryz.ntmps149
        go_wp2_with fail
        refine (HA.out _).mono ?_
        rintro e w1 ⟨rfl, g1⟩
        have Ha1 := Lib.hid (show Blk w1 (w.heap.size) 98 #[.int .i64 al, .int .i64 ah] from (show Blk ((((((w.alloc (.cells #[.int .i64 al, .int .i64 ah] 98)).alloc (.cells #[.int .i64 bl, .int .i64 bl] 98)).alloc (.cells #[.int .i64 0, .int .i64 0] 98)).alloc (.cells #[.int .i64 0, .int .i64 0] 98)).alloc (.cells #[.int .i64 al, .int .i64 ah] 98)).alloc (.cells #[.int .i64 bl, .int .i64 bl] 98)) _ _ _ from Blk.alloc (Blk.alloc (Blk.alloc (Blk.alloc (Blk.alloc (Blk.new' (by simp only [World.size_alloc])) _) _) _) _) _).grew g1)
        have Hb1 := Lib.hid (show Blk w1 (w.heap.size + 1) 98 #[.int .i64 bl, .int .i64 bl] from (show Blk ((((((w.alloc (.cells #[.int .i64 al, .int .i64 ah] 98)).alloc (.cells #[.int .i64 bl, .int .i64 bl] 98)).alloc (.cells #[.int .i64 0, .int .i64 0] 98)).alloc (.cells #[.int .i64 0, .int .i64 0] 98)).alloc (.cells #[.int .i64 al, .int .i64 ah] 98)).alloc (.cells #[.int .i64 bl, .int .i64 bl] 98)) _ _ _ from Blk.alloc (Blk.alloc (Blk.alloc (Blk.alloc (Blk.new' (by simp only [World.size_alloc])) _) _) _) _).grew g1)
        have Hz1 := Lib.hid (show Blk w1 (w.heap.size + 1 + 1) 98 #[.int .i64 0, .int .i64 0] from (show Blk ((((((w.alloc (.cells #[.int .i64 al, .int .i64 ah] 98)).alloc (.cells #[.int .i64 bl, .int .i64 bl] 98)).alloc (.cells #[.int .i64 0, .int .i64 0] 98)).alloc (.cells #[.int .i64 0, .int .i64 0] 98)).alloc (.cells #[.int .i64 al, .int .i64 ah] 98)).alloc (.cells #[.int .i64 bl, .int .i64 bl] 98)) _ _ _ from Blk.alloc (Blk.alloc (Blk.alloc (Blk.new' (by simp only [World.size_alloc])) _) _) _).grew g1)
        have Hu1 := Lib.hid (show Blk w1 (w.heap.size + 1 + 1 + 1) 98 #[.int .i64 0, .int .i64 0] from (show Blk ((((((w.alloc (.cells #[.int .i64 al, .int .i64 ah] 98)).alloc (.cells #[.int .i64 bl, .int .i64 bl] 98)).alloc (.cells #[.int .i64 0, .int .i64 0] 98)).alloc (.cells #[.int .i64 0, .int .i64 0] 98)).alloc (.cells #[.int .i64 al, .int .i64 ah] 98)).alloc (.cells #[.int .i64 bl, .int .i64 bl] 98)) _ _ _ from Blk.alloc (Blk.alloc (Blk.new' (by simp only [World.size_alloc])) _) _).grew g1)
        have Hx1 := Lib.hid (show Blk w1 (w.heap.size + 1 + 1 + 1 + 1) 98 #[.int .i64 al, .int .i64 ah] from (show Blk ((((((w.alloc (.cells #[.int .i64 al, .int .i64 ah] 98)).alloc (.cells #[.int .i64 bl, .int .i64 bl] 98)).alloc (.cells #[.int .i64 0, .int .i64 0] 98)).alloc (.cells #[.int .i64 0, .int .i64 0] 98)).alloc (.cells #[.int .i64 al, .int .i64 ah] 98)).alloc (.cells #[.int .i64 bl, .int .i64 bl] 98)) _ _ _ from Blk.alloc (Blk.new' (by simp only [World.size_alloc])) _).grew g1)
        have Hy1 := Lib.hid (show Blk w1 (w.heap.size + 1 + 1 + 1 + 1 + 1) 98 #[.int .i64 bl, .int .i64 bl] from (show Blk ((((((w.alloc (.cells #[.int .i64 al, .int .i64 ah] 98)).alloc (.cells #[.int .i64 bl, .int .i64 bl] 98)).alloc (.cells #[.int .i64 0, .int .i64 0] 98)).alloc (.cells #[.int .i64 0, .int .i64 0] 98)).alloc (.cells #[.int .i64 al, .int .i64 ah] 98)).alloc (.cells #[.int .i64 bl, .int .i64 bl] 98)) _ _ _ from Blk.new' (by simp only [World.size_alloc])).grew g1)
        have HG1 := Lib.hid (show Grew w w1 from grew_tr (gr) g1)
        clear g1
        have ca0 := Ha1.out.cell 0
        have ca1 := Ha1.out.cell 1
        have fa := fun j => Ha1.out.frozen j
        have la := Ha1.out.lt
        have cb0 := Hb1.out.cell 0
        have cb1 := Hb1.out.cell 1
        have fb := fun j => Hb1.out.frozen j
        have lb := Hb1.out.lt
        have cz0 := Hz1.out.cell 0
        have cz1 := Hz1.out.cell 1
        have fz := fun j => Hz1.out.frozen j
        have lz := Hz1.out.lt
        have cu0 := Hu1.out.cell 0
        have cu1 := Hu1.out.cell 1
        have fu := fun j => Hu1.out.frozen j
        have lu := Hu1.out.lt
        have cx0 := Hx1.out.cell 0
        have cx1 := Hx1.out.cell 1
        have fx := fun j => Hx1.out.frozen j
        have lx := Hx1.out.lt
        have cy0 := Hy1.out.cell 0
        have cy1 := Hy1.out.cell 1
        have fy := fun j => Hy1.out.frozen j
        have ly := Hy1.out.lt
        simp only [List.getElem?_toArray, List.getElem?_cons_zero, List.getElem?_cons_succ] at ca0 ca1 cb0 cb1 cz0 cz1 cu0 cu1 cx0 cx1 cy0 cy1
        go_wp2
        go_region
        go_wp2
        refine bodyPost_ret (by simp [results, Tryz.results149, go_sem, cz0, cz1, cu0, cu1, lz, lu]; try rfl) rfl ?_
        refine ⟨rfl, ?_⟩
        repeat (first | with_reducible exact HG1.out | with_reducible refine grew_set ?_ (by first | omega | (simp only; omega)) _ | with_reducible refine grew_d ?_ | with_reducible refine grew_al ?_ _)
  · by_cases h2 : al = ah
    · subst h2
      cases hy : endI ⟨bl, bh⟩ al with
      | none =>
        rw [hy] at HB
        dsimp only [optV] at HB
        have hV : relV (otherI ⟨al, al⟩ ⟨bl, bh⟩) = .tuple #[(⟨0, 0⟩ : Itv).v, (⟨0, 0⟩ : Itv).v, .bool false] := by simp [otherI, relV, hy, h1]
        rw [hV]
        have HB := Lib.hid HB
        clear hV HA hy
        go_enter Tryz.func149, Tryz.ntmps149
        go_wp2_with fail
        refine (HB.out _).mono ?_
        rintro e w1 ⟨rfl, g1⟩
        have Ha1 := Lib.hid (show Blk w1 (w.heap.size) 98 #[.int .i64 al, .int .i64 al] from (show Blk ((((((w.alloc (.cells #[.int .i64 al, .int .i64 al] 98)).alloc (.cells #[.int .i64 bl, .int .i64 bh] 98)).alloc (.cells #[.int .i64 0, .int .i64 0] 98)).alloc (.cells #[.int .i64 0, .int .i64 0] 98)).alloc (.cells #[.int .i64 al, .int .i64 al] 98)).alloc (.cells #[.int .i64 bl, .int .i64 bh] 98)) _ _ _ from Blk.alloc (Blk.alloc (Blk.alloc (Blk.alloc (Blk.alloc (Blk.new' (by simp only [World.size_alloc])) _) _) _) _) _).grew g1)
        have Hb1 := Lib.hid (show Blk w1 (w.heap.size + 1) 98 #[.int .i64 bl, .int .i64 bh] from (show Blk ((((((w.alloc (.cells #[.int .i64 al, .int .i64 al] 98)).alloc (.cells #[.int .i64 bl, .int .i64 bh] 98)).alloc (.cells #[.int .i64 0, .int .i64 0] 98)).alloc (.cells #[.int .i64 0, .int .i64 0] 98)).alloc (.cells #[.int .i64 al, .int .i64 al] 98)).alloc (.cells #[.int .i64 bl, .int .i64 bh] 98)) _ _ _ from Blk.alloc (Blk.alloc (Blk.alloc (Blk.alloc (Blk.new' (by simp only [World.size_alloc])) _) _) _) _).grew g1)
        have Hz1 := Lib.hid (show Blk w1 (w.heap.size + 1 + 1) 98 #[.int .i64 0, .int .i64 0] from (show Blk ((((((w.alloc (.cells #[.int .i64 al, .int .i64 al] 98)).alloc (.cells #[.int .i64 bl, .int .i64 bh] 98)).alloc (.cells #[.int .i64 0, .int .i64 0] 98)).alloc (.cells #[.int .i64 0, .int .i64 0] 98)).alloc (.cells #[.int .i64 al, .int .i64 al] 98)).alloc (.cells #[.int .i64 bl, .int .i64 bh] 98)) _ _ _ from Blk.alloc (Blk.alloc (Blk.alloc (Blk.new' (by simp only [World.size_alloc])) _) _) _).grew g1)
        have Hu1 := Lib.hid (show Blk w1 (w.heap.size + 1 + 1 + 1) 98 #[.int .i64 0, .int .i64 0] from (show Blk ((((((w.alloc (.cells #[.int .i64 al, .int .i64 al] 98)).alloc (.cells #[.int .i64 bl, .int .i64 bh] 98)).alloc (.cells #[.int .i64 0, .int .i64 0] 98)).alloc (.cells #[.int .i64 0, .int .i64 0] 98)).alloc (.cells #[.int .i64 al, .int .i64 al] 98)).alloc (.cells #[.int .i64 bl, .int .i64 bh] 98)) _ _ _ from Blk.alloc (Blk.alloc (Blk.new' (by simp only [World.size_alloc])) _) _).grew g1)
        have Hx1 := Lib.hid (show Blk w1 (w.heap.size + 1 + 1 + 1 + 1) 98 #[.int .i64 al, .int .i64 al] from (show Blk ((((((w.alloc (.cells #[.int .i64 al, .int .i64 al] 98)).alloc (.cells #[.int .i64 bl, .int .i64 bh] 98)).alloc (.cells #[.int .i64 0, .int .i64 0] 98)).alloc (.cells #[.int .i64 0, .int .i64 0] 98)).alloc (.cells #[.int .i64 al, .int .i64 al] 98)).alloc (.cells #[.int .i64 bl, .int .i64 bh] 98)) _ _ _ from Blk.alloc (Blk.new' (by simp only [World.size_alloc])) _).grew g1)
        have Hy1 := Lib.hid (show Blk w1 (w.heap.size + 1 + 1 + 1 + 1 + 1) 98 #[.int .i64 bl, .int .i64 bh] from (show Blk ((((((w.alloc (.cells #[.int .i64 al, .int .i64 al] 98)).alloc (.cells #[.int .i64 bl, .int .i64 bh] 98)).alloc (.cells #[.int .i64 0, .int .i64 0] 98)).alloc (.cells #[.int .i64 0, .int .i64 0] 98)).alloc (.cells #[.int .i64 al, .int .i64 al] 98)).alloc (.cells #[.int .i64 bl, .int .i64 bh] 98)) _ _ _ from Blk.new' (by simp only [World.size_alloc])).grew g1)
        have HG1 := Lib.hid (show Grew w w1 from grew_tr (gr) g1)
        clear g1
        have ca0 := Ha1.out.cell 0
        have ca1 := Ha1.out.cell 1
        have fa := fun j => Ha1.out.frozen j
        have la := Ha1.out.lt
        have cb0 := Hb1.out.cell 0
        have cb1 := Hb1.out.cell 1
        have fb := fun j => Hb1.out.frozen j
        have lb := Hb1.out.lt
        have cz0 := Hz1.out.cell 0
        have cz1 := Hz1.out.cell 1
        have fz := fun j => Hz1.out.frozen j
        have lz := Hz1.out.lt
        have cu0 := Hu1.out.cell 0
        have cu1 := Hu1.out.cell 1
        have fu := fun j => Hu1.out.frozen j
        have lu := Hu1.out.lt
        have cx0 := Hx1.out.cell 0
        have cx1 := Hx1.out.cell 1
        have fx := fun j => Hx1.out.frozen j
        have lx := Hx1.out.lt
        have cy0 := Hy1.out.cell 0
        have cy1 := Hy1.out.cell 1
        have fy := fun j => Hy1.out.frozen j
        have ly := Hy1.out.lt
        simp only [List.getElem?_toArray, List.getElem?_cons_zero, List.getElem?_cons_succ] at ca0 ca1 cb0 cb1 cz0 cz1 cu0 cu1 cx0 cx1 cy0 cy1
        go_wp2
        refine bodyPost_ret (by simp [results, Tryz.results149, go_sem, cz0, cz1, cu0, cu1, lz, lu]; try rfl) rfl ?_
        refine ⟨rfl, ?_⟩
        repeat (first | with_reducible exact HG1.out | with_reducible refine grew_set ?_ (by first | omega | (simp only; omega)) _ | with_reducible refine grew_d ?_ | with_reducible refine grew_al ?_ _)
      | some y =>
        obtain ⟨yl, yh⟩ := y
        rw [hy] at HB
        dsimp only [optV] at HB
        have hV : relV (otherI ⟨al, al⟩ ⟨bl, bh⟩) = .tuple #[(⟨al, al⟩ : Itv).v, (⟨yl, yh⟩ : Itv).v, .bool true] := by simp [otherI, relV, hy, h1]
        rw [hV]
        have HB := Lib.hid HB
        clear hV HA hy
        go_enter Tryz.func149, Tryz.ntmps149
        go_wp2_with fail
        refine (HB.out _).mono ?_
        rintro e w1 ⟨rfl, g1⟩
        have Ha1 := Lib.hid (show Blk w1 (w.heap.size) 98 #[.int .i64 al, .int .i64 al] from (show Blk ((((((w.alloc (.cells #[.int .i64 al, .int .i64 al] 98)).alloc (.cells #[.int .i64 bl, .int .i64 bh] 98)).alloc (.cells #[.int .i64 0, .int .i64 0] 98)).alloc (.cells #[.int .i64 0, .int .i64 0] 98)).alloc (.cells #[.int .i64 al, .int .i64 al] 98)).alloc (.cells #[.int .i64 bl, .int .i64 bh] 98)) _ _ _ from Blk.alloc (Blk.alloc (Blk.alloc (Blk.alloc (Blk.alloc (Blk.new' (by simp only [World.size_alloc])) _) _) _) _) _).grew g1)
        have Hb1 := Lib.hid (show Blk w1 (w.heap.size + 1) 98 #[.int .i64 bl, .int .i64 bh] from (show Blk ((((((w.alloc (.cells #[.int .i64 al, .int .i64 al] 98)).alloc (.cells #[.int .i64 bl, .int .i64 bh] 98)).alloc (.cells #[.int .i64 0, .int .i64 0] 98)).alloc (.cells #[.int .i64 0, .int .i64 0] 98)).alloc (.cells #[.int .i64 al, .int .i64 al] 98)).alloc (.cells #[.int .i64 bl, .int .i64 bh] 98)) _ _ _ from Blk.alloc (Blk.alloc (Blk.alloc (Blk.alloc (Blk.new' (by simp only [World.size_alloc])) _) _) _) _).grew g1)
        have Hz1 := Lib.hid (show Blk w1 (w.heap.size + 1 + 1) 98 #[.int .i64 0, .int .i64 0] from (show Blk ((((((w.alloc (.cells #[.int .i64 al, .int .i64 al] 98)).alloc (.cells #[.int .i64 bl, .int .i64 bh] 98)).alloc (.cells #[.int .i64 0, .int .i64 0] 98)).alloc (.cells #[.int .i64 0, .int .i64 0] 98)).alloc (.cells #[.int .i64 al, .int .i64 al] 98)).alloc (.cells #[.int .i64 bl, .int .i64 bh] 98)) _ _ _ from Blk.alloc (Blk.alloc (Blk.alloc (Blk.new' (by simp only [World.size_alloc])) _) _) _).grew g1)
        have Hu1 := Lib.hid (show Blk w1 (w.heap.size + 1 + 1 + 1) 98 #[.int .i64 0, .int .i64 0] from (show Blk ((((((w.alloc (.cells #[.int .i64 al, .int .i64 al] 98)).alloc (.cells #[.int .i64 bl, .int .i64 bh] 98)).alloc (.cells #[.int .i64 0, .int .i64 0] 98)).alloc (.cells #[.int .i64 0, .int .i64 0] 98)).alloc (.cells #[.int .i64 al, .int .i64 al] 98)).alloc (.cells #[.int .i64 bl, .int .i64 bh] 98)) _ _ _ from Blk.alloc (Blk.alloc (Blk.new' (by simp only [World.size_alloc])) _) _).grew g1)
        have Hx1 := Lib.hid (show Blk w1 (w.heap.size + 1 + 1 + 1 + 1) 98 #[.int .i64 al, .int .i64 al] from (show Blk ((((((w.alloc (.cells #[.int .i64 al, .int .i64 al] 98)).alloc (.cells #[.int .i64 bl, .int .i64 bh] 98)).alloc (.cells #[.int .i64 0, .int .i64 0] 98)).alloc (.cells #[.int .i64 0, .int .i64 0] 98)).alloc (.cells #[.int .i64 al, .int .i64 al] 98)).alloc (.cells #[.int .i64 bl, .int .i64 bh] 98)) _ _ _ from Blk.alloc (Blk.new' (by simp only [World.size_alloc])) _).grew g1)
        have Hy1 := Lib.hid (show Blk w1 (w.heap.size + 1 + 1 + 1 + 1 + 1) 98 #[.int .i64 bl, .int .i64 bh] from (show Blk ((((((w.alloc (.cells #[.int .i64 al, .int .i64 al] 98)).alloc (.cells #[.int .i64 bl, .int .i64 bh] 98)).alloc (.cells #[.int .i64 0, .int .i64 0] 98)).alloc (.cells #[.int .i64 0, .int .i64 0] 98)).alloc (.cells #[.int .i64 al, .int .i64 al] 98)).alloc (.cells #[.int .i64 bl, .int .i64 bh] 98)) _ _ _ from Blk.new' (by simp only [World.size_alloc])).grew g1)
        have HG1 := Lib.hid (show Grew w w1 from grew_tr (gr) g1)
        clear g1
        have ca0 := Ha1.out.cell 0
        have ca1 := Ha1.out.cell 1
        have fa := fun j => Ha1.out.frozen j
        have la := Ha1.out.lt
        have cb0 := Hb1.out.cell 0
        have cb1 := Hb1.out.cell 1
        have fb := fun j => Hb1.out.frozen j
        have lb := Hb1.out.lt
        have cz0 := Hz1.out.cell 0
        have cz1 := Hz1.out.cell 1
        have fz := fun j => Hz1.out.frozen j
        have lz := Hz1.out.lt
        have cu0 := Hu1.out.cell 0
        have cu1 := Hu1.out.cell 1
        have fu := fun j => Hu1.out.frozen j
        have lu := Hu1.out.lt
        have cx0 := Hx1.out.cell 0
        have cx1 := Hx1.out.cell 1
        have fx := fun j => Hx1.out.frozen j
        have lx := Hx1.out.lt
        have cy0 := Hy1.out.cell 0
        have cy1 := Hy1.out.cell 1
        have fy := fun j => Hy1.out.frozen j
        have ly := Hy1.out.lt
        simp only [List.getElem?_toArray, List.getElem?_cons_zero, List.getElem?_cons_succ] at ca0 ca1 cb0 cb1 cz0 cz1 cu0 cu1 cx0 cx1 cy0 cy1
        go_wp2
        go_region
        go_wp2
        refine bodyPost_ret (by simp [results, Tryz.results149, go_sem, cz0, cz1, cu0, cu1, lz, lu]; try rfl) rfl ?_
        refine ⟨rfl, ?_⟩
        repeat (first | with_reducible exact HG1.out | with_reducible refine grew_set ?_ (by first | omega | (simp only; omega)) _ | with_reducible refine grew_d ?_ | with_reducible refine grew_al ?_ _)
    ·
      have hV : relV (otherI ⟨al, ah⟩ ⟨bl, bh⟩) = .tuple #[(⟨al, ah⟩ : Itv).v, (⟨bl, bh⟩ : Itv).v, .bool true] := by simp [otherI, relV, h1, h2]
      rw [hV]
      clear hV HA HB
      go_enter Tryz.func149, Tryz.ntmps149
      go_wp2
      go_region
      go_wp2
      go_returns
      refine ⟨rfl, ?_⟩
      exact gr
end Go.Proofs.YtdddhnepanjmfaaGreat
