/- Lemmas and walks of this proof, several texts one behind the other. No condition. -/
import Derived.Test.YtmcfengnihomcaaP3
import Derived.Test.YtmcfengnihomcaaP5
import Derived.Shelf.Small.Bits
import Derived.Shelf.Strconv.Itoa0
import Derived.Shelf.Sort.Plain
import Derived.Ground.Names2Prog
import Derived.Shelf.Slices.CompactI
import Derived.Shelf.Slices.SearchI
import Derived.Shelf.Slices.Cells
import Derived.Shelf.Slices.In.SortNone
import Derived.Shelf.SlIterI.Sorted
import Derived.Ground.GgzProg
import Derived.Test.YtmcfengnihomcaaProg
import Derived.Sort.OwnSortedInts
import Derived.Lib.RowBridge
set_option linter.unusedSimpArgs false
set_option linter.unusedVariables false
/- The draws of a step with something wrong, and of a step and its place. No condition. -/
namespace Go.Proofs.Ytmcfengnihomcaa
open Go.RowKit
set_option linter.unusedVariables false
set_option linter.unusedSimpArgs false
attribute [local go_sem] dg_cell dg_frozen dg_lt dg_lt1 dg_lt2 dg_ne dg_ne1 dg_ne2 dg_new dg_wen lt_s2 lt_s3 lt_s4 lt_s5 lt_s6

theorem Rd.chgN {w w' : World} {a : Option Addr} {n t : Nat} {zs : List Int} (h : Rd w a n 1 (ints .u8 zs)) (hb : BoxN t w) (hc : Chg (fun b => b = t) w w') : Rd w' a n 1 (ints .u8 zs) := by
  refine ⟨h.1, ?_⟩
  rcases h.2 with h2 | ⟨b, off, rfl, h3⟩
  · exact .inl h2
  · refine .inr ⟨b, off, rfl, fun j u hu => ?_⟩
    have h4 := h3 j u hu
    have hbt : ¬ b = t := by
      rintro rfl
      obtain ⟨u0, u1, u2, u3, u4, u5, u6, u7, hb⟩ := hb
      rw [hb.cell] at h4
      simp only [ints, List.getElem?_map, Option.map_eq_some_iff] at hu
      obtain ⟨x, _, rfl⟩ := hu
      rcases hk : off + j with _ | _ | _ | _ | _ | _ | _ | _ | k <;> rw [hk] at h4 <;> simp at h4
    rw [World.cell?_of_block (w := w) (w' := w') (a := ⟨b, off + j, none⟩) (hc.block b (World.block_lt_of_cell? w _ h4) hbt)]
    exact h4
theorem RdLe.chgN {w w' : World} {g P t : Nat} (h : RdLe w g P) (hb : BoxN t w) (hg : ¬ g = t) (hc : Chg (fun b => b = t) w w') : RdLe w' g P := by
  obtain ⟨p, hp, a, n, c, zs, h1, h2, h3, h4, h5⟩ := h
  exact ⟨p, hp, a, n, c, zs, (hc.block g (Array.getElem?_eq_some_iff.1 h1).1 hg).trans h1, h2.chgN hb hc, h3, h4, h5⟩

section
variable {ops : Array Oper} {Q : Exit → Act → World → Prop} {a0 : Act} {g PP : Nat} {c : Nat → Nat} {J : World → Prop} {F : Nat → Prop} {R : Nat → World → Value → Prop} {i : Nat} {o : Oper}
theorem ds_loadN (t : Nat) (d : Nat) (hop : o.op = .load 44 (.tmp d)) (hd : hasNo ops d = true) (hx : a0.eval (.tmp d) = .pointer (some ⟨t, 0, none⟩)) (hJ : ∀ W, J W → BoxN t W) (hR : ∀ W v, IsIns v → R i W v) : DStep Try.prog ops Q a0 g PP c J F R i o := by
  intro a w p hp hJ1 hr hf _
  have he : a.eval (.tmp d) = .pointer (some ⟨t, 0, none⟩) := (hf d (hasNo_spec hd)).trans hx
  obtain ⟨u0, u1, u2, u3, u4, u5, u6, u7, c0, c1, c2, c3, c4, c5, c6, c7⟩ := (hJ w hJ1).all
  refine op_val (v := .agg #[.int .i64 u0, .int .i64 u1, .int .i64 u2, .int .i64 u3, .int .i64 u4, .int .i64 u5, .int .i64 u6, .int .i64 u7]) (w' := w) ?_ ⟨_, rfl, hR _ _ ⟨_, _, _, _, _, _, _, _, rfl⟩, hJ1, hr.mono (by omega), Chg.refl _ _⟩
  simp only [execOp, hop, he]
  simp [go_sem, c0, c1, c2, c3, c4, c5, c6, c7]
set_option maxHeartbeats 2000000 in
theorem ds_store8N (t : Nat) (dp dv kd : Nat) (hop : o.op = .store 44 (.tmp dp) (.tmp dv)) (hdp : hasNo ops dp = true) (hx : a0.eval (.tmp dp) = .pointer (some ⟨t, 0, none⟩)) (h1 : Dep ops o kd dv) (hs : ∀ W v, R kd W v → IsIns v)
    (hJ : ∀ W, J W → ∃ x0 x1 x2 x3 x4 x5 x6 x7 : Int, Blk W t 44 #[.int .i64 x0, .int .i64 x1, .int .i64 x2, .int .i64 x3, .int .i64 x4, .int .i64 x5, .int .i64 x6, .int .i64 x7]) (hJ2 : ∀ W W' (y0 y1 y2 y3 y4 y5 y6 y7 : Int), J W → Blk W' t 44 #[.int .i64 y0, .int .i64 y1, .int .i64 y2, .int .i64 y3, .int .i64 y4, .int .i64 y5, .int .i64 y6, .int .i64 y7] → Chg (fun b => b = t) W W' → J W') (hg : ¬ g = t) (hF : F t) (hR : ∀ W v, R i W v) : DStep Try.prog ops Q a0 g PP c J F R i o := by
  intro a w p hp hJ1 hr hf hd
  obtain ⟨y0, y1, y2, y3, y4, y5, y6, y7, hv⟩ := hs _ _ (dep_of h1 hd)
  obtain ⟨x0, x1, x2, x3, x4, x5, x6, x7, hb⟩ := hJ w hJ1
  have he : a.eval (.tmp dp) = .pointer (some ⟨t, 0, none⟩) := (hf dp (hasNo_spec hdp)).trans hx
  have c0 : w.cell? ⟨t, 0, none⟩ = some (.int .i64 x0) := hb.cell 0
  have c1 : w.cell? ⟨t, 1, none⟩ = some (.int .i64 x1) := hb.cell 1
  have c2 : w.cell? ⟨t, 2, none⟩ = some (.int .i64 x2) := hb.cell 2
  have c3 : w.cell? ⟨t, 3, none⟩ = some (.int .i64 x3) := hb.cell 3
  have c4 : w.cell? ⟨t, 4, none⟩ = some (.int .i64 x4) := hb.cell 4
  have c5 : w.cell? ⟨t, 5, none⟩ = some (.int .i64 x5) := hb.cell 5
  have c6 : w.cell? ⟨t, 6, none⟩ = some (.int .i64 x6) := hb.cell 6
  have c7 : w.cell? ⟨t, 7, none⟩ = some (.int .i64 x7) := hb.cell 7
  have fz := fun j => hb.frozen j
  have hl := hb.lt
  have hb2 : Blk ((((((((w.setCell ⟨t, 0, none⟩ (.int .i64 y0)).setCell ⟨t, 1, none⟩ (.int .i64 y1)).setCell ⟨t, 2, none⟩ (.int .i64 y2)).setCell ⟨t, 3, none⟩ (.int .i64 y3)).setCell ⟨t, 4, none⟩ (.int .i64 y4)).setCell ⟨t, 5, none⟩ (.int .i64 y5)).setCell ⟨t, 6, none⟩ (.int .i64 y6)).setCell ⟨t, 7, none⟩ (.int .i64 y7)) t 44 #[.int .i64 y0, .int .i64 y1, .int .i64 y2, .int .i64 y3, .int .i64 y4, .int .i64 y5, .int .i64 y6, .int .i64 y7] := (((((((hb.set_ 0 _).set_ 1 _).set_ 2 _).set_ 3 _).set_ 4 _).set_ 5 _).set_ 6 _).set_ 7 _
  have hch : Chg (fun b => b = t) w ((((((((w.setCell ⟨t, 0, none⟩ (.int .i64 y0)).setCell ⟨t, 1, none⟩ (.int .i64 y1)).setCell ⟨t, 2, none⟩ (.int .i64 y2)).setCell ⟨t, 3, none⟩ (.int .i64 y3)).setCell ⟨t, 4, none⟩ (.int .i64 y4)).setCell ⟨t, 5, none⟩ (.int .i64 y5)).setCell ⟨t, 6, none⟩ (.int .i64 y6)).setCell ⟨t, 7, none⟩ (.int .i64 y7)) := chg1 (chg1 (chg1 (chg1 (chg1 (chg1 (chg1 (chg1 (Chg.refl _ _) _) _) _) _) _) _) _) _
  refine op_skip (w' := (((((((w.setCell ⟨t, 0, none⟩ (.int .i64 y0)).setCell ⟨t, 1, none⟩ (.int .i64 y1)).setCell ⟨t, 2, none⟩ (.int .i64 y2)).setCell ⟨t, 3, none⟩ (.int .i64 y3)).setCell ⟨t, 4, none⟩ (.int .i64 y4)).setCell ⟨t, 5, none⟩ (.int .i64 y5)).setCell ⟨t, 6, none⟩ (.int .i64 y6)).setCell ⟨t, 7, none⟩ (.int .i64 y7)) ?_ ⟨_, rfl, hR _ _, hJ2 _ _ y0 y1 y2 y3 y4 y5 y6 y7 hJ1 hb2 hch, (hr.chgN ⟨_, _, _, _, _, _, _, _, hb⟩ hg hch).mono (by omega), ⟨hch.os, hch.tape, hch.output, hch.size, fun k hk hn => hch.block k hk (fun e => hn (e ▸ hF))⟩⟩
  simp only [execOp, hop, he, hv]
  simp [go_sem, fz, c0, c1, c2, c3, c4, c5, c6, c7]
theorem ds_assign (d k : Nat) (hop : o.op = .assign (.tmp d)) (h1 : Dep ops o k d) (hR : ∀ W v, R k W v → R i W v) : DStep Try.prog ops Q a0 g PP c J F R i o := by
  intro a w p hp hJ1 hr hf hd
  refine op_val (v := a.eval (.tmp d)) (w' := w) (by simp only [execOp, hop]; rfl) ⟨_, rfl, hR _ _ (dep_of h1 hd), hJ1, hr.mono (by omega), Chg.refl _ _⟩
end

set_option maxRecDepth 100000 in
set_option maxHeartbeats 4000000 in
theorem spoilG {g P : Nat} {i : Value} {w : World} (h : RdLe w g P) (hi : IsIns i) (hp : P + 2 ≤ 1099511627776) :
    Calls Try.prog 91 #[.pointer (some ⟨g, 0, none⟩), i] w (RetG IsIns g (P + 2) w) := by
  obtain ⟨op, d, ia, ib, rel, lo, hi2, to, rfl⟩ := hi
  have lt0 := h.lt
  obtain ⟨ne0, ne1, ne2, ne3, ne4, ne5⟩ : ¬ w.heap.size = g ∧ ¬ w.heap.size + 1 = g ∧ ¬ w.heap.size + 1 + 1 = g ∧ ¬ w.heap.size + 1 + 1 + 1 = g ∧ ¬ w.heap.size + 1 + 1 + 1 + 1 = g ∧ ¬ w.heap.size + 1 + 1 + 1 + 1 + 1 = g := by omega
  have HP := Lib.hid h; clear h
  have n67 : ¬ w.heap.size = w.heap.size + 1 := by omega
  have n76 : ¬ w.heap.size + 1 = w.heap.size := by omega
  go_enter Try.func91, Try.ntmps91
  go_wp2_with fail
  refine Calls.mono (pickG (k := 7) (by (repeat (first | with_reducible assumption | with_reducible exact rd_ext _ | with_reducible exact Hid.out (by assumption) | with_reducible apply rd_al | with_reducible apply rd_drew | (with_reducible apply rd_set; rotate_left; (focus (first | ((repeat (first | with_reducible assumption | omega | with_reducible exact dg_gt _ | (simp only [World.size_alloc, World.size_setCell, World.size_drew]) | with_reducible apply Nat.lt_succ_of_lt | with_reducible apply dg_lt | with_reducible apply le_pl | with_reducible apply dg_le)); done) | assumption | omega | (simp only [World.size_alloc, World.size_setCell, World.size_drew]; first | done | omega | (repeat (first | with_reducible assumption | with_reducible exact dg_gt _ | with_reducible apply Nat.lt_succ_of_lt | with_reducible apply dg_lt | with_reducible apply le_pl | with_reducible apply Nat.le_trans ?_ (dg_size _)))))))))) (by omega) (by omega)) ?_
  rintro e w1 ⟨v, rfl, ⟨j, rfl, hj⟩, hr1, hc1⟩
  have hj := hj (by omega)
  have C1 := Lib.hid (ChgG.trans (a := w) (by (repeat (first | with_reducible exact ChgG.refl _ _ | with_reducible assumption | with_reducible refine chg_ext ?_ _ | with_reducible refine chg_al ?_ _ | with_reducible refine chg_drew ?_ | with_reducible refine chg_set ?_ (by (focus (first | ((repeat (first | with_reducible assumption | omega | with_reducible exact dg_gt _ | (simp only [World.size_alloc, World.size_setCell, World.size_drew]) | with_reducible apply Nat.lt_succ_of_lt | with_reducible apply dg_lt | with_reducible apply le_pl | with_reducible apply dg_le)); done) | assumption | omega | (simp only [World.size_alloc, World.size_setCell, World.size_drew]; first | done | omega | (repeat (first | with_reducible assumption | with_reducible exact dg_gt _ | with_reducible apply Nat.lt_succ_of_lt | with_reducible apply dg_lt | with_reducible apply le_pl | with_reducible apply Nat.le_trans ?_ (dg_size _))))))) _))) hc1)
  have B6 := Lib.hid (BoxN.chg (t := w.heap.size) (by (repeat (first | with_reducible assumption | with_reducible exact BoxN.new _ _ _ _ _ _ _ _ (by first | with_reducible rfl | (simp only [World.size_alloc]; done) | (simp only [World.size_alloc]; omega)) | with_reducible apply BoxN.set0 | with_reducible apply BoxN.set1 | with_reducible apply BoxN.set2 | with_reducible apply BoxN.set3 | with_reducible apply BoxN.set4 | with_reducible apply BoxN.set5 | with_reducible apply BoxN.set6 | with_reducible apply BoxN.set7 | with_reducible apply BoxN.al | with_reducible apply BoxN.drew | (with_reducible apply BoxN.ext; rotate_left; (first | assumption | omega)) | (with_reducible apply BoxN.far; rotate_left; (simp only; omega))))) hc1 ne0)
  have B7 := Lib.hid (BoxN.chg (t := w.heap.size + 1) (by (repeat (first | with_reducible assumption | with_reducible exact BoxN.new _ _ _ _ _ _ _ _ (by first | with_reducible rfl | (simp only [World.size_alloc]; done) | (simp only [World.size_alloc]; omega)) | with_reducible apply BoxN.set0 | with_reducible apply BoxN.set1 | with_reducible apply BoxN.set2 | with_reducible apply BoxN.set3 | with_reducible apply BoxN.set4 | with_reducible apply BoxN.set5 | with_reducible apply BoxN.set6 | with_reducible apply BoxN.set7 | with_reducible apply BoxN.al | with_reducible apply BoxN.drew | (with_reducible apply BoxN.ext; rotate_left; (first | assumption | omega)) | (with_reducible apply BoxN.far; rotate_left; (simp only; omega))))) hc1 ne1)
  have R1 := Lib.hid hr1
  have l7 := B7.out.lt
  have l1g := hr1.lt
  clear hr1 hc1 HP
  have hj7 : j = 0 ∨ j = 1 ∨ j = 2 ∨ j = 3 ∨ j = 4 ∨ j = 5 ∨ j = 6 := by omega
  rcases hj7 with rfl | rfl | rfl | rfl | rfl | rfl | rfl
  · go_wp2_with fail
    refine Calls.mono (pickG (k := 3) (by (repeat (first | with_reducible assumption | with_reducible exact rd_ext _ | with_reducible exact Hid.out (by assumption) | with_reducible apply rd_al | with_reducible apply rd_drew | (with_reducible apply rd_set; rotate_left; (focus (first | ((repeat (first | with_reducible assumption | omega | with_reducible exact dg_gt _ | (simp only [World.size_alloc, World.size_setCell, World.size_drew]) | with_reducible apply Nat.lt_succ_of_lt | with_reducible apply dg_lt | with_reducible apply le_pl | with_reducible apply dg_le)); done) | assumption | omega | (simp only [World.size_alloc, World.size_setCell, World.size_drew]; first | done | omega | (repeat (first | with_reducible assumption | with_reducible exact dg_gt _ | with_reducible apply Nat.lt_succ_of_lt | with_reducible apply dg_lt | with_reducible apply le_pl | with_reducible apply Nat.le_trans ?_ (dg_size _)))))))))) (by omega) (by omega)) ?_
    rintro e w2 ⟨v, rfl, ⟨u, rfl, hu⟩, hr2, hc2⟩
    have hu := hu (by omega)
    obtain ⟨yu, hyu, hlu⟩ := lit_get [0, 13, -1] (j := u) (by simp only [List.length_cons, List.length_nil]; omega)
    have nb : ¬ w1.heap.size = g := by omega
    have hcl : w2.cell? ⟨w1.heap.size, u, none⟩ = some (.int .i64 yu) := (((Blk.new w1 3 (ints .i64 [0, 13, -1]).toArray).chg hc2 nb).cell u).trans (by simpa using hlu)
    have C2 := Lib.hid (ChgG.trans (a := w) (chg_al C1.out _) hc2)
    have D6 := Lib.hid ((B6.out.al (.cells (ints .i64 [0, 13, -1]).toArray 3)).chg hc2 ne0)
    have D7 := Lib.hid ((B7.out.al (.cells (ints .i64 [0, 13, -1]).toArray 3)).chg hc2 ne1)
    have R2 := Lib.hid hr2
    clear hr2 hc2 C1 B6 B7 R1 hyu hlu
    have C1 := C2
    have B6 := D6
    have B7 := D7
    clear C2 D6 D7
    obtain ⟨u0, u1, u2, u3, u4, u5, u6, u7, c0, c1, c2, c3, c4, c5, c6, c7⟩ := B6.out.all
    obtain ⟨v0, v1, v2, v3, v4, v5, v6, v7, d0, d1, d2, d3, d4, d5, d6, d7⟩ := B7.out.all
    have f6 := B6.out.fz
    have f7 := B7.out.fz
    have l6 := B6.out.lt
    have l7 := B7.out.lt
    go_wp2
    refine body_boxN (t := w.heap.size + 1) (by have := B7.out; (repeat (first | with_reducible assumption | with_reducible exact BoxN.new _ _ _ _ _ _ _ _ (by first | with_reducible rfl | (simp only [World.size_alloc]; done) | (simp only [World.size_alloc]; omega)) | with_reducible apply BoxN.set0 | with_reducible apply BoxN.set1 | with_reducible apply BoxN.set2 | with_reducible apply BoxN.set3 | with_reducible apply BoxN.set4 | with_reducible apply BoxN.set5 | with_reducible apply BoxN.set6 | with_reducible apply BoxN.set7 | with_reducible apply BoxN.al | with_reducible apply BoxN.drew | (with_reducible apply BoxN.ext; rotate_left; (first | assumption | omega)) | (with_reducible apply BoxN.far; rotate_left; (simp only; omega))))) ?_
    rintro E hE x0 x1 x2 x3 x4 x5 x6 x7 e0 e1 e2 e3 e4 e5 e6 e7
    refine bodyPost_ret (by simp [results, Try.results91, go_sem, e0, e1, e2, e3, e4, e5, e6, e7]; try rfl) rfl ?_
    rw [hE]
    refine ⟨_, rfl, ⟨_, _, _, _, _, _, _, _, rfl⟩, RdLe.mono (by (repeat (first | with_reducible assumption | with_reducible exact rd_ext _ | with_reducible exact Hid.out (by assumption) | with_reducible apply rd_al | with_reducible apply rd_drew | (with_reducible apply rd_set; rotate_left; (focus (first | ((repeat (first | with_reducible assumption | omega | with_reducible exact dg_gt _ | (simp only [World.size_alloc, World.size_setCell, World.size_drew]) | with_reducible apply Nat.lt_succ_of_lt | with_reducible apply dg_lt | with_reducible apply le_pl | with_reducible apply dg_le)); done) | assumption | omega | (simp only [World.size_alloc, World.size_setCell, World.size_drew]; first | done | omega | (repeat (first | with_reducible assumption | with_reducible exact dg_gt _ | with_reducible apply Nat.lt_succ_of_lt | with_reducible apply dg_lt | with_reducible apply le_pl | with_reducible apply Nat.le_trans ?_ (dg_size _)))))))))) (by omega), by have := C1.out; (repeat (first | with_reducible exact ChgG.refl _ _ | with_reducible assumption | with_reducible refine chg_ext ?_ _ | with_reducible refine chg_al ?_ _ | with_reducible refine chg_drew ?_ | with_reducible refine chg_set ?_ (by (focus (first | ((repeat (first | with_reducible assumption | omega | with_reducible exact dg_gt _ | (simp only [World.size_alloc, World.size_setCell, World.size_drew]) | with_reducible apply Nat.lt_succ_of_lt | with_reducible apply dg_lt | with_reducible apply le_pl | with_reducible apply dg_le)); done) | assumption | omega | (simp only [World.size_alloc, World.size_setCell, World.size_drew]; first | done | omega | (repeat (first | with_reducible assumption | with_reducible exact dg_gt _ | with_reducible apply Nat.lt_succ_of_lt | with_reducible apply dg_lt | with_reducible apply le_pl | with_reducible apply Nat.le_trans ?_ (dg_size _))))))) _))⟩
  · go_wp2_with fail
    refine Calls.mono (pickG (k := 2) (by (repeat (first | with_reducible assumption | with_reducible exact rd_ext _ | with_reducible exact Hid.out (by assumption) | with_reducible apply rd_al | with_reducible apply rd_drew | (with_reducible apply rd_set; rotate_left; (focus (first | ((repeat (first | with_reducible assumption | omega | with_reducible exact dg_gt _ | (simp only [World.size_alloc, World.size_setCell, World.size_drew]) | with_reducible apply Nat.lt_succ_of_lt | with_reducible apply dg_lt | with_reducible apply le_pl | with_reducible apply dg_le)); done) | assumption | omega | (simp only [World.size_alloc, World.size_setCell, World.size_drew]; first | done | omega | (repeat (first | with_reducible assumption | with_reducible exact dg_gt _ | with_reducible apply Nat.lt_succ_of_lt | with_reducible apply dg_lt | with_reducible apply le_pl | with_reducible apply Nat.le_trans ?_ (dg_size _)))))))))) (by omega) (by omega)) ?_
    rintro e w2 ⟨v, rfl, ⟨u, rfl, hu⟩, hr2, hc2⟩
    have hu := hu (by omega)
    obtain ⟨yu, hyu, hlu⟩ := lit_get [-1, 4] (j := u) (by simp only [List.length_cons, List.length_nil]; omega)
    have nb : ¬ w1.heap.size = g := by omega
    have hcl : w2.cell? ⟨w1.heap.size, u, none⟩ = some (.int .i64 yu) := (((Blk.new w1 3 (ints .i64 [-1, 4]).toArray).chg hc2 nb).cell u).trans (by simpa using hlu)
    have C2 := Lib.hid (ChgG.trans (a := w) (chg_al C1.out _) hc2)
    have D6 := Lib.hid ((B6.out.al (.cells (ints .i64 [-1, 4]).toArray 3)).chg hc2 ne0)
    have D7 := Lib.hid ((B7.out.al (.cells (ints .i64 [-1, 4]).toArray 3)).chg hc2 ne1)
    have R2 := Lib.hid hr2
    clear hr2 hc2 C1 B6 B7 R1 hyu hlu
    have C1 := C2
    have B6 := D6
    have B7 := D7
    clear C2 D6 D7
    obtain ⟨u0, u1, u2, u3, u4, u5, u6, u7, c0, c1, c2, c3, c4, c5, c6, c7⟩ := B6.out.all
    obtain ⟨v0, v1, v2, v3, v4, v5, v6, v7, d0, d1, d2, d3, d4, d5, d6, d7⟩ := B7.out.all
    have f6 := B6.out.fz
    have f7 := B7.out.fz
    have l6 := B6.out.lt
    have l7 := B7.out.lt
    go_wp2
    refine body_boxN (t := w.heap.size + 1) (by have := B7.out; (repeat (first | with_reducible assumption | with_reducible exact BoxN.new _ _ _ _ _ _ _ _ (by first | with_reducible rfl | (simp only [World.size_alloc]; done) | (simp only [World.size_alloc]; omega)) | with_reducible apply BoxN.set0 | with_reducible apply BoxN.set1 | with_reducible apply BoxN.set2 | with_reducible apply BoxN.set3 | with_reducible apply BoxN.set4 | with_reducible apply BoxN.set5 | with_reducible apply BoxN.set6 | with_reducible apply BoxN.set7 | with_reducible apply BoxN.al | with_reducible apply BoxN.drew | (with_reducible apply BoxN.ext; rotate_left; (first | assumption | omega)) | (with_reducible apply BoxN.far; rotate_left; (simp only; omega))))) ?_
    rintro E hE x0 x1 x2 x3 x4 x5 x6 x7 e0 e1 e2 e3 e4 e5 e6 e7
    refine bodyPost_ret (by simp [results, Try.results91, go_sem, e0, e1, e2, e3, e4, e5, e6, e7]; try rfl) rfl ?_
    rw [hE]
    refine ⟨_, rfl, ⟨_, _, _, _, _, _, _, _, rfl⟩, RdLe.mono (by (repeat (first | with_reducible assumption | with_reducible exact rd_ext _ | with_reducible exact Hid.out (by assumption) | with_reducible apply rd_al | with_reducible apply rd_drew | (with_reducible apply rd_set; rotate_left; (focus (first | ((repeat (first | with_reducible assumption | omega | with_reducible exact dg_gt _ | (simp only [World.size_alloc, World.size_setCell, World.size_drew]) | with_reducible apply Nat.lt_succ_of_lt | with_reducible apply dg_lt | with_reducible apply le_pl | with_reducible apply dg_le)); done) | assumption | omega | (simp only [World.size_alloc, World.size_setCell, World.size_drew]; first | done | omega | (repeat (first | with_reducible assumption | with_reducible exact dg_gt _ | with_reducible apply Nat.lt_succ_of_lt | with_reducible apply dg_lt | with_reducible apply le_pl | with_reducible apply Nat.le_trans ?_ (dg_size _)))))))))) (by omega), by have := C1.out; (repeat (first | with_reducible exact ChgG.refl _ _ | with_reducible assumption | with_reducible refine chg_ext ?_ _ | with_reducible refine chg_al ?_ _ | with_reducible refine chg_drew ?_ | with_reducible refine chg_set ?_ (by (focus (first | ((repeat (first | with_reducible assumption | omega | with_reducible exact dg_gt _ | (simp only [World.size_alloc, World.size_setCell, World.size_drew]) | with_reducible apply Nat.lt_succ_of_lt | with_reducible apply dg_lt | with_reducible apply le_pl | with_reducible apply dg_le)); done) | assumption | omega | (simp only [World.size_alloc, World.size_setCell, World.size_drew]; first | done | omega | (repeat (first | with_reducible assumption | with_reducible exact dg_gt _ | with_reducible apply Nat.lt_succ_of_lt | with_reducible apply dg_lt | with_reducible apply le_pl | with_reducible apply Nat.le_trans ?_ (dg_size _))))))) _))⟩
  · go_wp2_with fail
    refine Calls.mono (pickG (k := 3) (by (repeat (first | with_reducible assumption | with_reducible exact rd_ext _ | with_reducible exact Hid.out (by assumption) | with_reducible apply rd_al | with_reducible apply rd_drew | (with_reducible apply rd_set; rotate_left; (focus (first | ((repeat (first | with_reducible assumption | omega | with_reducible exact dg_gt _ | (simp only [World.size_alloc, World.size_setCell, World.size_drew]) | with_reducible apply Nat.lt_succ_of_lt | with_reducible apply dg_lt | with_reducible apply le_pl | with_reducible apply dg_le)); done) | assumption | omega | (simp only [World.size_alloc, World.size_setCell, World.size_drew]; first | done | omega | (repeat (first | with_reducible assumption | with_reducible exact dg_gt _ | with_reducible apply Nat.lt_succ_of_lt | with_reducible apply dg_lt | with_reducible apply le_pl | with_reducible apply Nat.le_trans ?_ (dg_size _)))))))))) (by omega) (by omega)) ?_
    rintro e w2 ⟨v, rfl, ⟨u, rfl, hu⟩, hr2, hc2⟩
    have hu := hu (by omega)
    obtain ⟨yu, hyu, hlu⟩ := lit_get [-1, 4, 1] (j := u) (by simp only [List.length_cons, List.length_nil]; omega)
    have nb : ¬ w1.heap.size = g := by omega
    have hcl : w2.cell? ⟨w1.heap.size, u, none⟩ = some (.int .i64 yu) := (((Blk.new w1 3 (ints .i64 [-1, 4, 1]).toArray).chg hc2 nb).cell u).trans (by simpa using hlu)
    have C2 := Lib.hid (ChgG.trans (a := w) (chg_al C1.out _) hc2)
    have D6 := Lib.hid ((B6.out.al (.cells (ints .i64 [-1, 4, 1]).toArray 3)).chg hc2 ne0)
    have D7 := Lib.hid ((B7.out.al (.cells (ints .i64 [-1, 4, 1]).toArray 3)).chg hc2 ne1)
    have R2 := Lib.hid hr2
    clear hr2 hc2 C1 B6 B7 R1 hyu hlu
    have C1 := C2
    have B6 := D6
    have B7 := D7
    clear C2 D6 D7
    obtain ⟨u0, u1, u2, u3, u4, u5, u6, u7, c0, c1, c2, c3, c4, c5, c6, c7⟩ := B6.out.all
    obtain ⟨v0, v1, v2, v3, v4, v5, v6, v7, d0, d1, d2, d3, d4, d5, d6, d7⟩ := B7.out.all
    have f6 := B6.out.fz
    have f7 := B7.out.fz
    have l6 := B6.out.lt
    have l7 := B7.out.lt
    go_wp2
    refine body_boxN (t := w.heap.size + 1) (by have := B7.out; (repeat (first | with_reducible assumption | with_reducible exact BoxN.new _ _ _ _ _ _ _ _ (by first | with_reducible rfl | (simp only [World.size_alloc]; done) | (simp only [World.size_alloc]; omega)) | with_reducible apply BoxN.set0 | with_reducible apply BoxN.set1 | with_reducible apply BoxN.set2 | with_reducible apply BoxN.set3 | with_reducible apply BoxN.set4 | with_reducible apply BoxN.set5 | with_reducible apply BoxN.set6 | with_reducible apply BoxN.set7 | with_reducible apply BoxN.al | with_reducible apply BoxN.drew | (with_reducible apply BoxN.ext; rotate_left; (first | assumption | omega)) | (with_reducible apply BoxN.far; rotate_left; (simp only; omega))))) ?_
    rintro E hE x0 x1 x2 x3 x4 x5 x6 x7 e0 e1 e2 e3 e4 e5 e6 e7
    refine bodyPost_ret (by simp [results, Try.results91, go_sem, e0, e1, e2, e3, e4, e5, e6, e7]; try rfl) rfl ?_
    rw [hE]
    refine ⟨_, rfl, ⟨_, _, _, _, _, _, _, _, rfl⟩, RdLe.mono (by (repeat (first | with_reducible assumption | with_reducible exact rd_ext _ | with_reducible exact Hid.out (by assumption) | with_reducible apply rd_al | with_reducible apply rd_drew | (with_reducible apply rd_set; rotate_left; (focus (first | ((repeat (first | with_reducible assumption | omega | with_reducible exact dg_gt _ | (simp only [World.size_alloc, World.size_setCell, World.size_drew]) | with_reducible apply Nat.lt_succ_of_lt | with_reducible apply dg_lt | with_reducible apply le_pl | with_reducible apply dg_le)); done) | assumption | omega | (simp only [World.size_alloc, World.size_setCell, World.size_drew]; first | done | omega | (repeat (first | with_reducible assumption | with_reducible exact dg_gt _ | with_reducible apply Nat.lt_succ_of_lt | with_reducible apply dg_lt | with_reducible apply le_pl | with_reducible apply Nat.le_trans ?_ (dg_size _)))))))))) (by omega), by have := C1.out; (repeat (first | with_reducible exact ChgG.refl _ _ | with_reducible assumption | with_reducible refine chg_ext ?_ _ | with_reducible refine chg_al ?_ _ | with_reducible refine chg_drew ?_ | with_reducible refine chg_set ?_ (by (focus (first | ((repeat (first | with_reducible assumption | omega | with_reducible exact dg_gt _ | (simp only [World.size_alloc, World.size_setCell, World.size_drew]) | with_reducible apply Nat.lt_succ_of_lt | with_reducible apply dg_lt | with_reducible apply le_pl | with_reducible apply dg_le)); done) | assumption | omega | (simp only [World.size_alloc, World.size_setCell, World.size_drew]; first | done | omega | (repeat (first | with_reducible assumption | with_reducible exact dg_gt _ | with_reducible apply Nat.lt_succ_of_lt | with_reducible apply dg_lt | with_reducible apply le_pl | with_reducible apply Nat.le_trans ?_ (dg_size _))))))) _))⟩
  · go_wp2_with fail
    refine Calls.mono (pickG (k := 3) (by (repeat (first | with_reducible assumption | with_reducible exact rd_ext _ | with_reducible exact Hid.out (by assumption) | with_reducible apply rd_al | with_reducible apply rd_drew | (with_reducible apply rd_set; rotate_left; (focus (first | ((repeat (first | with_reducible assumption | omega | with_reducible exact dg_gt _ | (simp only [World.size_alloc, World.size_setCell, World.size_drew]) | with_reducible apply Nat.lt_succ_of_lt | with_reducible apply dg_lt | with_reducible apply le_pl | with_reducible apply dg_le)); done) | assumption | omega | (simp only [World.size_alloc, World.size_setCell, World.size_drew]; first | done | omega | (repeat (first | with_reducible assumption | with_reducible exact dg_gt _ | with_reducible apply Nat.lt_succ_of_lt | with_reducible apply dg_lt | with_reducible apply le_pl | with_reducible apply Nat.le_trans ?_ (dg_size _)))))))))) (by omega) (by omega)) ?_
    rintro e w2 ⟨v, rfl, ⟨u, rfl, hu⟩, hr2, hc2⟩
    have hu := hu (by omega)
    obtain ⟨yu, hyu, hlu⟩ := lit_get [-1, 4, 1] (j := u) (by simp only [List.length_cons, List.length_nil]; omega)
    have nb : ¬ w1.heap.size = g := by omega
    have hcl : w2.cell? ⟨w1.heap.size, u, none⟩ = some (.int .i64 yu) := (((Blk.new w1 3 (ints .i64 [-1, 4, 1]).toArray).chg hc2 nb).cell u).trans (by simpa using hlu)
    have C2 := Lib.hid (ChgG.trans (a := w) (chg_al C1.out _) hc2)
    have D6 := Lib.hid ((B6.out.al (.cells (ints .i64 [-1, 4, 1]).toArray 3)).chg hc2 ne0)
    have D7 := Lib.hid ((B7.out.al (.cells (ints .i64 [-1, 4, 1]).toArray 3)).chg hc2 ne1)
    have R2 := Lib.hid hr2
    clear hr2 hc2 C1 B6 B7 R1 hyu hlu
    have C1 := C2
    have B6 := D6
    have B7 := D7
    clear C2 D6 D7
    obtain ⟨u0, u1, u2, u3, u4, u5, u6, u7, c0, c1, c2, c3, c4, c5, c6, c7⟩ := B6.out.all
    obtain ⟨v0, v1, v2, v3, v4, v5, v6, v7, d0, d1, d2, d3, d4, d5, d6, d7⟩ := B7.out.all
    have f6 := B6.out.fz
    have f7 := B7.out.fz
    have l6 := B6.out.lt
    have l7 := B7.out.lt
    go_wp2
    refine body_boxN (t := w.heap.size + 1) (by have := B7.out; (repeat (first | with_reducible assumption | with_reducible exact BoxN.new _ _ _ _ _ _ _ _ (by first | with_reducible rfl | (simp only [World.size_alloc]; done) | (simp only [World.size_alloc]; omega)) | with_reducible apply BoxN.set0 | with_reducible apply BoxN.set1 | with_reducible apply BoxN.set2 | with_reducible apply BoxN.set3 | with_reducible apply BoxN.set4 | with_reducible apply BoxN.set5 | with_reducible apply BoxN.set6 | with_reducible apply BoxN.set7 | with_reducible apply BoxN.al | with_reducible apply BoxN.drew | (with_reducible apply BoxN.ext; rotate_left; (first | assumption | omega)) | (with_reducible apply BoxN.far; rotate_left; (simp only; omega))))) ?_
    rintro E hE x0 x1 x2 x3 x4 x5 x6 x7 e0 e1 e2 e3 e4 e5 e6 e7
    refine bodyPost_ret (by simp [results, Try.results91, go_sem, e0, e1, e2, e3, e4, e5, e6, e7]; try rfl) rfl ?_
    rw [hE]
    refine ⟨_, rfl, ⟨_, _, _, _, _, _, _, _, rfl⟩, RdLe.mono (by (repeat (first | with_reducible assumption | with_reducible exact rd_ext _ | with_reducible exact Hid.out (by assumption) | with_reducible apply rd_al | with_reducible apply rd_drew | (with_reducible apply rd_set; rotate_left; (focus (first | ((repeat (first | with_reducible assumption | omega | with_reducible exact dg_gt _ | (simp only [World.size_alloc, World.size_setCell, World.size_drew]) | with_reducible apply Nat.lt_succ_of_lt | with_reducible apply dg_lt | with_reducible apply le_pl | with_reducible apply dg_le)); done) | assumption | omega | (simp only [World.size_alloc, World.size_setCell, World.size_drew]; first | done | omega | (repeat (first | with_reducible assumption | with_reducible exact dg_gt _ | with_reducible apply Nat.lt_succ_of_lt | with_reducible apply dg_lt | with_reducible apply le_pl | with_reducible apply Nat.le_trans ?_ (dg_size _)))))))))) (by omega), by have := C1.out; (repeat (first | with_reducible exact ChgG.refl _ _ | with_reducible assumption | with_reducible refine chg_ext ?_ _ | with_reducible refine chg_al ?_ _ | with_reducible refine chg_drew ?_ | with_reducible refine chg_set ?_ (by (focus (first | ((repeat (first | with_reducible assumption | omega | with_reducible exact dg_gt _ | (simp only [World.size_alloc, World.size_setCell, World.size_drew]) | with_reducible apply Nat.lt_succ_of_lt | with_reducible apply dg_lt | with_reducible apply le_pl | with_reducible apply dg_le)); done) | assumption | omega | (simp only [World.size_alloc, World.size_setCell, World.size_drew]; first | done | omega | (repeat (first | with_reducible assumption | with_reducible exact dg_gt _ | with_reducible apply Nat.lt_succ_of_lt | with_reducible apply dg_lt | with_reducible apply le_pl | with_reducible apply Nat.le_trans ?_ (dg_size _))))))) _))⟩
  · go_wp2_with fail
    refine Calls.mono (pickG (k := 3) (by (repeat (first | with_reducible assumption | with_reducible exact rd_ext _ | with_reducible exact Hid.out (by assumption) | with_reducible apply rd_al | with_reducible apply rd_drew | (with_reducible apply rd_set; rotate_left; (focus (first | ((repeat (first | with_reducible assumption | omega | with_reducible exact dg_gt _ | (simp only [World.size_alloc, World.size_setCell, World.size_drew]) | with_reducible apply Nat.lt_succ_of_lt | with_reducible apply dg_lt | with_reducible apply le_pl | with_reducible apply dg_le)); done) | assumption | omega | (simp only [World.size_alloc, World.size_setCell, World.size_drew]; first | done | omega | (repeat (first | with_reducible assumption | with_reducible exact dg_gt _ | with_reducible apply Nat.lt_succ_of_lt | with_reducible apply dg_lt | with_reducible apply le_pl | with_reducible apply Nat.le_trans ?_ (dg_size _)))))))))) (by omega) (by omega)) ?_
    rintro e w2 ⟨v, rfl, ⟨u, rfl, hu⟩, hr2, hc2⟩
    have hu := hu (by omega)
    obtain ⟨yu, hyu, hlu⟩ := lit_get [-1, 5, 1] (j := u) (by simp only [List.length_cons, List.length_nil]; omega)
    have nb : ¬ w1.heap.size = g := by omega
    have hcl : w2.cell? ⟨w1.heap.size, u, none⟩ = some (.int .i64 yu) := (((Blk.new w1 3 (ints .i64 [-1, 5, 1]).toArray).chg hc2 nb).cell u).trans (by simpa using hlu)
    have C2 := Lib.hid (ChgG.trans (a := w) (chg_al C1.out _) hc2)
    have D6 := Lib.hid ((B6.out.al (.cells (ints .i64 [-1, 5, 1]).toArray 3)).chg hc2 ne0)
    have D7 := Lib.hid ((B7.out.al (.cells (ints .i64 [-1, 5, 1]).toArray 3)).chg hc2 ne1)
    have R2 := Lib.hid hr2
    clear hr2 hc2 C1 B6 B7 R1 hyu hlu
    have C1 := C2
    have B6 := D6
    have B7 := D7
    clear C2 D6 D7
    obtain ⟨u0, u1, u2, u3, u4, u5, u6, u7, c0, c1, c2, c3, c4, c5, c6, c7⟩ := B6.out.all
    obtain ⟨v0, v1, v2, v3, v4, v5, v6, v7, d0, d1, d2, d3, d4, d5, d6, d7⟩ := B7.out.all
    have f6 := B6.out.fz
    have f7 := B7.out.fz
    have l6 := B6.out.lt
    have l7 := B7.out.lt
    go_wp2
    refine body_boxN (t := w.heap.size + 1) (by have := B7.out; (repeat (first | with_reducible assumption | with_reducible exact BoxN.new _ _ _ _ _ _ _ _ (by first | with_reducible rfl | (simp only [World.size_alloc]; done) | (simp only [World.size_alloc]; omega)) | with_reducible apply BoxN.set0 | with_reducible apply BoxN.set1 | with_reducible apply BoxN.set2 | with_reducible apply BoxN.set3 | with_reducible apply BoxN.set4 | with_reducible apply BoxN.set5 | with_reducible apply BoxN.set6 | with_reducible apply BoxN.set7 | with_reducible apply BoxN.al | with_reducible apply BoxN.drew | (with_reducible apply BoxN.ext; rotate_left; (first | assumption | omega)) | (with_reducible apply BoxN.far; rotate_left; (simp only; omega))))) ?_
    rintro E hE x0 x1 x2 x3 x4 x5 x6 x7 e0 e1 e2 e3 e4 e5 e6 e7
    refine bodyPost_ret (by simp [results, Try.results91, go_sem, e0, e1, e2, e3, e4, e5, e6, e7]; try rfl) rfl ?_
    rw [hE]
    refine ⟨_, rfl, ⟨_, _, _, _, _, _, _, _, rfl⟩, RdLe.mono (by (repeat (first | with_reducible assumption | with_reducible exact rd_ext _ | with_reducible exact Hid.out (by assumption) | with_reducible apply rd_al | with_reducible apply rd_drew | (with_reducible apply rd_set; rotate_left; (focus (first | ((repeat (first | with_reducible assumption | omega | with_reducible exact dg_gt _ | (simp only [World.size_alloc, World.size_setCell, World.size_drew]) | with_reducible apply Nat.lt_succ_of_lt | with_reducible apply dg_lt | with_reducible apply le_pl | with_reducible apply dg_le)); done) | assumption | omega | (simp only [World.size_alloc, World.size_setCell, World.size_drew]; first | done | omega | (repeat (first | with_reducible assumption | with_reducible exact dg_gt _ | with_reducible apply Nat.lt_succ_of_lt | with_reducible apply dg_lt | with_reducible apply le_pl | with_reducible apply Nat.le_trans ?_ (dg_size _)))))))))) (by omega), by have := C1.out; (repeat (first | with_reducible exact ChgG.refl _ _ | with_reducible assumption | with_reducible refine chg_ext ?_ _ | with_reducible refine chg_al ?_ _ | with_reducible refine chg_drew ?_ | with_reducible refine chg_set ?_ (by (focus (first | ((repeat (first | with_reducible assumption | omega | with_reducible exact dg_gt _ | (simp only [World.size_alloc, World.size_setCell, World.size_drew]) | with_reducible apply Nat.lt_succ_of_lt | with_reducible apply dg_lt | with_reducible apply le_pl | with_reducible apply dg_le)); done) | assumption | omega | (simp only [World.size_alloc, World.size_setCell, World.size_drew]; first | done | omega | (repeat (first | with_reducible assumption | with_reducible exact dg_gt _ | with_reducible apply Nat.lt_succ_of_lt | with_reducible apply dg_lt | with_reducible apply le_pl | with_reducible apply Nat.le_trans ?_ (dg_size _))))))) _))⟩
  · go_wp2_with fail
    refine Calls.mono (pickG (k := 3) (by (repeat (first | with_reducible assumption | with_reducible exact rd_ext _ | with_reducible exact Hid.out (by assumption) | with_reducible apply rd_al | with_reducible apply rd_drew | (with_reducible apply rd_set; rotate_left; (focus (first | ((repeat (first | with_reducible assumption | omega | with_reducible exact dg_gt _ | (simp only [World.size_alloc, World.size_setCell, World.size_drew]) | with_reducible apply Nat.lt_succ_of_lt | with_reducible apply dg_lt | with_reducible apply le_pl | with_reducible apply dg_le)); done) | assumption | omega | (simp only [World.size_alloc, World.size_setCell, World.size_drew]; first | done | omega | (repeat (first | with_reducible assumption | with_reducible exact dg_gt _ | with_reducible apply Nat.lt_succ_of_lt | with_reducible apply dg_lt | with_reducible apply le_pl | with_reducible apply Nat.le_trans ?_ (dg_size _)))))))))) (by omega) (by omega)) ?_
    rintro e w2 ⟨v, rfl, ⟨u, rfl, hu⟩, hr2, hc2⟩
    have hu := hu (by omega)
    obtain ⟨yu, hyu, hlu⟩ := lit_get [32768, 5, -32769] (j := u) (by simp only [List.length_cons, List.length_nil]; omega)
    have nb : ¬ w1.heap.size = g := by omega
    have hcl : w2.cell? ⟨w1.heap.size, u, none⟩ = some (.int .i64 yu) := (((Blk.new w1 3 (ints .i64 [32768, 5, -32769]).toArray).chg hc2 nb).cell u).trans (by simpa using hlu)
    have C2 := Lib.hid (ChgG.trans (a := w) (chg_al C1.out _) hc2)
    have D6 := Lib.hid ((B6.out.al (.cells (ints .i64 [32768, 5, -32769]).toArray 3)).chg hc2 ne0)
    have D7 := Lib.hid ((B7.out.al (.cells (ints .i64 [32768, 5, -32769]).toArray 3)).chg hc2 ne1)
    have R2 := Lib.hid hr2
    clear hr2 hc2 C1 B6 B7 R1 hyu hlu
    have C1 := C2
    have B6 := D6
    have B7 := D7
    clear C2 D6 D7
    obtain ⟨u0, u1, u2, u3, u4, u5, u6, u7, c0, c1, c2, c3, c4, c5, c6, c7⟩ := B6.out.all
    obtain ⟨v0, v1, v2, v3, v4, v5, v6, v7, d0, d1, d2, d3, d4, d5, d6, d7⟩ := B7.out.all
    have f6 := B6.out.fz
    have f7 := B7.out.fz
    have l6 := B6.out.lt
    have l7 := B7.out.lt
    go_wp2
    refine body_boxN (t := w.heap.size + 1) (by have := B7.out; (repeat (first | with_reducible assumption | with_reducible exact BoxN.new _ _ _ _ _ _ _ _ (by first | with_reducible rfl | (simp only [World.size_alloc]; done) | (simp only [World.size_alloc]; omega)) | with_reducible apply BoxN.set0 | with_reducible apply BoxN.set1 | with_reducible apply BoxN.set2 | with_reducible apply BoxN.set3 | with_reducible apply BoxN.set4 | with_reducible apply BoxN.set5 | with_reducible apply BoxN.set6 | with_reducible apply BoxN.set7 | with_reducible apply BoxN.al | with_reducible apply BoxN.drew | (with_reducible apply BoxN.ext; rotate_left; (first | assumption | omega)) | (with_reducible apply BoxN.far; rotate_left; (simp only; omega))))) ?_
    rintro E hE x0 x1 x2 x3 x4 x5 x6 x7 e0 e1 e2 e3 e4 e5 e6 e7
    refine bodyPost_ret (by simp [results, Try.results91, go_sem, e0, e1, e2, e3, e4, e5, e6, e7]; try rfl) rfl ?_
    rw [hE]
    refine ⟨_, rfl, ⟨_, _, _, _, _, _, _, _, rfl⟩, RdLe.mono (by (repeat (first | with_reducible assumption | with_reducible exact rd_ext _ | with_reducible exact Hid.out (by assumption) | with_reducible apply rd_al | with_reducible apply rd_drew | (with_reducible apply rd_set; rotate_left; (focus (first | ((repeat (first | with_reducible assumption | omega | with_reducible exact dg_gt _ | (simp only [World.size_alloc, World.size_setCell, World.size_drew]) | with_reducible apply Nat.lt_succ_of_lt | with_reducible apply dg_lt | with_reducible apply le_pl | with_reducible apply dg_le)); done) | assumption | omega | (simp only [World.size_alloc, World.size_setCell, World.size_drew]; first | done | omega | (repeat (first | with_reducible assumption | with_reducible exact dg_gt _ | with_reducible apply Nat.lt_succ_of_lt | with_reducible apply dg_lt | with_reducible apply le_pl | with_reducible apply Nat.le_trans ?_ (dg_size _)))))))))) (by omega), by have := C1.out; (repeat (first | with_reducible exact ChgG.refl _ _ | with_reducible assumption | with_reducible refine chg_ext ?_ _ | with_reducible refine chg_al ?_ _ | with_reducible refine chg_drew ?_ | with_reducible refine chg_set ?_ (by (focus (first | ((repeat (first | with_reducible assumption | omega | with_reducible exact dg_gt _ | (simp only [World.size_alloc, World.size_setCell, World.size_drew]) | with_reducible apply Nat.lt_succ_of_lt | with_reducible apply dg_lt | with_reducible apply le_pl | with_reducible apply dg_le)); done) | assumption | omega | (simp only [World.size_alloc, World.size_setCell, World.size_drew]; first | done | omega | (repeat (first | with_reducible assumption | with_reducible exact dg_gt _ | with_reducible apply Nat.lt_succ_of_lt | with_reducible apply dg_lt | with_reducible apply le_pl | with_reducible apply Nat.le_trans ?_ (dg_size _))))))) _))⟩
  · go_wp2_with fail
    refine Calls.mono (pickG (k := 4) (by (repeat (first | with_reducible assumption | with_reducible exact rd_ext _ | with_reducible exact Hid.out (by assumption) | with_reducible apply rd_al | with_reducible apply rd_drew | (with_reducible apply rd_set; rotate_left; (focus (first | ((repeat (first | with_reducible assumption | omega | with_reducible exact dg_gt _ | (simp only [World.size_alloc, World.size_setCell, World.size_drew]) | with_reducible apply Nat.lt_succ_of_lt | with_reducible apply dg_lt | with_reducible apply le_pl | with_reducible apply dg_le)); done) | assumption | omega | (simp only [World.size_alloc, World.size_setCell, World.size_drew]; first | done | omega | (repeat (first | with_reducible assumption | with_reducible exact dg_gt _ | with_reducible apply Nat.lt_succ_of_lt | with_reducible apply dg_lt | with_reducible apply le_pl | with_reducible apply Nat.le_trans ?_ (dg_size _)))))))))) (by omega) (by omega)) ?_
    rintro e w2 ⟨v, rfl, ⟨u, rfl, hu⟩, hr2, hc2⟩
    have hu := hu (by omega)
    obtain ⟨yu, hyu, hlu⟩ := lit_get [-1, 10, 4, 1] (j := u) (by simp only [List.length_cons, List.length_nil]; omega)
    have nb : ¬ w1.heap.size = g := by omega
    have hcl : w2.cell? ⟨w1.heap.size, u, none⟩ = some (.int .i64 yu) := (((Blk.new w1 3 (ints .i64 [-1, 10, 4, 1]).toArray).chg hc2 nb).cell u).trans (by simpa using hlu)
    have C2 := Lib.hid (ChgG.trans (a := w) (chg_al C1.out _) hc2)
    have D6 := Lib.hid ((B6.out.al (.cells (ints .i64 [-1, 10, 4, 1]).toArray 3)).chg hc2 ne0)
    have D7 := Lib.hid ((B7.out.al (.cells (ints .i64 [-1, 10, 4, 1]).toArray 3)).chg hc2 ne1)
    have R2 := Lib.hid hr2
    clear hr2 hc2 C1 B6 B7 R1 hyu hlu
    have C1 := C2
    have B6 := D6
    have B7 := D7
    clear C2 D6 D7
    obtain ⟨u0, u1, u2, u3, u4, u5, u6, u7, c0, c1, c2, c3, c4, c5, c6, c7⟩ := B6.out.all
    obtain ⟨v0, v1, v2, v3, v4, v5, v6, v7, d0, d1, d2, d3, d4, d5, d6, d7⟩ := B7.out.all
    have f6 := B6.out.fz
    have f7 := B7.out.fz
    have l6 := B6.out.lt
    have l7 := B7.out.lt
    go_wp2
    refine body_boxN (t := w.heap.size + 1) (by have := B7.out; (repeat (first | with_reducible assumption | with_reducible exact BoxN.new _ _ _ _ _ _ _ _ (by first | with_reducible rfl | (simp only [World.size_alloc]; done) | (simp only [World.size_alloc]; omega)) | with_reducible apply BoxN.set0 | with_reducible apply BoxN.set1 | with_reducible apply BoxN.set2 | with_reducible apply BoxN.set3 | with_reducible apply BoxN.set4 | with_reducible apply BoxN.set5 | with_reducible apply BoxN.set6 | with_reducible apply BoxN.set7 | with_reducible apply BoxN.al | with_reducible apply BoxN.drew | (with_reducible apply BoxN.ext; rotate_left; (first | assumption | omega)) | (with_reducible apply BoxN.far; rotate_left; (simp only; omega))))) ?_
    rintro E hE x0 x1 x2 x3 x4 x5 x6 x7 e0 e1 e2 e3 e4 e5 e6 e7
    refine bodyPost_ret (by simp [results, Try.results91, go_sem, e0, e1, e2, e3, e4, e5, e6, e7]; try rfl) rfl ?_
    rw [hE]
    refine ⟨_, rfl, ⟨_, _, _, _, _, _, _, _, rfl⟩, RdLe.mono (by (repeat (first | with_reducible assumption | with_reducible exact rd_ext _ | with_reducible exact Hid.out (by assumption) | with_reducible apply rd_al | with_reducible apply rd_drew | (with_reducible apply rd_set; rotate_left; (focus (first | ((repeat (first | with_reducible assumption | omega | with_reducible exact dg_gt _ | (simp only [World.size_alloc, World.size_setCell, World.size_drew]) | with_reducible apply Nat.lt_succ_of_lt | with_reducible apply dg_lt | with_reducible apply le_pl | with_reducible apply dg_le)); done) | assumption | omega | (simp only [World.size_alloc, World.size_setCell, World.size_drew]; first | done | omega | (repeat (first | with_reducible assumption | with_reducible exact dg_gt _ | with_reducible apply Nat.lt_succ_of_lt | with_reducible apply dg_lt | with_reducible apply le_pl | with_reducible apply Nat.le_trans ?_ (dg_size _)))))))))) (by omega), by have := C1.out; (repeat (first | with_reducible exact ChgG.refl _ _ | with_reducible assumption | with_reducible refine chg_ext ?_ _ | with_reducible refine chg_al ?_ _ | with_reducible refine chg_drew ?_ | with_reducible refine chg_set ?_ (by (focus (first | ((repeat (first | with_reducible assumption | omega | with_reducible exact dg_gt _ | (simp only [World.size_alloc, World.size_setCell, World.size_drew]) | with_reducible apply Nat.lt_succ_of_lt | with_reducible apply dg_lt | with_reducible apply le_pl | with_reducible apply dg_le)); done) | assumption | omega | (simp only [World.size_alloc, World.size_setCell, World.size_drew]; first | done | omega | (repeat (first | with_reducible assumption | with_reducible exact dg_gt _ | with_reducible apply Nat.lt_succ_of_lt | with_reducible apply dg_lt | with_reducible apply le_pl | with_reducible apply Nat.le_trans ?_ (dg_size _))))))) _))⟩

set_option maxRecDepth 100000 in
set_option maxHeartbeats 8000000 in
theorem insOrG {g P : Nat} {n : Int} {w : World} (h : RdLe w g P) (hp : P + 32 ≤ 1099511627776) (hn : -1099511627776 ≤ n ∧ n ≤ 1099511627776) :
    Calls Try.prog 63 #[.pointer (some ⟨g, 0, none⟩), .int .i64 n] w (RetG IsIns g (P + 32) w) := by
  have lt0 := h.lt
  obtain ⟨ne0, ne1, ne2, ne3, ne4, ne5⟩ : ¬ w.heap.size = g ∧ ¬ w.heap.size + 1 = g ∧ ¬ w.heap.size + 1 + 1 = g ∧ ¬ w.heap.size + 1 + 1 + 1 = g ∧ ¬ w.heap.size + 1 + 1 + 1 + 1 = g ∧ ¬ w.heap.size + 1 + 1 + 1 + 1 + 1 = g := by omega
  have HP := Lib.hid h; clear h
  go_enter Try.func63, Try.ntmps63
  go_wp2_with fail
  refine Calls.mono (insG (by (repeat (first | with_reducible assumption | with_reducible exact rd_ext _ | with_reducible exact Hid.out (by assumption) | with_reducible apply rd_al | with_reducible apply rd_drew | (with_reducible apply rd_set; rotate_left; (focus (first | ((repeat (first | with_reducible assumption | omega | with_reducible exact dg_gt _ | (simp only [World.size_alloc, World.size_setCell, World.size_drew]) | with_reducible apply Nat.lt_succ_of_lt | with_reducible apply dg_lt | with_reducible apply le_pl | with_reducible apply dg_le)); done) | assumption | omega | (simp only [World.size_alloc, World.size_setCell, World.size_drew]; first | done | omega | (repeat (first | with_reducible assumption | with_reducible exact dg_gt _ | with_reducible apply Nat.lt_succ_of_lt | with_reducible apply dg_lt | with_reducible apply le_pl | with_reducible apply Nat.le_trans ?_ (dg_size _)))))))))) (by omega) (by omega) (by omega)) ?_
  rintro e w1 ⟨v, rfl, ⟨op, d, ia, ib, rel, lo, hi, to, rfl⟩, hr1, hc1⟩
  have C1 := Lib.hid (ChgG.trans (a := w) (by (repeat (first | with_reducible exact ChgG.refl _ _ | with_reducible assumption | with_reducible refine chg_ext ?_ _ | with_reducible refine chg_al ?_ _ | with_reducible refine chg_drew ?_ | with_reducible refine chg_set ?_ (by (focus (first | ((repeat (first | with_reducible assumption | omega | with_reducible exact dg_gt _ | (simp only [World.size_alloc, World.size_setCell, World.size_drew]) | with_reducible apply Nat.lt_succ_of_lt | with_reducible apply dg_lt | with_reducible apply le_pl | with_reducible apply dg_le)); done) | assumption | omega | (simp only [World.size_alloc, World.size_setCell, World.size_drew]; first | done | omega | (repeat (first | with_reducible assumption | with_reducible exact dg_gt _ | with_reducible apply Nat.lt_succ_of_lt | with_reducible apply dg_lt | with_reducible apply le_pl | with_reducible apply Nat.le_trans ?_ (dg_size _))))))) _))) hc1)
  have B7 := Lib.hid (BoxN.chg (t := w.heap.size) (by (repeat (first | with_reducible assumption | with_reducible exact BoxN.new _ _ _ _ _ _ _ _ (by first | with_reducible rfl | (simp only [World.size_alloc]; done) | (simp only [World.size_alloc]; omega)) | with_reducible apply BoxN.set0 | with_reducible apply BoxN.set1 | with_reducible apply BoxN.set2 | with_reducible apply BoxN.set3 | with_reducible apply BoxN.set4 | with_reducible apply BoxN.set5 | with_reducible apply BoxN.set6 | with_reducible apply BoxN.set7 | with_reducible apply BoxN.al | with_reducible apply BoxN.drew | (with_reducible apply BoxN.ext; rotate_left; (first | assumption | omega)) | (with_reducible apply BoxN.far; rotate_left; (simp only; omega))))) hc1 ne0)
  have R1 := Lib.hid hr1
  have l7 := B7.out.lt
  have l1g := hr1.lt
  clear hr1 hc1 HP
  go_wp2_with fail
  refine Calls.mono (oddG (k := 9) (by (repeat (first | with_reducible assumption | with_reducible exact rd_ext _ | with_reducible exact Hid.out (by assumption) | with_reducible apply rd_al | with_reducible apply rd_drew | (with_reducible apply rd_set; rotate_left; (focus (first | ((repeat (first | with_reducible assumption | omega | with_reducible exact dg_gt _ | (simp only [World.size_alloc, World.size_setCell, World.size_drew]) | with_reducible apply Nat.lt_succ_of_lt | with_reducible apply dg_lt | with_reducible apply le_pl | with_reducible apply dg_le)); done) | assumption | omega | (simp only [World.size_alloc, World.size_setCell, World.size_drew]; first | done | omega | (repeat (first | with_reducible assumption | with_reducible exact dg_gt _ | with_reducible apply Nat.lt_succ_of_lt | with_reducible apply dg_lt | with_reducible apply le_pl | with_reducible apply Nat.le_trans ?_ (dg_size _)))))))))) (by omega) (by omega)) ?_
  rintro e w2 ⟨v, rfl, ⟨o, rfl⟩, hr2, hc2⟩
  have C2 := Lib.hid (ChgG.trans (a := w) (chg_al C1.out _) hc2)
  have B6 := Lib.hid (BoxN.chg (t := w1.heap.size) (BoxN.new op d ia ib rel lo hi to rfl) hc2 (by omega))
  have D7 := Lib.hid ((B7.out.al (.cells #[.int .i64 op, .int .i64 d, .int .i64 ia, .int .i64 ib, .int .i64 rel, .int .i64 lo, .int .i64 hi, .int .i64 to] 44)).chg hc2 ne0)
  have R2 := Lib.hid hr2
  have l2 := hc2.size
  clear hr2 hc2 C1 B7 R1
  have B7 := D7
  have C1 := C2
  clear D7 C2
  obtain ⟨b5, hb5⟩ : ∃ b, w1.heap.size = b := ⟨_, rfl⟩
  rw [hb5] at B6 ⊢
  have n67 : ¬ w.heap.size = b5 := by omega
  have n76 : ¬ b5 = w.heap.size := by omega
  have n5g : ¬ b5 = g := by omega
  have l5 : w.heap.size ≤ b5 := by omega
  clear hb5 l7 l1g l2
  have l6 := B6.out.lt
  have l7 := B7.out.lt
  have l1g := R2.out.lt
  cases o
  · go_wp2_with fail
    have R9 : Hid (RdLe w2 g (P + 29)) := Lib.hid (R2.out.mono (by omega))
    refine Calls.mono (oddG (k := n) R9.out (by omega) (by omega)) ?_
    rintro e w3 ⟨v, rfl, ⟨o2, rfl⟩, hr3, hc3⟩
    have C3 := Lib.hid (ChgG.trans (a := w) C1.out hc3)
    have D6 := Lib.hid (B6.out.chg hc3 n5g)
    have D7 := Lib.hid (B7.out.chg hc3 ne0)
    have R3 := Lib.hid hr3
    clear hr3 hc3 C1 B6 B7
    have B6 := D6
    have B7 := D7
    have C1 := C3
    clear D6 D7 C3
    have l1g := R3.out.lt
    cases o2
    · obtain ⟨u0, u1, u2, u3, u4, u5, u6, u7, c0, c1, c2, c3, c4, c5, c6, c7⟩ := B6.out.all
      obtain ⟨v0, v1, v2, v3, v4, v5, v6, v7, d0, d1, d2, d3, d4, d5, d6, d7⟩ := B7.out.all
      have f6 := B6.out.fz
      have f7 := B7.out.fz
      have l6 := B6.out.lt
      have l7 := B7.out.lt
      go_wp2
      refine body_boxN (t := w.heap.size) (by have := B7.out; (repeat (first | with_reducible assumption | with_reducible exact BoxN.new _ _ _ _ _ _ _ _ (by first | with_reducible rfl | (simp only [World.size_alloc]; done) | (simp only [World.size_alloc]; omega)) | with_reducible apply BoxN.set0 | with_reducible apply BoxN.set1 | with_reducible apply BoxN.set2 | with_reducible apply BoxN.set3 | with_reducible apply BoxN.set4 | with_reducible apply BoxN.set5 | with_reducible apply BoxN.set6 | with_reducible apply BoxN.set7 | with_reducible apply BoxN.al | with_reducible apply BoxN.drew | (with_reducible apply BoxN.ext; rotate_left; (first | assumption | omega)) | (with_reducible apply BoxN.far; rotate_left; (simp only; omega))))) ?_
      rintro E hE x0 x1 x2 x3 x4 x5 x6 x7 e0 e1 e2 e3 e4 e5 e6 e7
      refine bodyPost_ret (by simp [results, Try.results63, go_sem, e0, e1, e2, e3, e4, e5, e6, e7]; try rfl) rfl ?_
      rw [hE]
      refine ⟨_, rfl, ⟨_, _, _, _, _, _, _, _, rfl⟩, RdLe.mono (by (repeat (first | with_reducible assumption | with_reducible exact rd_ext _ | with_reducible exact Hid.out (by assumption) | with_reducible apply rd_al | with_reducible apply rd_drew | (with_reducible apply rd_set; rotate_left; (focus (first | ((repeat (first | with_reducible assumption | omega | with_reducible exact dg_gt _ | (simp only [World.size_alloc, World.size_setCell, World.size_drew]) | with_reducible apply Nat.lt_succ_of_lt | with_reducible apply dg_lt | with_reducible apply le_pl | with_reducible apply dg_le)); done) | assumption | omega | (simp only [World.size_alloc, World.size_setCell, World.size_drew]; first | done | omega | (repeat (first | with_reducible assumption | with_reducible exact dg_gt _ | with_reducible apply Nat.lt_succ_of_lt | with_reducible apply dg_lt | with_reducible apply le_pl | with_reducible apply Nat.le_trans ?_ (dg_size _)))))))))) (by omega), by have := C1.out; (repeat (first | with_reducible exact ChgG.refl _ _ | with_reducible assumption | with_reducible refine chg_ext ?_ _ | with_reducible refine chg_al ?_ _ | with_reducible refine chg_drew ?_ | with_reducible refine chg_set ?_ (by (focus (first | ((repeat (first | with_reducible assumption | omega | with_reducible exact dg_gt _ | (simp only [World.size_alloc, World.size_setCell, World.size_drew]) | with_reducible apply Nat.lt_succ_of_lt | with_reducible apply dg_lt | with_reducible apply le_pl | with_reducible apply dg_le)); done) | assumption | omega | (simp only [World.size_alloc, World.size_setCell, World.size_drew]; first | done | omega | (repeat (first | with_reducible assumption | with_reducible exact dg_gt _ | with_reducible apply Nat.lt_succ_of_lt | with_reducible apply dg_lt | with_reducible apply le_pl | with_reducible apply Nat.le_trans ?_ (dg_size _))))))) _))⟩
    · obtain ⟨u0, u1, u2, u3, u4, u5, u6, u7, c0, c1, c2, c3, c4, c5, c6, c7⟩ := B6.out.all
      have l6 := B6.out.lt
      go_wp2_with fail
      refine Calls.mono (spoilG (by (repeat (first | with_reducible assumption | with_reducible exact rd_ext _ | with_reducible exact Hid.out (by assumption) | with_reducible apply rd_al | with_reducible apply rd_drew | (with_reducible apply rd_set; rotate_left; (focus (first | ((repeat (first | with_reducible assumption | omega | with_reducible exact dg_gt _ | (simp only [World.size_alloc, World.size_setCell, World.size_drew]) | with_reducible apply Nat.lt_succ_of_lt | with_reducible apply dg_lt | with_reducible apply le_pl | with_reducible apply dg_le)); done) | assumption | omega | (simp only [World.size_alloc, World.size_setCell, World.size_drew]; first | done | omega | (repeat (first | with_reducible assumption | with_reducible exact dg_gt _ | with_reducible apply Nat.lt_succ_of_lt | with_reducible apply dg_lt | with_reducible apply le_pl | with_reducible apply Nat.le_trans ?_ (dg_size _)))))))))) ⟨_, _, _, _, _, _, _, _, rfl⟩ (by omega)) ?_
      rintro e w4 ⟨v, rfl, ⟨op2, d2', ia2, ib2, rel2, lo2, hi2, to2, rfl⟩, hr4, hc4⟩
      have C4 := Lib.hid (ChgG.trans (a := w) C1.out hc4)
      have D6 := Lib.hid (B6.out.chg hc4 n5g)
      have D7 := Lib.hid (B7.out.chg hc4 ne0)
      have R4 := Lib.hid hr4
      clear hr4 hc4 C1 B6 B7 c0 c1 c2 c3 c4 c5 c6 c7
      have B6 := D6
      have B7 := D7
      have C1 := C4
      clear D6 D7 C4
      obtain ⟨u0, u1, u2, u3, u4, u5, u6, u7, c0, c1, c2, c3, c4, c5, c6, c7⟩ := B6.out.all
      obtain ⟨v0, v1, v2, v3, v4, v5, v6, v7, d0, d1, d2, d3, d4, d5, d6, d7⟩ := B7.out.all
      have f6 := B6.out.fz
      have f7 := B7.out.fz
      have l6 := B6.out.lt
      have l7 := B7.out.lt
      go_wp2
      refine body_boxN (t := w.heap.size) (by have := B7.out; (repeat (first | with_reducible assumption | with_reducible exact BoxN.new _ _ _ _ _ _ _ _ (by first | with_reducible rfl | (simp only [World.size_alloc]; done) | (simp only [World.size_alloc]; omega)) | with_reducible apply BoxN.set0 | with_reducible apply BoxN.set1 | with_reducible apply BoxN.set2 | with_reducible apply BoxN.set3 | with_reducible apply BoxN.set4 | with_reducible apply BoxN.set5 | with_reducible apply BoxN.set6 | with_reducible apply BoxN.set7 | with_reducible apply BoxN.al | with_reducible apply BoxN.drew | (with_reducible apply BoxN.ext; rotate_left; (first | assumption | omega)) | (with_reducible apply BoxN.far; rotate_left; (simp only; omega))))) ?_
      rintro E hE x0 x1 x2 x3 x4 x5 x6 x7 e0 e1 e2 e3 e4 e5 e6 e7
      refine bodyPost_ret (by simp [results, Try.results63, go_sem, e0, e1, e2, e3, e4, e5, e6, e7]; try rfl) rfl ?_
      rw [hE]
      refine ⟨_, rfl, ⟨_, _, _, _, _, _, _, _, rfl⟩, RdLe.mono (by (repeat (first | with_reducible assumption | with_reducible exact rd_ext _ | with_reducible exact Hid.out (by assumption) | with_reducible apply rd_al | with_reducible apply rd_drew | (with_reducible apply rd_set; rotate_left; (focus (first | ((repeat (first | with_reducible assumption | omega | with_reducible exact dg_gt _ | (simp only [World.size_alloc, World.size_setCell, World.size_drew]) | with_reducible apply Nat.lt_succ_of_lt | with_reducible apply dg_lt | with_reducible apply le_pl | with_reducible apply dg_le)); done) | assumption | omega | (simp only [World.size_alloc, World.size_setCell, World.size_drew]; first | done | omega | (repeat (first | with_reducible assumption | with_reducible exact dg_gt _ | with_reducible apply Nat.lt_succ_of_lt | with_reducible apply dg_lt | with_reducible apply le_pl | with_reducible apply Nat.le_trans ?_ (dg_size _)))))))))) (by omega), by have := C1.out; (repeat (first | with_reducible exact ChgG.refl _ _ | with_reducible assumption | with_reducible refine chg_ext ?_ _ | with_reducible refine chg_al ?_ _ | with_reducible refine chg_drew ?_ | with_reducible refine chg_set ?_ (by (focus (first | ((repeat (first | with_reducible assumption | omega | with_reducible exact dg_gt _ | (simp only [World.size_alloc, World.size_setCell, World.size_drew]) | with_reducible apply Nat.lt_succ_of_lt | with_reducible apply dg_lt | with_reducible apply le_pl | with_reducible apply dg_le)); done) | assumption | omega | (simp only [World.size_alloc, World.size_setCell, World.size_drew]; first | done | omega | (repeat (first | with_reducible assumption | with_reducible exact dg_gt _ | with_reducible apply Nat.lt_succ_of_lt | with_reducible apply dg_lt | with_reducible apply le_pl | with_reducible apply Nat.le_trans ?_ (dg_size _))))))) _))⟩
  · go_wp2_with fail
    refine Calls.mono (pickG (k := 4) (by (repeat (first | with_reducible assumption | with_reducible exact rd_ext _ | with_reducible exact Hid.out (by assumption) | with_reducible apply rd_al | with_reducible apply rd_drew | (with_reducible apply rd_set; rotate_left; (focus (first | ((repeat (first | with_reducible assumption | omega | with_reducible exact dg_gt _ | (simp only [World.size_alloc, World.size_setCell, World.size_drew]) | with_reducible apply Nat.lt_succ_of_lt | with_reducible apply dg_lt | with_reducible apply le_pl | with_reducible apply dg_le)); done) | assumption | omega | (simp only [World.size_alloc, World.size_setCell, World.size_drew]; first | done | omega | (repeat (first | with_reducible assumption | with_reducible exact dg_gt _ | with_reducible apply Nat.lt_succ_of_lt | with_reducible apply dg_lt | with_reducible apply le_pl | with_reducible apply Nat.le_trans ?_ (dg_size _)))))))))) (by omega) (by omega)) ?_
    rintro e w9 ⟨v, rfl, ⟨q, rfl, hq⟩, hr9, hc9⟩
    have C9 := Lib.hid (ChgG.trans (a := w) C1.out hc9)
    have D6 := Lib.hid (B6.out.chg hc9 n5g)
    have D7 := Lib.hid (B7.out.chg hc9 ne0)
    have R3 := Lib.hid hr9
    clear hr9 hc9 C1 B6 B7 R2 hq
    have B6 := D6
    have B7 := D7
    have C1 := C9
    clear D6 D7 C9
    obtain ⟨u0, u1, u2, u3, u4, u5, u6, u7, c0, c1, c2, c3, c4, c5, c6, c7⟩ := B6.out.all
    have f6 := B6.out.fz
    have l6 := B6.out.lt
    have l7 := B7.out.lt
    have l1g := R3.out.lt
    go_wp2_with fail
    refine calls_gen (g := g) (w := w) (p := P + 29) w.heap.size b5 (by have := C1.out; (repeat (first | with_reducible exact ChgG.refl _ _ | with_reducible assumption | with_reducible refine chg_ext ?_ _ | with_reducible refine chg_al ?_ _ | with_reducible refine chg_drew ?_ | with_reducible refine chg_set ?_ (by (focus (first | ((repeat (first | with_reducible assumption | omega | with_reducible exact dg_gt _ | (simp only [World.size_alloc, World.size_setCell, World.size_drew]) | with_reducible apply Nat.lt_succ_of_lt | with_reducible apply dg_lt | with_reducible apply le_pl | with_reducible apply dg_le)); done) | assumption | omega | (simp only [World.size_alloc, World.size_setCell, World.size_drew]; first | done | omega | (repeat (first | with_reducible assumption | with_reducible exact dg_gt _ | with_reducible apply Nat.lt_succ_of_lt | with_reducible apply dg_lt | with_reducible apply le_pl | with_reducible apply Nat.le_trans ?_ (dg_size _))))))) _))) (RdLe.mono (by (repeat (first | with_reducible assumption | with_reducible exact rd_ext _ | with_reducible exact Hid.out (by assumption) | with_reducible apply rd_al | with_reducible apply rd_drew | (with_reducible apply rd_set; rotate_left; (focus (first | ((repeat (first | with_reducible assumption | omega | with_reducible exact dg_gt _ | (simp only [World.size_alloc, World.size_setCell, World.size_drew]) | with_reducible apply Nat.lt_succ_of_lt | with_reducible apply dg_lt | with_reducible apply le_pl | with_reducible apply dg_le)); done) | assumption | omega | (simp only [World.size_alloc, World.size_setCell, World.size_drew]; first | done | omega | (repeat (first | with_reducible assumption | with_reducible exact dg_gt _ | with_reducible apply Nat.lt_succ_of_lt | with_reducible apply dg_lt | with_reducible apply le_pl | with_reducible apply Nat.le_trans ?_ (dg_size _)))))))))) (by omega)) (by have := B7.out; (repeat (first | with_reducible assumption | with_reducible exact BoxN.new _ _ _ _ _ _ _ _ (by first | with_reducible rfl | (simp only [World.size_alloc]; done) | (simp only [World.size_alloc]; omega)) | with_reducible apply BoxN.set0 | with_reducible apply BoxN.set1 | with_reducible apply BoxN.set2 | with_reducible apply BoxN.set3 | with_reducible apply BoxN.set4 | with_reducible apply BoxN.set5 | with_reducible apply BoxN.set6 | with_reducible apply BoxN.set7 | with_reducible apply BoxN.al | with_reducible apply BoxN.drew | (with_reducible apply BoxN.ext; rotate_left; (first | assumption | omega)) | (with_reducible apply BoxN.far; rotate_left; (simp only; omega))))) (by have := B6.out; (repeat (first | with_reducible assumption | with_reducible exact BoxN.new _ _ _ _ _ _ _ _ (by first | with_reducible rfl | (simp only [World.size_alloc]; done) | (simp only [World.size_alloc]; omega)) | with_reducible apply BoxN.set0 | with_reducible apply BoxN.set1 | with_reducible apply BoxN.set2 | with_reducible apply BoxN.set3 | with_reducible apply BoxN.set4 | with_reducible apply BoxN.set5 | with_reducible apply BoxN.set6 | with_reducible apply BoxN.set7 | with_reducible apply BoxN.al | with_reducible apply BoxN.drew | (with_reducible apply BoxN.ext; rotate_left; (first | assumption | omega)) | (with_reducible apply BoxN.far; rotate_left; (simp only; omega))))) ?_
    intro w2 hC hP b6 b7
    clear C1 B6 B7 R3 c0 c1 c2 c3 c4 c5 c6 c7 f6 l6 l7 l1g
    have C1 := Lib.hid hC
    have B7 := Lib.hid b6
    have B6 := Lib.hid b7
    have R9 := Lib.hid hP
    have l1g := hP.lt
    clear hC hP b6 b7
    refine Calls.mono (oddG (k := n) R9.out (by omega) (by omega)) ?_
    rintro e w3 ⟨v, rfl, ⟨o2, rfl⟩, hr3, hc3⟩
    have C3 := Lib.hid (ChgG.trans (a := w) C1.out hc3)
    have D6 := Lib.hid (B6.out.chg hc3 n5g)
    have D7 := Lib.hid (B7.out.chg hc3 ne0)
    have R3 := Lib.hid hr3
    clear hr3 hc3 C1 B6 B7
    have B6 := D6
    have B7 := D7
    have C1 := C3
    clear D6 D7 C3
    have l1g := R3.out.lt
    cases o2
    · obtain ⟨u0, u1, u2, u3, u4, u5, u6, u7, c0, c1, c2, c3, c4, c5, c6, c7⟩ := B6.out.all
      obtain ⟨v0, v1, v2, v3, v4, v5, v6, v7, d0, d1, d2, d3, d4, d5, d6, d7⟩ := B7.out.all
      have f6 := B6.out.fz
      have f7 := B7.out.fz
      have l6 := B6.out.lt
      have l7 := B7.out.lt
      go_wp2
      refine body_boxN (t := w.heap.size) (by have := B7.out; (repeat (first | with_reducible assumption | with_reducible exact BoxN.new _ _ _ _ _ _ _ _ (by first | with_reducible rfl | (simp only [World.size_alloc]; done) | (simp only [World.size_alloc]; omega)) | with_reducible apply BoxN.set0 | with_reducible apply BoxN.set1 | with_reducible apply BoxN.set2 | with_reducible apply BoxN.set3 | with_reducible apply BoxN.set4 | with_reducible apply BoxN.set5 | with_reducible apply BoxN.set6 | with_reducible apply BoxN.set7 | with_reducible apply BoxN.al | with_reducible apply BoxN.drew | (with_reducible apply BoxN.ext; rotate_left; (first | assumption | omega)) | (with_reducible apply BoxN.far; rotate_left; (simp only; omega))))) ?_
      rintro E hE x0 x1 x2 x3 x4 x5 x6 x7 e0 e1 e2 e3 e4 e5 e6 e7
      refine bodyPost_ret (by simp [results, Try.results63, go_sem, e0, e1, e2, e3, e4, e5, e6, e7]; try rfl) rfl ?_
      rw [hE]
      refine ⟨_, rfl, ⟨_, _, _, _, _, _, _, _, rfl⟩, RdLe.mono (by (repeat (first | with_reducible assumption | with_reducible exact rd_ext _ | with_reducible exact Hid.out (by assumption) | with_reducible apply rd_al | with_reducible apply rd_drew | (with_reducible apply rd_set; rotate_left; (focus (first | ((repeat (first | with_reducible assumption | omega | with_reducible exact dg_gt _ | (simp only [World.size_alloc, World.size_setCell, World.size_drew]) | with_reducible apply Nat.lt_succ_of_lt | with_reducible apply dg_lt | with_reducible apply le_pl | with_reducible apply dg_le)); done) | assumption | omega | (simp only [World.size_alloc, World.size_setCell, World.size_drew]; first | done | omega | (repeat (first | with_reducible assumption | with_reducible exact dg_gt _ | with_reducible apply Nat.lt_succ_of_lt | with_reducible apply dg_lt | with_reducible apply le_pl | with_reducible apply Nat.le_trans ?_ (dg_size _)))))))))) (by omega), by have := C1.out; (repeat (first | with_reducible exact ChgG.refl _ _ | with_reducible assumption | with_reducible refine chg_ext ?_ _ | with_reducible refine chg_al ?_ _ | with_reducible refine chg_drew ?_ | with_reducible refine chg_set ?_ (by (focus (first | ((repeat (first | with_reducible assumption | omega | with_reducible exact dg_gt _ | (simp only [World.size_alloc, World.size_setCell, World.size_drew]) | with_reducible apply Nat.lt_succ_of_lt | with_reducible apply dg_lt | with_reducible apply le_pl | with_reducible apply dg_le)); done) | assumption | omega | (simp only [World.size_alloc, World.size_setCell, World.size_drew]; first | done | omega | (repeat (first | with_reducible assumption | with_reducible exact dg_gt _ | with_reducible apply Nat.lt_succ_of_lt | with_reducible apply dg_lt | with_reducible apply le_pl | with_reducible apply Nat.le_trans ?_ (dg_size _))))))) _))⟩
    · obtain ⟨u0, u1, u2, u3, u4, u5, u6, u7, c0, c1, c2, c3, c4, c5, c6, c7⟩ := B6.out.all
      have l6 := B6.out.lt
      go_wp2_with fail
      refine Calls.mono (spoilG (by (repeat (first | with_reducible assumption | with_reducible exact rd_ext _ | with_reducible exact Hid.out (by assumption) | with_reducible apply rd_al | with_reducible apply rd_drew | (with_reducible apply rd_set; rotate_left; (focus (first | ((repeat (first | with_reducible assumption | omega | with_reducible exact dg_gt _ | (simp only [World.size_alloc, World.size_setCell, World.size_drew]) | with_reducible apply Nat.lt_succ_of_lt | with_reducible apply dg_lt | with_reducible apply le_pl | with_reducible apply dg_le)); done) | assumption | omega | (simp only [World.size_alloc, World.size_setCell, World.size_drew]; first | done | omega | (repeat (first | with_reducible assumption | with_reducible exact dg_gt _ | with_reducible apply Nat.lt_succ_of_lt | with_reducible apply dg_lt | with_reducible apply le_pl | with_reducible apply Nat.le_trans ?_ (dg_size _)))))))))) ⟨_, _, _, _, _, _, _, _, rfl⟩ (by omega)) ?_
      rintro e w4 ⟨v, rfl, ⟨op2, d2', ia2, ib2, rel2, lo2, hi2, to2, rfl⟩, hr4, hc4⟩
      have C4 := Lib.hid (ChgG.trans (a := w) C1.out hc4)
      have D6 := Lib.hid (B6.out.chg hc4 n5g)
      have D7 := Lib.hid (B7.out.chg hc4 ne0)
      have R4 := Lib.hid hr4
      clear hr4 hc4 C1 B6 B7 c0 c1 c2 c3 c4 c5 c6 c7
      have B6 := D6
      have B7 := D7
      have C1 := C4
      clear D6 D7 C4
      obtain ⟨u0, u1, u2, u3, u4, u5, u6, u7, c0, c1, c2, c3, c4, c5, c6, c7⟩ := B6.out.all
      obtain ⟨v0, v1, v2, v3, v4, v5, v6, v7, d0, d1, d2, d3, d4, d5, d6, d7⟩ := B7.out.all
      have f6 := B6.out.fz
      have f7 := B7.out.fz
      have l6 := B6.out.lt
      have l7 := B7.out.lt
      go_wp2
      refine body_boxN (t := w.heap.size) (by have := B7.out; (repeat (first | with_reducible assumption | with_reducible exact BoxN.new _ _ _ _ _ _ _ _ (by first | with_reducible rfl | (simp only [World.size_alloc]; done) | (simp only [World.size_alloc]; omega)) | with_reducible apply BoxN.set0 | with_reducible apply BoxN.set1 | with_reducible apply BoxN.set2 | with_reducible apply BoxN.set3 | with_reducible apply BoxN.set4 | with_reducible apply BoxN.set5 | with_reducible apply BoxN.set6 | with_reducible apply BoxN.set7 | with_reducible apply BoxN.al | with_reducible apply BoxN.drew | (with_reducible apply BoxN.ext; rotate_left; (first | assumption | omega)) | (with_reducible apply BoxN.far; rotate_left; (simp only; omega))))) ?_
      rintro E hE x0 x1 x2 x3 x4 x5 x6 x7 e0 e1 e2 e3 e4 e5 e6 e7
      refine bodyPost_ret (by simp [results, Try.results63, go_sem, e0, e1, e2, e3, e4, e5, e6, e7]; try rfl) rfl ?_
      rw [hE]
      refine ⟨_, rfl, ⟨_, _, _, _, _, _, _, _, rfl⟩, RdLe.mono (by (repeat (first | with_reducible assumption | with_reducible exact rd_ext _ | with_reducible exact Hid.out (by assumption) | with_reducible apply rd_al | with_reducible apply rd_drew | (with_reducible apply rd_set; rotate_left; (focus (first | ((repeat (first | with_reducible assumption | omega | with_reducible exact dg_gt _ | (simp only [World.size_alloc, World.size_setCell, World.size_drew]) | with_reducible apply Nat.lt_succ_of_lt | with_reducible apply dg_lt | with_reducible apply le_pl | with_reducible apply dg_le)); done) | assumption | omega | (simp only [World.size_alloc, World.size_setCell, World.size_drew]; first | done | omega | (repeat (first | with_reducible assumption | with_reducible exact dg_gt _ | with_reducible apply Nat.lt_succ_of_lt | with_reducible apply dg_lt | with_reducible apply le_pl | with_reducible apply Nat.le_trans ?_ (dg_size _)))))))))) (by omega), by have := C1.out; (repeat (first | with_reducible exact ChgG.refl _ _ | with_reducible assumption | with_reducible refine chg_ext ?_ _ | with_reducible refine chg_al ?_ _ | with_reducible refine chg_drew ?_ | with_reducible refine chg_set ?_ (by (focus (first | ((repeat (first | with_reducible assumption | omega | with_reducible exact dg_gt _ | (simp only [World.size_alloc, World.size_setCell, World.size_drew]) | with_reducible apply Nat.lt_succ_of_lt | with_reducible apply dg_lt | with_reducible apply le_pl | with_reducible apply dg_le)); done) | assumption | omega | (simp only [World.size_alloc, World.size_setCell, World.size_drew]; first | done | omega | (repeat (first | with_reducible assumption | with_reducible exact dg_gt _ | with_reducible apply Nat.lt_succ_of_lt | with_reducible apply dg_lt | with_reducible apply le_pl | with_reducible apply Nat.le_trans ?_ (dg_size _))))))) _))⟩

set_option maxRecDepth 100000 in
set_option maxHeartbeats 8000000 in
theorem DrawInsNext (a : Option Addr) (n cap : Nat) (zs : List Int) (w : World) (hr : Rd w a n 1 (ints .u8 zs)) (hz : Bs zs) (hc : n ≤ cap ∧ cap ≤ maxLen) :
    Calls Try.prog 33 #[.slice a n cap] w fun e w' => ∃ v pc, e = .returned (.tuple #[v, .int .i64 pc]) ∧ IsIns v ∧ Grew w w' := by
  have HR0 := Lib.hid (hr.grew (grew_al (Below.refl _ w) (.cells #[.int .i64 0, .int .i64 0, .int .i64 0, .int .i64 0, .int .i64 0, .int .i64 0, .int .i64 0, .int .i64 0] 44))); clear hr
  have HZ := Lib.hid hz; clear hz
  go_enter Try.func33, Try.ntmps33
  go_wp2_with fail
  refine (l20Open _ _ _ _ _ HR0.out HZ.out hc).mono ?_
  rintro e w1 ⟨rfl, h1, h2⟩
  have hZ1 : BoxN w.heap.size w1 := BoxN.grew (BoxN.new 0 0 0 0 0 0 0 0 rfl) h2
  have G1 : Grew w w1 := grew_tr (grew_al (Below.refl _ w) _) h2
  obtain ⟨g, hg⟩ : ∃ g, w.heap.size + 1 = g := ⟨_, rfl⟩
  simp only [World.size_alloc, hg] at h1 ⊢
  have hgw : w.heap.size < g := by omega
  have lg := h1.lt
  have H1 := Lib.hid h1
  clear h1 h2 hg HR0 HZ
  go_wp2_with fail
  refine Calls.mono (insOrG H1.out (by omega) (by omega)) ?_
  rintro e w2 ⟨v, rfl, ⟨op, d, ia, ib, rel, lo, hi, to, rfl⟩, hr2, hc2⟩
  have lw := hc2.size
  go_wp2_with fail
  refine Calls.mono (oddG (k := 12) (rd_al hr2 _) (by omega) (by omega)) ?_
  rintro e w3 ⟨v, rfl, ⟨o, rfl⟩, hr3, hc3⟩
  have hZ3 : BoxN w.heap.size w3 := ((hZ1.chg hc2 (by omega)).al _).chg hc3 (by omega)
  have hB3 : BoxN w2.heap.size w3 := (BoxN.new op d ia ib rel lo hi to rfl).chg hc3 (by omega)
  have hC3 : ChgG g w1 w3 := ChgG.trans (chg_al hc2 _) hc3
  have G3 : Grew w w3 := G1.trans (hC3.belowB G1.size (fun k hk => by omega))
  obtain ⟨b4, hb4⟩ : ∃ b, w2.heap.size = b := ⟨_, rfl⟩
  rw [hb4] at hB3 ⊢
  have s4 : w1.heap.size ≤ b4 := by omega
  have n4 : ¬ b4 = g := by omega
  have n24 : ¬ w.heap.size = b4 := by omega
  have HP3 := Lib.hid hr3
  have ls := G1.size
  clear hr2 hc2 hr3 hc3 hC3 hZ1 G1 H1
  have hJC : ∀ W W', (Grew w W ∧ BoxN w.heap.size W ∧ BoxN b4 W) → ChgG g W W' → (Grew w W' ∧ BoxN w.heap.size W' ∧ BoxN b4 W') := fun W W' h c => ⟨h.1.trans (c.belowB h.1.size (fun k hk => by omega)), h.2.1.chg c (by omega), h.2.2.chg c n4⟩
  have hJA : ∀ W o, (Grew w W ∧ BoxN w.heap.size W ∧ BoxN b4 W) → (Grew w (W.alloc o) ∧ BoxN w.heap.size (W.alloc o) ∧ BoxN b4 (W.alloc o)) := fun W o h => ⟨grew_al h.1 o, h.2.1.al o, h.2.2.al o⟩
  have hFJ : ∀ W, (Grew w W ∧ BoxN w.heap.size W ∧ BoxN b4 W) → ∀ b, (b = g ∨ b = w.heap.size) → b < W.heap.size := fun W h b hb => by
    have h1 := h.2.2.lt
    have h2 := h.2.1.lt
    rcases hb with rfl | rfl
    · omega
    · omega
  cases o
  · skip
    go_wp2_with fail
    have hPP : 0 + 32 + 1 + 1 ≤ 1099511627776 := by omega
    refine region_drawL g (0 + 32 + 1) 1 21 [0, 0, 1, 0, 0] (fun W => Grew w W ∧ BoxN w.heap.size W ∧ BoxN b4 W) (fun b => b = g ∨ b = w.heap.size)
      [prV IsIns, prV (fun v => v = .pointer (some ⟨g, 0, none⟩)), prV (IsNat 10), prT, prV IsInt]
      (by kernel_rfl) rfl (by kernel_rfl) (by kernel_rfl) ⟨grew_d G3, hZ3.drew, hB3.drew⟩ HP3.out ⟨?_, ?_, ?_, ?_, ?_, trivial⟩ ?_
    · exact ds_loadN b4 5 rfl (by kernel_rfl) rfl (fun W h => h.2.2) (fun _ _ h => h)
    · exact ds_move 4 _ rfl (by kernel_rfl) rfl (fun _ => rfl)
    · exact ds_pick 19 1 10 (fun _ _ => by kernel_rfl) ⟨⟨⟨1, .data⟩, by simp, rfl, by kernel_rfl⟩, by kernel_rfl⟩ (fun _ _ h => h) rfl hPP (by omega) (fun _ _ h => h) hJC (.inl rfl)
    · exact ds_store8N w.heap.size 2 18 0 rfl (by kernel_rfl) rfl ⟨⟨⟨0, .data⟩, by simp, rfl, by kernel_rfl⟩, by kernel_rfl⟩ (fun _ _ h => h) (fun W h => h.2.1) (fun W W' y0 y1 y2 y3 y4 y5 y6 y7 h hb hc => ⟨h.1.trans (hc.belowB h.1.size (fun k hk => by omega)), ⟨_, _, _, _, _, _, _, _, hb⟩, h.2.2.chg hc (fun e => n24 e.symm)⟩) (by omega) (.inr rfl) (fun _ _ => trivial)
    · exact ds_assign 20 2 rfl ⟨⟨⟨2, .data⟩, by simp, rfl, by kernel_rfl⟩, by kernel_rfl⟩ (fun _ _ h => isInt_of_nat h)
    · rintro vs w5 ⟨hG, hZ, hB⟩ hr5 hR
      obtain ⟨pc, hv3⟩ : IsInt (vs 4) := hR 4 3 (by kernel_rfl)
      clear hR hr5
      have HG := Lib.hid hG
      have lz := hZ.lt
      have fz := hZ.fz
      obtain ⟨u0, u1, u2, u3, u4, u5, u6, u7, c0, c1, c2, c3, c4, c5, c6, c7⟩ := hZ.all
      clear hG hB hZ
      simp only [putAll, Act.put, List.setIfInBounds_toArray, List.set_cons_zero, List.set_cons_succ]
      go_wp2
      refine bodyPost_ret (by simp [results, Try.results33, go_sem, c0, c1, c2, c3, c4, c5, c6, c7]; try rfl) rfl ?_
      exact ⟨_, _, by rw [hv3], ⟨_, _, _, _, _, _, _, _, rfl⟩, HG.out⟩
  · skip
    go_wp2_with fail
    have hPP : 0 + 32 + 1 + 1 ≤ 1099511627776 := by omega
    refine region_drawL g (0 + 32 + 1) 1 21 [0, 0, 0, 1, 0, 0, 0, 0] (fun W => Grew w W ∧ BoxN w.heap.size W ∧ BoxN b4 W) (fun b => b = g ∨ b = w.heap.size)
      [prV IsIns, prSl 3, prV (fun v => v = .pointer (some ⟨g, 0, none⟩)), prV (IsNat 3), prPt, prV IsInt, prT, prV IsInt]
      (by kernel_rfl) rfl (by kernel_rfl) (by kernel_rfl) ⟨grew_d G3, hZ3.drew, hB3.drew⟩ HP3.out ⟨?_, ?_, ?_, ?_, ?_, ?_, ?_, ?_, trivial⟩ ?_
    · exact ds_loadN b4 5 rfl (by kernel_rfl) rfl (fun W h => h.2.2) (fun _ _ h => h)
    · exact ds_lit 3 [-1, 10, 9223372036854775807] (fun a W => by kernel_rfl) (fun _ _ h => h) hJA hFJ
    · exact ds_move 4 _ rfl (by kernel_rfl) rfl (fun _ => rfl)
    · exact ds_pick 14 2 3 (fun _ _ => by kernel_rfl) ⟨⟨⟨2, .data⟩, by simp, rfl, by kernel_rfl⟩, by kernel_rfl⟩ (fun _ _ h => h) rfl hPP (by omega) (fun _ _ h => h) hJC (.inl rfl)
    · exact ds_index 13 15 1 3 3 rfl ⟨⟨⟨1, .data⟩, by simp, rfl, by kernel_rfl⟩, by kernel_rfl⟩ ⟨⟨⟨3, .data⟩, by simp, rfl, by kernel_rfl⟩, by kernel_rfl⟩ (fun _ _ h => h) (fun _ _ h => h) (by omega) (by omega) (fun _ _ h => h)
    · exact ds_load 16 4 rfl ⟨⟨⟨4, .data⟩, by simp, rfl, by kernel_rfl⟩, by kernel_rfl⟩ (fun _ _ h => h) (fun _ _ h => h)
    · exact ds_store8N w.heap.size 2 12 0 rfl (by kernel_rfl) rfl ⟨⟨⟨0, .data⟩, by simp, rfl, by kernel_rfl⟩, by kernel_rfl⟩ (fun _ _ h => h) (fun W h => h.2.1) (fun W W' y0 y1 y2 y3 y4 y5 y6 y7 h hb hc => ⟨h.1.trans (hc.belowB h.1.size (fun k hk => by omega)), ⟨_, _, _, _, _, _, _, _, hb⟩, h.2.2.chg hc (fun e => n24 e.symm)⟩) (by omega) (.inr rfl) (fun _ _ => trivial)
    · exact ds_assign 17 5 rfl ⟨⟨⟨5, .data⟩, by simp, rfl, by kernel_rfl⟩, by kernel_rfl⟩ (fun _ _ h => h)
    · rintro vs w5 ⟨hG, hZ, hB⟩ hr5 hR
      obtain ⟨pc, hv3⟩ : IsInt (vs 7) := hR 7 3 (by kernel_rfl)
      clear hR hr5
      have HG := Lib.hid hG
      have lz := hZ.lt
      have fz := hZ.fz
      obtain ⟨u0, u1, u2, u3, u4, u5, u6, u7, c0, c1, c2, c3, c4, c5, c6, c7⟩ := hZ.all
      clear hG hB hZ
      simp only [putAll, Act.put, List.setIfInBounds_toArray, List.set_cons_zero, List.set_cons_succ]
      go_wp2
      refine bodyPost_ret (by simp [results, Try.results33, go_sem, c0, c1, c2, c3, c4, c5, c6, c7]; try rfl) rfl ?_
      exact ⟨_, _, by rw [hv3], ⟨_, _, _, _, _, _, _, _, rfl⟩, HG.out⟩
end Go.Proofs.Ytmcfengnihomcaa

/-
  DERIVED: THE SHELF's CONTRACTS AT THIS DUMP, IN PLAIN WORDS (tools/lay-plain.mjs out of 'TryShelf.lean', which tools/lay-shelf.mjs wrote): THE SAME DECLARATIONS UNDER THE SAME NAMES: 'import', 'namespace', 'open', 'def', 'theorem' AND NOTHING ELSE: no command of the shelf's: FOR A HAND-IN. Each laying: the table of numbers ('.._ren') and one theorem, a field a fact of the dump's own or the kernel's comparison; each contract: ONE APPLICATION.
-/
namespace Go.Proofs
open Go.Shelf
def Try.lays128_ren : Go.Shelf.Ren := ⟨fun | 128 => 124 | n => n, fun | 51 => 153 | 3 => 3 | 4 => 4 | 46 => 123 | 5 => 5 | 9 => 9 | n => n, fun | n => n⟩
theorem Try.lays128 : Go.Proofs.Lays.n128 Try.prog Try.lays128_ren := {
  mixed := by kernel_rfl
  f128 := Try.func124.trans (congrArg some (by kernel_rfl))
  t3 := Try.underlying3
  a3 := Try.isAgg3
  z3 := Try.sizeOf3
  v3 := Try.zeroValue3
  t4 := Try.underlying4
  a4 := Try.isAgg4
  z4 := Try.sizeOf4
  v4 := Try.zeroValue4
  t5 := Try.underlying5
  a5 := Try.isAgg5
  z5 := Try.sizeOf5
  v5 := Try.zeroValue5
  t9 := Try.underlying9
  a9 := Try.isAgg9
  z9 := Try.sizeOf9
  v9 := Try.zeroValue9
  t46 := Try.underlying123
  a46 := Try.isAgg123
  z46 := Try.sizeOf123
  v46 := Try.zeroValue123
  t51 := Try.underlying153
  a51 := Try.isAgg153
  z51 := Try.sizeOf153
  v51 := Try.zeroValue153 }
/-- bits.Len32: "Len32 returns the minimum number of bits required to represent x; the result is 0 for x == 0.": IT RETURNS 'Lib.bitLen x'; the world is as it was. ('h0', 'h1': x is a uint32.) (LAID: no walk: one application.) -/
theorem Try.bits_Len32 (x : Int) (w : World) (h0 : 0 ≤ x) (h1 : x ≤ 4294967295) :
    Calls Try.prog 124 #[.int .u32 x] w fun e w' => e = .returned (.int .i64 (Lib.bitLen x.toNat)) ∧ w' = w := Any.bits_Len32 Try.lays128 x w h0 h1
def Try.lays125_ren : Go.Shelf.Ren := ⟨fun | 125 => 97 | 128 => 124 | 129 => 125 | n => n, fun | 46 => 123 | 3 => 3 | 51 => 153 | 53 => 155 | 4 => 4 | 5 => 5 | 9 => 9 | n => n, fun | n => n⟩
theorem Try.lays125 : Go.Proofs.Lays.n125 Try.prog Try.lays125_ren := {
  mixed := by kernel_rfl
  f125 := Try.func97.trans (congrArg some (by kernel_rfl))
  f128 := Try.func124.trans (congrArg some (by kernel_rfl))
  f129 := Try.func125.trans (congrArg some (by kernel_rfl))
  t3 := Try.underlying3
  a3 := Try.isAgg3
  z3 := Try.sizeOf3
  v3 := Try.zeroValue3
  t4 := Try.underlying4
  a4 := Try.isAgg4
  z4 := Try.sizeOf4
  v4 := Try.zeroValue4
  t5 := Try.underlying5
  a5 := Try.isAgg5
  z5 := Try.sizeOf5
  v5 := Try.zeroValue5
  t9 := Try.underlying9
  a9 := Try.isAgg9
  z9 := Try.sizeOf9
  v9 := Try.zeroValue9
  t46 := Try.underlying123
  a46 := Try.isAgg123
  z46 := Try.sizeOf123
  v46 := Try.zeroValue123
  t51 := Try.underlying153
  a51 := Try.isAgg153
  z51 := Try.sizeOf153
  v51 := Try.zeroValue153
  t53 := Try.underlying155
  a53 := Try.isAgg155
  z53 := Try.sizeOf155
  v53 := Try.zeroValue155 }
/-- bits.Len: "Len returns the minimum number of bits required to represent x; the result is 0 for x == 0.": IT RETURNS 'Lib.bitLen x'; the world is as it was. (A uint has 64 bits in the model.) ITS CALLEE bits.Len64 IS MET BY ITS OWN CONTRACT OFF THE SHELF (lay that first). (LAID: no walk: one application.) -/
theorem Try.bits_Len (x : Int) (w : World) (h0 : 0 ≤ x) (h1 : x ≤ 18446744073709551615) :
    Calls Try.prog 97 #[.int .u64 x] w fun e w' => e = .returned (.int .i64 (Lib.bitLen x.toNat)) ∧ w' = w := Any.bits_Len Try.lays125 x w h0 h1
def Try.lays129_ren : Go.Shelf.Ren := ⟨fun | 129 => 125 | n => n, fun | 53 => 155 | 3 => 3 | 4 => 4 | 46 => 123 | 5 => 5 | 9 => 9 | n => n, fun | n => n⟩
theorem Try.lays129 : Go.Proofs.Lays.n129 Try.prog Try.lays129_ren := {
  mixed := by kernel_rfl
  f129 := Try.func125.trans (congrArg some (by kernel_rfl))
  t3 := Try.underlying3
  a3 := Try.isAgg3
  z3 := Try.sizeOf3
  v3 := Try.zeroValue3
  t4 := Try.underlying4
  a4 := Try.isAgg4
  z4 := Try.sizeOf4
  v4 := Try.zeroValue4
  t5 := Try.underlying5
  a5 := Try.isAgg5
  z5 := Try.sizeOf5
  v5 := Try.zeroValue5
  t9 := Try.underlying9
  a9 := Try.isAgg9
  z9 := Try.sizeOf9
  v9 := Try.zeroValue9
  t46 := Try.underlying123
  a46 := Try.isAgg123
  z46 := Try.sizeOf123
  v46 := Try.zeroValue123
  t53 := Try.underlying155
  a53 := Try.isAgg155
  z53 := Try.sizeOf155
  v53 := Try.zeroValue155 }
/-- bits.Len64: "Len64 returns the minimum number of bits required to represent x; the result is 0 for x == 0.": IT RETURNS 'Lib.bitLen x'; the world is as it was. ('h0', 'h1': x is a uint64.) (LAID: no walk: one application.) -/
theorem Try.bits_Len64 (x : Int) (w : World) (h0 : 0 ≤ x) (h1 : x ≤ 18446744073709551615) :
    Calls Try.prog 125 #[.int .u64 x] w fun e w' => e = .returned (.int .i64 (Lib.bitLen x.toNat)) ∧ w' = w := Any.bits_Len64 Try.lays129 x w h0 h1
def Try.lays189_ren : Go.Shelf.Ren := ⟨fun | 189 => 67 | 125 => 97 | 257 => 96 | 128 => 124 | 129 => 125 | 294 => 115 | 295 => 116 | 296 => 117 | 297 => 118 | 298 => 119 | 299 => 120 | 216 => 121 | 300 => 122 | 301 => 123 | 328 => 133 | 329 => 134 | 330 => 135 | 331 => 136 | 332 => 137 | 215 => 138 | 343 => 140 | n => n, fun | 28 => 26 | 3 => 3 | 46 => 123 | 0 => 0 | 51 => 153 | 53 => 155 | 4 => 4 | 183 => 146 | 182 => 145 | 131 => 150 | 5 => 5 | 9 => 9 | 218 => 162 | 222 => 166 | 228 => 168 | 229 => 169 | n => n, fun | n => n⟩
theorem Try.lays189 : Go.Proofs.Lays.n189 Try.prog Try.lays189_ren := {
  mixed := by kernel_rfl
  f125 := Try.func97.trans (congrArg some (by kernel_rfl))
  f128 := Try.func124.trans (congrArg some (by kernel_rfl))
  f129 := Try.func125.trans (congrArg some (by kernel_rfl))
  f189 := Try.func67.trans (congrArg some (by kernel_rfl))
  f215 := Try.func138.trans (congrArg some (by kernel_rfl))
  f216 := Try.func121.trans (congrArg some (by kernel_rfl))
  f257 := Try.func96.trans (congrArg some (by kernel_rfl))
  f294 := Try.func115.trans (congrArg some (by kernel_rfl))
  f295 := Try.func116.trans (congrArg some (by kernel_rfl))
  f296 := Try.func117.trans (congrArg some (by kernel_rfl))
  f297 := Try.func118.trans (congrArg some (by kernel_rfl))
  f298 := Try.func119.trans (congrArg some (by kernel_rfl))
  f299 := Try.func120.trans (congrArg some (by kernel_rfl))
  f300 := Try.func122.trans (congrArg some (by kernel_rfl))
  f301 := Try.func123.trans (congrArg some (by kernel_rfl))
  f328 := Try.func133.trans (congrArg some (by kernel_rfl))
  f329 := Try.func134.trans (congrArg some (by kernel_rfl))
  f330 := Try.func135.trans (congrArg some (by kernel_rfl))
  f331 := Try.func136.trans (congrArg some (by kernel_rfl))
  f332 := Try.func137.trans (congrArg some (by kernel_rfl))
  f343 := Try.func140.trans (congrArg some (by kernel_rfl))
  t0 := Try.underlying0
  a0 := Try.isAgg0
  z0 := Try.sizeOf0
  v0 := Try.zeroValue0
  t3 := Try.underlying3
  a3 := Try.isAgg3
  z3 := Try.sizeOf3
  v3 := Try.zeroValue3
  t4 := Try.underlying4
  a4 := Try.isAgg4
  z4 := Try.sizeOf4
  v4 := Try.zeroValue4
  t5 := Try.underlying5
  a5 := Try.isAgg5
  z5 := Try.sizeOf5
  v5 := Try.zeroValue5
  t9 := Try.underlying9
  a9 := Try.isAgg9
  z9 := Try.sizeOf9
  v9 := Try.zeroValue9
  t28 := Try.underlying26
  a28 := Try.isAgg26
  z28 := Try.sizeOf26
  v28 := Try.zeroValue26
  t46 := Try.underlying123
  a46 := Try.isAgg123
  z46 := Try.sizeOf123
  v46 := Try.zeroValue123
  t51 := Try.underlying153
  a51 := Try.isAgg153
  z51 := Try.sizeOf153
  v51 := Try.zeroValue153
  t53 := Try.underlying155
  a53 := Try.isAgg155
  z53 := Try.sizeOf155
  v53 := Try.zeroValue155
  t131 := Try.underlying150
  a131 := Try.isAgg150
  z131 := Try.sizeOf150
  v131 := Try.zeroValue150
  t182 := Try.underlying145
  a182 := Try.isAgg145
  z182 := Try.sizeOf145
  v182 := Try.zeroValue145
  t183 := Try.underlying146
  a183 := Try.isAgg146
  z183 := Try.sizeOf146
  v183 := Try.zeroValue146
  t218 := Try.underlying162
  a218 := Try.isAgg162
  z218 := Try.sizeOf162
  v218 := Try.zeroValue162
  t222 := Try.underlying166
  a222 := Try.isAgg166
  z222 := Try.sizeOf166
  v222 := Try.zeroValue166
  t228 := Try.underlying168
  a228 := Try.isAgg168
  z228 := Try.sizeOf168
  v228 := Try.zeroValue168
  t229 := Try.underlying169
  a229 := Try.isAgg169
  z229 := Try.sizeOf169
  v229 := Try.zeroValue169 }
open Go.Sort Go.RowKit in
theorem Try.slices_Sort_int (blk off cap : Nat) (zs : List Int) (w : World) (hH : Holds (Value.int .i64) w blk off zs.toArray) (hblk : blk < w.heap.size) (hsz : zs.length < 4611686018427387904) :
    Calls Try.prog 67 #[.slice (some ⟨blk, off, none⟩) zs.length cap] w fun e w' =>
      e = .returned (.tuple #[]) ∧ ∃ n os, w' = grow (putRow (Value.int .i64) (Sort.ahead w n) blk off (zs.mergeSort fun x y => decide (x ≤ y)).toArray) os := Any.slices_Sort_int Try.lays189 blk off cap zs w hH hblk hsz
def Try.laysNm220_ren : Go.Shelf.Ren := ⟨fun | 20 => 68 | n => n, fun | 22 => 26 | 3 => 3 | 4 => 4 | 0 => 0 | n => n, fun | n => n⟩
theorem Try.laysNm220 : Go.Proofs.Lays2.n20 Try.prog Try.laysNm220_ren := {
  mixed := by kernel_rfl
  f20 := Try.func68.trans (congrArg some (by kernel_rfl))
  t0 := Try.underlying0
  a0 := Try.isAgg0
  z0 := Try.sizeOf0
  v0 := Try.zeroValue0
  t3 := Try.underlying3
  a3 := Try.isAgg3
  z3 := Try.sizeOf3
  v3 := Try.zeroValue3
  t4 := Try.underlying4
  a4 := Try.isAgg4
  z4 := Try.sizeOf4
  v4 := Try.zeroValue4
  t22 := Try.underlying26
  a22 := Try.isAgg26
  z22 := Try.sizeOf26
  v22 := Try.zeroValue26
  i3 := by kernel_rfl }
open Go.RowKit Go.Lib Go.Sort in
/-- slices.Compact at []int, over an array: the library's two loops are walked. (LAID: no walk: one application.) -/
theorem Try.slices_Compact_int_arr (blk off cap : Nat) (d : Array Int) (w : World) (hH : Holds encI w blk off d) (hsz : d.size ≤ 9223372036854775807) (hcap : d.size ≤ cap) :
    Calls Try.prog 68 #[.slice (some ⟨blk, off, none⟩) d.size cap] w fun e w' => e = .returned (.slice (some ⟨blk, off, none⟩) (compactUpTo d d.size).length cap) ∧ ∃ q, w' = putRow encI (Sort.ahead w q) blk off (compactUpTo d d.size ++ List.replicate (d.size - (compactUpTo d d.size).length) 0).toArray := Any.slices_Compact_int_arr Try.laysNm220 blk off cap d w hH hsz hcap
open Go.RowKit Go.Lib Go.Sort in
/-- slices.Compact at []int: "Compact replaces consecutive runs of equal elements with a single copy. This is like the uniq command found on Unix. Compact modifies the contents of the slice s and returns the modified slice, which may have a smaller length. Compact zeroes the elements between the new length and the original length. The result preserves the nilness of s.": IT RETURNS THE SLICE CUT TO 'Lib.compact zs'; ITS CELLS HOLD 'Lib.compact zs', THEN ZERO VALUES up to the old length; all else is as it was, but for the count of draws. IN THE WORDS OF slices.Sort's CONTRACT ('Holds', 'putRow'): so the everyday 'slices.Sort(xs); xs = slices.Compact(xs)' goes from the one contract to the other. It asks 'zs.length ≤ cap' (every slice's: the reslicing 's[:k]' looks at it). Length 0, nil: '.._empty'. (LAID: no walk: one application.) -/
theorem Try.slices_Compact_int (blk off cap : Nat) (zs : List Int) (w : World) (hH : Holds (Value.int .i64) w blk off zs.toArray) (hsz : zs.length ≤ 9223372036854775807) (hcap : zs.length ≤ cap) :
    Calls Try.prog 68 #[.slice (some ⟨blk, off, none⟩) zs.length cap] w fun e w' => e = .returned (.slice (some ⟨blk, off, none⟩) (Lib.compact zs).length cap) ∧ ∃ q, w' = putRow (Value.int .i64) (Sort.ahead w q) blk off (Lib.compact zs ++ List.replicate (zs.length - (Lib.compact zs).length) 0).toArray := Any.slices_Compact_int Try.laysNm220 blk off cap zs w hH hsz hcap
open Go.RowKit Go.Lib Go.Sort in
/-- The same at a slice of length 0, a nil one too: it comes back as it is. (LAID: no walk: one application.) -/
theorem Try.slices_Compact_int_empty (a : Option Addr) (cap : Nat) (w : World) :
    Calls Try.prog 68 #[.slice a 0 cap] w fun e w' => e = .returned (.slice a 0 cap) ∧ w' = w := Any.slices_Compact_int_empty Try.laysNm220 a cap w
def Try.laysNm237_ren : Go.Shelf.Ren := ⟨fun | 37 => 138 | n => n, fun | 3 => 3 | 4 => 4 | n => n, fun | n => n⟩
theorem Try.laysNm237 : Go.Proofs.Lays2.n37 Try.prog Try.laysNm237_ren := {
  mixed := by kernel_rfl
  f37 := Try.func138.trans (congrArg some (by kernel_rfl))
  t3 := Try.underlying3
  a3 := Try.isAgg3
  z3 := Try.sizeOf3
  v3 := Try.zeroValue3
  t4 := Try.underlying4
  a4 := Try.isAgg4
  z4 := Try.sizeOf4
  v4 := Try.zeroValue4 }
open Go.RowKit Go.Lib in
/-- cmp.isNaN[int]: 'x != x': false. (LAID: no walk: one application.) -/
theorem Try.cmp_isNaN_int2 (x : Int) (w : World) :
    Calls Try.prog 138 #[.int .i64 x] w fun e w' => e = .returned (.bool false) ∧ w' = w := Any.cmp_isNaN_int2 Try.laysNm237 x w
def Try.laysNm231_ren : Go.Shelf.Ren := ⟨fun | 31 => 121 | 37 => 138 | n => n, fun | 3 => 3 | 4 => 4 | n => n, fun | n => n⟩
theorem Try.laysNm231 : Go.Proofs.Lays2.n31 Try.prog Try.laysNm231_ren := {
  mixed := by kernel_rfl
  f31 := Try.func121.trans (congrArg some (by kernel_rfl))
  f37 := Try.func138.trans (congrArg some (by kernel_rfl))
  t3 := Try.underlying3
  a3 := Try.isAgg3
  z3 := Try.sizeOf3
  v3 := Try.zeroValue3
  t4 := Try.underlying4
  a4 := Try.isAgg4
  z4 := Try.sizeOf4
  v4 := Try.zeroValue4 }
open Go.RowKit Go.Lib in
/-- cmp.Less[int]: "Less reports whether x is less than y.": 'x < y'; the world is as it was. (LAID: no walk: one application.) -/
theorem Try.cmp_Less_int2 (x y : Int) (w : World) :
    Calls Try.prog 121 #[.int .i64 x, .int .i64 y] w fun e w' => e = .returned (.bool (decide (x < y))) ∧ w' = w := Any.cmp_Less_int2 Try.laysNm231 x y w
open Go.RowKit Go.Lib Go.Sort in
/-- slices.Compact at []int, of an argument: the slice cut to 'Lib.compact (elements)'; the n cells hold that, then zeros. (LAID: no walk: one application.) -/
theorem Try.slices_Compact_int_cells (b off n c : Nat) (zs : List Int) (w : World) (hz : n ≤ zs.length) (hbig : n ≤ 9223372036854775807) (hcap : n ≤ c) (hc : ∀ j, j < zs.length → w.cell? ⟨b, off + j, none⟩ = some (.int .i64 (zs.getD j 0))) (hf : ∀ j, j < n → w.frozen? ⟨b, off + j, none⟩ = false) :
    Calls Try.prog 68 #[.slice (some ⟨b, off, none⟩) n c] w fun e w' => e = .returned (.slice (some ⟨b, off, none⟩) (Lib.compact (zs.take n)).length c) ∧ ∃ q, w' = (w.drewN q).setCells b off ((Lib.compact (zs.take n) ++ List.replicate (n - (Lib.compact (zs.take n)).length) 0).map (Value.int .i64)) := Any.slices_Compact_int_cells Try.laysNm220 b off n c zs w hz hbig hcap hc hf
open Go.RowKit Go.Sort in
/-- .. and plain. (LAID: no walk: one application.) -/
theorem Try.slices_Sort_int_none (p : Option Addr) (cap : Nat) (w : World) :
    Calls Try.prog 67 #[.slice p 0 cap] w fun e w' => e = .returned (.tuple #[]) ∧ w' = w := Any.slices_Sort_int_none Try.lays189 p cap w
def Try.sortedI_ren : Go.Shelf.Ren := ⟨fun | 6 => 83 | 8 => 109 | 9 => 67 | 11 => 131 | 13 => 97 | 12 => 96 | 23 => 124 | 24 => 125 | 14 => 115 | 15 => 116 | 16 => 117 | 17 => 118 | 18 => 119 | 19 => 120 | 20 => 121 | 21 => 122 | 22 => 123 | 25 => 133 | 26 => 134 | 27 => 135 | 28 => 136 | 29 => 137 | 30 => 138 | 31 => 140 | n => n, fun | 26 => 3 | 28 => 97 | 24 => 26 | 0 => 0 | 3 => 3 | 37 => 123 | 48 => 153 | 50 => 155 | 4 => 4 | 40 => 146 | 39 => 145 | 45 => 150 | 5 => 5 | 9 => 9 | 51 => 162 | 55 => 166 | 57 => 168 | 58 => 169 | 33 => 76 | n => n, fun | n => n⟩
theorem Try.sortedI : Go.Proofs.SlLaysZI.n6 Try.prog Try.sortedI_ren := {
  mixed := by kernel_rfl
  f6 := ⟨Try.f83.name, by decide, Try.func83.trans (congrArg some (by kernel_rfl))⟩
  f8 := ⟨Try.f109.name, by decide, Try.func109.trans (congrArg some (by kernel_rfl))⟩
  f11 := ⟨Try.f131.name, by decide, Try.func131.trans (congrArg some (by kernel_rfl))⟩
  t0 := Try.underlying0
  a0 := Try.isAgg0
  z0 := Try.sizeOf0
  v0 := Try.zeroValue0
  t24 := Try.underlying26
  a24 := Try.isAgg26
  z24 := Try.sizeOf26
  v24 := Try.zeroValue26
  t26 := Try.underlying3
  a26 := Try.isAgg3
  z26 := Try.sizeOf3
  v26 := Try.zeroValue3
  t28 := Try.underlying97
  a28 := Try.isAgg97
  z28 := Try.sizeOf97
  v28 := Try.zeroValue97
  i26 := by kernel_rfl }
end Go.Proofs

/- Slices of numbers: copied, compared, measured, marked, sorted, made compact. No condition. -/
namespace Go.Proofs.Ytmcfengnihomcaa
open Go.RowKit
set_option linter.unusedVariables false
attribute [local go_sem] ext_cell ext_frozen ext_lt ext_le ext_le1 lt_s2 lt_s3 lt_s4 lt_s5 lt_s6 ext_lt1 ext_lt2 ext_lt3

theorem intInfo_2 : (Try.prog.info? 3).map (fun i => (i.zero, i.size, i.bytes)) = some (some (.int .i64 0), 1, 8) := by kernel_rfl
theorem intEl_2 : El Try.prog 26 3 (.int .i64 0) 1 8 := El.mk' intInfo_2 Try.underlying26 rfl (by omega)
theorem int_one (zs : List Int) : ∀ u ∈ ints .i64 zs, u.oneCell' = true := by
  intro u hu
  obtain ⟨x, _, rfl⟩ := List.mem_map.1 hu
  rfl


theorem eqIntS (a : Option Addr) (n cap : Nat) (zs : List Int) (a' : Option Addr) (n' cap' : Nat) (ys : List Int) (w : World) (hr : Rd w a n 1 (ints .i64 zs)) (hr' : Rd w a' n' 1 (ints .i64 ys))
    (hm : n ≤ 140737488351232) (hm' : n' ≤ 140737488351232) :
    Calls Try.prog 17 #[.slice a n cap, .slice a' n' cap'] w fun e w' => e = .returned (.bool (decide (zs = ys))) ∧ ∃ q, w' = w.drewN q := by
  have hl := hr.len1
  have hl' := hr'.len1
  have HR := Lib.hid hr; clear hr
  have HR' := Lib.hid hr'; clear hr'
  have HL := Lib.hid hl; clear hl
  have HL' := Lib.hid hl'; clear hl'
  by_cases hn : n = n'
  · subst hn
    go_enter Try.func17, Try.ntmps17
    go_wp2
    go_loopw [5] (fun i wr => ∃ k : Nat, k ≤ n ∧ i = .int .i64 k ∧ (∃ q, wr = w.drewN q) ∧ zs.take k = ys.take k) (fun i _ => n - (Go.RowKit.intOf i).toNat)
    case atStart => exact ⟨0, Nat.zero_le _, rfl, ⟨0, rfl⟩, by simp⟩
    case round =>
      obtain ⟨k, hk, rfl, ⟨q, rfl⟩, he⟩ := hrel
      have HE := Lib.hid he; clear he
      by_cases hlt : k < n
      · obtain ⟨b, off, x, rfl, hx, hcell⟩ := HR.out.at1 hlt
        obtain ⟨b', off', y, rfl, hy, hcell'⟩ := HR'.out.at1 hlt
        have HX := Lib.hid hx; clear hx
        have HY := Lib.hid hy; clear hy
        by_cases hxy : x = y
        · subst hxy
          go_wp2
          go_quiet (fail)
          go_wp2
          go_roundw
          case rel => exact ⟨k + 1, by omega, by go_num, ⟨_, rfl⟩, by rw [take_get HX.out, take_get HY.out, HE.out]⟩
          case measure => simp [Go.RowKit.intOf]; omega
        · have hb : (x == y) = false := by simp [hxy]
          have hb' : (x != y) = true := by simp [hxy]
          have hfin : decide (zs = ys) = false := by
            apply decide_eq_false
            intro e
            have h1 := HX.out
            rw [e, HY.out] at h1
            exact hxy (Option.some.inj h1).symm
          have HF := Lib.hid hfin; clear hfin hxy
          go_wp2
          go_quiet (fail)
          go_wp2
          go_ret
          exact ⟨by rw [HF.out]; rfl, _, World.drewN_drewN _ _ _⟩
      · go_wp2
        go_ret
        have : zs = ys := by
          have h := HE.out
          rwa [List.take_of_length_le (by have := HL.out; omega), List.take_of_length_le (by have := HL'.out; omega)] at h
        exact ⟨by rw [decide_eq_true this]; rfl, _, rfl⟩
  · have hfin : decide (zs = ys) = false := by
      apply decide_eq_false
      intro e
      have h1 := HL.out
      rw [e, HL'.out] at h1
      exact hn h1.symm
    have hb : ((n : Int) != (n' : Int)) = true := by simp; omega
    have HF := Lib.hid hfin; clear hfin hn
    go_enter Try.func17, Try.ntmps17
    go_wp2
    go_ret
    exact ⟨by rw [HF.out]; rfl, 0, rfl⟩

set_option maxHeartbeats 4000000 in
theorem markIntS (a : Option Addr) (n cap : Nat) (k0 : Nat) (cs : List Value) (B : Nat) (w : World) (ho : w.ownsRow B 3 1 (.slice a n cap) n cs) (hk0 : k0 ≤ 1099511627776) (hm : n ≤ 1099511627776) :
    Calls Try.prog 20 #[.slice a n cap, .int .i64 k0] w fun e w' => e = .returned (.int .i64 ((k0 + n * 1 : Nat) : Int)) ∧
      w'.ownsRow B 3 1 (.slice a n cap) n (markI k0 (n * 1)) ∧ Chg (fun b => (Value.slice a n cap).ownBlock = some b) w w' := by
  have HO := Lib.hid ho; clear ho
  go_enter Try.func20, Try.ntmps20
  go_wp2
  go_loopw [1, 5] (fun kk i wr => ∃ k K : Nat, k ≤ n ∧ K = k0 + k * 1 ∧ i = .int .i64 k ∧ kk = .int .i64 K ∧ Chg (fun b => (Value.slice a n cap).ownBlock = some b) w wr ∧
    ∃ ys, wr.ownsRow B 3 1 (.slice a n cap) n ys ∧ ∀ j, j < k * 1 → ys[j]? = (markI k0 (n * 1))[j]?) (fun _ i _ => n - (Go.RowKit.intOf i).toNat)
  case atStart => exact ⟨0, k0, Nat.zero_le _, by omega, rfl, rfl, Chg.refl _ _, _, HO.out, fun j hj => absurd hj (by omega)⟩
  case round =>
    obtain ⟨k, K, hk, hK, rfl, rfl, hg, ys, how, hys⟩ := hrel
    have hK1 : K ≤ 11000000000000 := by omega
    have HK := Lib.hid hK; clear hK
    by_cases hlt : k < n
    · obtain ⟨g, rfl⟩ : ∃ g, a = some ⟨g, 0, none⟩ := by
        rcases how.2 with ⟨h1, h2⟩ | ⟨g, cap', cur, h1, _⟩
        · omega
        · simp only [Value.slice.injEq] at h1
          exact ⟨g, h1.1⟩
      have HH := Lib.hid hys; clear hys
      have HG := Lib.hid hg; clear hg
      have HW := Lib.hid how; clear how
      obtain ⟨y0, e0⟩ := own_some HW.out (j := k * 1) (by omega)
      rw [Nat.mul_one] at e0
      have f0 := fun j => HW.out.frozenAt j
      go_wp2
      go_roundw
      case rel =>
        have hK := HK.out
        rw [show (⟨g, k, none⟩ : Addr) = ⟨g, k * 1, none⟩ from by rw [Nat.mul_one]]
        obtain ⟨ho', hg'⟩ := own_sets ([.int .i64 (K : Int)]) _ _ (k * 1) HW.out
        refine ⟨k + 1, K + 1, by omega, by omega, by go_num, by go_num, (HG.out.trans (Chg.of_grownBy hg') (fun _ _ h => h) (fun i _ h => h)), _, ho', mark_step HW.out.1 (by omega) _ rfl (fun r hr => ?_) HH.out⟩
        match r, hr with
          | 0, _ => rw [← hK]; rfl
      case measure => simp [Go.RowKit.intOf]; omega
    · obtain rfl : k = n := by omega
      have hfin := mark_all how.1 hys
      subst hfin
      clear hys
      have HW := Lib.hid how; clear how
      have HG := Lib.hid hg; clear hg
      go_wp2
      go_ret
      exact ⟨by rw [HK.out]; rfl, HW.out, HG.out⟩


set_option maxHeartbeats 2000000 in
theorem heldIntS (a : Option Addr) (n cap : Nat) (k0 : Nat) (w : World) (hr : Rd w a n 1 (markI k0 (n * 1))) (hk0 : k0 ≤ 1099511627776) (hm : n ≤ 1099511627776) :
    Calls Try.prog 21 #[.slice a n cap, .int .i64 k0] w fun e w' => e = .returned (.int .i64 ((k0 + n * 1 : Nat) : Int)) ∧ w = w' := by
  have HR := Lib.hid hr; clear hr
  go_enter Try.func21, Try.ntmps21
  go_wp2
  go_loop [1, 5] (fun kk i => ∃ k K : Nat, k ≤ n ∧ K = k0 + k * 1 ∧ i = .int .i64 k ∧ kk = .int .i64 K) (fun _ i => n - (Go.RowKit.intOf i).toNat)
  case atStart => exact ⟨0, k0, Nat.zero_le _, by omega, rfl, rfl⟩
  case round =>
    obtain ⟨k, K, hk, hK, rfl, rfl⟩ := hrel
    have hK1 : K ≤ 11000000000000 := by omega
    have HK := Lib.hid hK; clear hK
    by_cases hlt : k < n
    · obtain ⟨b, off, rfl, hcell⟩ : ∃ b off, a = some ⟨b, off, none⟩ ∧ ∀ j, j < n * 1 → w.cell? ⟨b, off + j, none⟩ = some (.int .i64 ((k0 + j : Nat) : Int)) := by
        rcases HR.out.2 with h0 | ⟨b, off, e, hc⟩
        · have := markI_len k0 (n * 1)
          rw [h0, List.length_nil] at this
          omega
        · exact ⟨b, off, e, fun j hj => hc j _ (markI_get _ _ _ hj)⟩
      have c0 := hcell (k * 1) (by omega)
      rw [show k0 + (k * 1) = K from by have := HK.out; omega] at c0
      clear hcell
      rw [Nat.mul_one] at c0
      go_wp2
      go_round
      case rel => exact ⟨k + 1, K + 1, by omega, by have := HK.out; omega, by go_num, by go_num⟩
      case measure => simp [Go.RowKit.intOf]; omega
    · obtain rfl : k = n := by omega
      go_wp2
      go_ret
      exact ⟨by rw [HK.out]; (first | rfl | simp), rfl⟩



theorem grow_none (w : World) : Go.Sort.grow w #[] = w := by simp [Go.Sort.grow]
/-- The library's sort on a row of the call's own. -/
theorem sortInts (B : Nat) (a : Option Addr) (n cap : Nat) (zs : List Int) (w : World) (ho : w.ownsRow B 3 1 (.slice a n cap) n (ints .i64 zs)) (hn : n ≤ 1099511627776) :
    Calls Try.prog 67 #[.slice a n cap] w fun e w' => e = .returned (.tuple #[]) ∧ w'.ownsRow B 3 1 (.slice a n cap) n (ints .i64 (zs.mergeSort fun x y => decide (x ≤ y))) ∧ Chg (fun b => (Value.slice a n cap).ownBlock = some b) w w' := by
  have hl : zs.length = n := by have := ho.1; simpa [ints] using this
  rcases ho.2 with ⟨hv, hn0⟩ | ⟨g, cap', cur, hv, hbase, hb, h1, h2, h3, h4⟩
  · simp only [Value.slice.injEq] at hv
    obtain ⟨rfl, rfl, rfl⟩ := hv
    have hz : zs = [] := List.eq_nil_of_length_eq_zero hl
    subst hz
    refine (Try.slices_Sort_int_none none 0 w).mono ?_
    rintro e w' ⟨rfl, rfl⟩
    exact ⟨rfl, by simpa using ho, Chg.refl _ _⟩
  · simp only [Value.slice.injEq] at hv
    obtain ⟨rfl, _, rfl⟩ := hv
    subst hl
    rw [Nat.mul_one] at h4
    refine (Try.slices_Sort_int g 0 cap zs w (holds_of_blockI hb h4) (Array.getElem?_eq_some_iff.1 hb).1 (by omega)).mono ?_
    rintro e w' ⟨rfl, nn, os, rfl⟩
    refine ⟨rfl, ownsRow_sortedI (by simp) hbase hb h1 h2 h3, (Chg.of_grownBy (grownBy_sortedI _)).trans (Chg.refl _ _) (fun i _ h => ?_) (fun _ _ h => h)⟩
    simpa [Value.ownBlock] using h
/-- .. and made compact. -/
theorem compactInts (B : Nat) (a : Option Addr) (n cap : Nat) (zs : List Int) (w : World) (ho : w.ownsRow B 3 1 (.slice a n cap) n (ints .i64 zs)) (hn : n ≤ 1099511627776) :
    Calls Try.prog 68 #[.slice a n cap] w fun e w' => ∃ m, m = (Lib.compact zs).length ∧ e = .returned (.slice a m cap) ∧ w'.ownsRow B 3 1 (.slice a m cap) m (ints .i64 (Lib.compact zs)) ∧ Chg (fun b => (Value.slice a n cap).ownBlock = some b) w w' := by
  have hl : zs.length = n := by have := ho.1; simpa [ints] using this
  rcases ho.2 with ⟨hv, hn0⟩ | ⟨g, cap', cur, hv, hbase, hb, h1, h2, h3, h4⟩
  · simp only [Value.slice.injEq] at hv
    obtain ⟨rfl, rfl, rfl⟩ := hv
    have hz : zs = [] := List.eq_nil_of_length_eq_zero hl
    subst hz
    refine (Try.slices_Compact_int_empty none 0 w).mono ?_
    rintro e w' ⟨rfl, rfl⟩
    exact ⟨0, rfl, rfl, ho, Chg.refl _ _⟩
  · simp only [Value.slice.injEq] at hv
    obtain ⟨rfl, _, rfl⟩ := hv
    subst hl
    rw [Nat.mul_one] at h4
    refine (Try.slices_Compact_int g 0 cap zs w (holds_of_blockI hb h4) (by omega) h1).mono ?_
    rintro e w' ⟨rfl, q, rfl⟩
    have hle : (Lib.compact zs).length ≤ zs.length := Lib.compact_length_le zs
    have hw : ∀ d, Go.Sort.putRow (Value.int .i64) (Sort.ahead w q) g 0 d = Go.Sort.grow (Go.Sort.putRow (Value.int .i64) (Sort.ahead w q) g 0 d) #[] := fun d => (grow_none _).symm
    rw [hw]
    have hs := ownsRow_sortedI (w := w) (n := q) (os := #[]) (ss := zs) (ts := Lib.compact zs ++ List.replicate (zs.length - (Lib.compact zs).length) 0) (e := 3) (by simp; omega) hbase hb h1 h2 h3
    refine ⟨_, rfl, rfl, ?_, (Chg.of_grownBy (grownBy_sortedI _)).trans (Chg.refl _ _) (fun i _ h => ?_) (fun _ _ h => h)⟩
    · refine ⟨by simp [ints], .inr ?_⟩
      rcases hs.2 with ⟨hv, _⟩ | ⟨g', cap'', cur', hv, hbase', hb', k1, k2, k3, k4⟩
      · cases hv
      · simp only [Value.slice.injEq, Option.some.injEq, Addr.mk.injEq, and_true, true_and] at hv
        obtain ⟨rfl, rfl⟩ := hv
        refine ⟨g, cap, cur', rfl, hbase, hb', by omega, k2, k3, ?_⟩
        have h5 := congrArg (List.take (Lib.compact zs).length) k4
        rw [List.take_take, Nat.mul_one, Nat.min_eq_left hle] at h5
        rw [Nat.mul_one, h5, List.map_append, List.take_append_of_le_length (by simp), List.take_of_length_le (by simp)]
        rfl
    · simpa [Value.ownBlock] using h

end Go.Proofs.Ytmcfengnihomcaa
/- Rows of numbers as answers: what the laws' walks use of them. No condition. -/
namespace Go.Proofs.Ytmcfengnihomcaa
open Go.RowKit
set_option linter.unusedVariables false

/-- The answer: a row of numbers of the call's own. -/
def RetIs (L : List Int) (w : World) (e : Ending) (w' : World) : Prop := ∃ a c, e = .returned (.slice a L.length c) ∧ w'.ownsRow w.heap.size 3 1 (.slice a L.length c) L.length (ints .i64 L) ∧ Grew w w'
theorem retIs_of {P : Program} {f : FuncId} {args : Array Value} {w : World} {L S : List Int} (h : Calls P f args w fun e w' => RetIs L w e w') (hS : L = S) : Calls P f args w fun e w' => RetIs S w e w' := hS ▸ h
theorem eqIntG (a : Option Addr) (n cap : Nat) (a' : Option Addr) (n' cap' : Nat) (zs ys : List Int) (w : World) (hr : Rd w a n 1 (ints .i64 zs)) (hr' : Rd w a' n' 1 (ints .i64 ys))
    (hm : n ≤ 140737488351232) (hm' : n' ≤ 140737488351232) :
    Calls Try.prog 17 #[.slice a n cap, .slice a' n' cap'] w fun e w' => e = .returned (.bool (decide (zs = ys))) ∧ Grew w w' :=
  (eqIntS a n cap zs a' n' cap' ys w hr hr' hm hm').mono fun e w' ⟨he, q, hq⟩ => ⟨he, by rw [hq]; exact grew_drewN _ q⟩
theorem heldIntG (a : Option Addr) (n cap : Nat) (k0 : Nat) (w : World) (hr : Rd w a n 1 (markI k0 (n * 1))) (hk0 : k0 ≤ 1099511627776) (hm : n ≤ 1099511627776) :
    Calls Try.prog 21 #[.slice a n cap, .int .i64 k0] w fun e w' => e = .returned (.int .i64 ((k0 + n * 1 : Nat) : Int)) ∧ Grew w w' :=
  (heldIntS a n cap k0 w hr hk0 hm).mono fun e w' ⟨he, hw⟩ => ⟨he, by rw [← hw]; exact Below.refl _ _⟩
end Go.Proofs.Ytmcfengnihomcaa
