/- The draws of a step with something wrong, and of a step and its place. No condition. -/
import Derived.Test.YtnjoofpllhbccaaDrN
import Derived.Test.YtnjoofpllhbccaaDrQ
namespace Go.Proofs.Ytnjoofpllhbccaa
open Go.RowKit
set_option linter.unusedVariables false
set_option linter.unusedSimpArgs false
attribute [local go_sem] dg_cell dg_frozen dg_lt dg_lt1 dg_lt2 dg_ne dg_ne1 dg_ne2 dg_new dg_wen lt_s2 lt_s3 lt_s4 lt_s5 lt_s6

theorem Rd.chgN {w w' : World} {a : Option Addr} {n t : Nat} {zs : List Int} (h : Rd w a n 1 (ints .u8 zs)) (hb : BoxN t w) (hc : Chg (fun b => b = t) w w') : Rd w' a n 1 (ints .u8 zs) := by
  refine ⟨h.1, ?_⟩
  rcases h.2 with h2 | ⟨b, off, rfl, h3⟩
  · exact .inl h2
  · refine .inr ⟨b, off, rfl, fun j u hu => ?_⟩
    have h4 := h3 j u hu
    have hbt : ¬ b = t := by
      rintro rfl
      obtain ⟨u0, u1, u2, u3, u4, u5, u6, u7, hb⟩ := hb
      rw [hb.cell] at h4
      simp only [ints, List.getElem?_map, Option.map_eq_some_iff] at hu
      obtain ⟨x, _, rfl⟩ := hu
      rcases hk : off + j with _ | _ | _ | _ | _ | _ | _ | _ | k <;> rw [hk] at h4 <;> simp at h4
    rw [World.cell?_of_block (w := w) (w' := w') (a := ⟨b, off + j, none⟩) (hc.block b (World.block_lt_of_cell? w _ h4) hbt)]
    exact h4
theorem RdLe.chgN {w w' : World} {g P t : Nat} (h : RdLe w g P) (hb : BoxN t w) (hg : ¬ g = t) (hc : Chg (fun b => b = t) w w') : RdLe w' g P := by
  obtain ⟨p, hp, a, n, c, zs, h1, h2, h3, h4, h5⟩ := h
  exact ⟨p, hp, a, n, c, zs, (hc.block g (Array.getElem?_eq_some_iff.1 h1).1 hg).trans h1, h2.chgN hb hc, h3, h4, h5⟩

section
variable {ops : Array Oper} {Q : Exit → Act → World → Prop} {a0 : Act} {g PP : Nat} {c : Nat → Nat} {J : World → Prop} {F : Nat → Prop} {R : Nat → World → Value → Prop} {i : Nat} {o : Oper}
theorem ds_loadN (t : Nat) (d : Nat) (hop : o.op = .load 53 (.tmp d)) (hd : hasNo ops d = true) (hx : a0.eval (.tmp d) = .pointer (some ⟨t, 0, none⟩)) (hJ : ∀ W, J W → BoxN t W) (hR : ∀ W v, IsIns v → R i W v) : DStep Try.prog ops Q a0 g PP c J F R i o := by
  intro a w p hp hJ1 hr hf _
  have he : a.eval (.tmp d) = .pointer (some ⟨t, 0, none⟩) := (hf d (hasNo_spec hd)).trans hx
  obtain ⟨u0, u1, u2, u3, u4, u5, u6, u7, c0, c1, c2, c3, c4, c5, c6, c7⟩ := (hJ w hJ1).all
  refine op_val (v := .agg #[.int .i64 u0, .int .i64 u1, .int .i64 u2, .int .i64 u3, .int .i64 u4, .int .i64 u5, .int .i64 u6, .int .i64 u7]) (w' := w) ?_ ⟨_, rfl, hR _ _ ⟨_, _, _, _, _, _, _, _, rfl⟩, hJ1, hr.mono (by omega), Chg.refl _ _⟩
  simp only [execOp, hop, he]
  simp [go_sem, c0, c1, c2, c3, c4, c5, c6, c7]
set_option maxHeartbeats 2000000 in
theorem ds_store8N (t : Nat) (dp dv kd : Nat) (hop : o.op = .store 53 (.tmp dp) (.tmp dv)) (hdp : hasNo ops dp = true) (hx : a0.eval (.tmp dp) = .pointer (some ⟨t, 0, none⟩)) (h1 : Dep ops o kd dv) (hs : ∀ W v, R kd W v → IsIns v)
    (hJ : ∀ W, J W → ∃ x0 x1 x2 x3 x4 x5 x6 x7 : Int, Blk W t 53 #[.int .i64 x0, .int .i64 x1, .int .i64 x2, .int .i64 x3, .int .i64 x4, .int .i64 x5, .int .i64 x6, .int .i64 x7]) (hJ2 : ∀ W W' (y0 y1 y2 y3 y4 y5 y6 y7 : Int), J W → Blk W' t 53 #[.int .i64 y0, .int .i64 y1, .int .i64 y2, .int .i64 y3, .int .i64 y4, .int .i64 y5, .int .i64 y6, .int .i64 y7] → Chg (fun b => b = t) W W' → J W') (hg : ¬ g = t) (hF : F t) (hR : ∀ W v, R i W v) : DStep Try.prog ops Q a0 g PP c J F R i o := by
  intro a w p hp hJ1 hr hf hd
  obtain ⟨y0, y1, y2, y3, y4, y5, y6, y7, hv⟩ := hs _ _ (dep_of h1 hd)
  obtain ⟨x0, x1, x2, x3, x4, x5, x6, x7, hb⟩ := hJ w hJ1
  have he : a.eval (.tmp dp) = .pointer (some ⟨t, 0, none⟩) := (hf dp (hasNo_spec hdp)).trans hx
  have c0 : w.cell? ⟨t, 0, none⟩ = some (.int .i64 x0) := hb.cell 0
  have c1 : w.cell? ⟨t, 1, none⟩ = some (.int .i64 x1) := hb.cell 1
  have c2 : w.cell? ⟨t, 2, none⟩ = some (.int .i64 x2) := hb.cell 2
  have c3 : w.cell? ⟨t, 3, none⟩ = some (.int .i64 x3) := hb.cell 3
  have c4 : w.cell? ⟨t, 4, none⟩ = some (.int .i64 x4) := hb.cell 4
  have c5 : w.cell? ⟨t, 5, none⟩ = some (.int .i64 x5) := hb.cell 5
  have c6 : w.cell? ⟨t, 6, none⟩ = some (.int .i64 x6) := hb.cell 6
  have c7 : w.cell? ⟨t, 7, none⟩ = some (.int .i64 x7) := hb.cell 7
  have fz := fun j => hb.frozen j
  have hl := hb.lt
  have hb2 : Blk ((((((((w.setCell ⟨t, 0, none⟩ (.int .i64 y0)).setCell ⟨t, 1, none⟩ (.int .i64 y1)).setCell ⟨t, 2, none⟩ (.int .i64 y2)).setCell ⟨t, 3, none⟩ (.int .i64 y3)).setCell ⟨t, 4, none⟩ (.int .i64 y4)).setCell ⟨t, 5, none⟩ (.int .i64 y5)).setCell ⟨t, 6, none⟩ (.int .i64 y6)).setCell ⟨t, 7, none⟩ (.int .i64 y7)) t 53 #[.int .i64 y0, .int .i64 y1, .int .i64 y2, .int .i64 y3, .int .i64 y4, .int .i64 y5, .int .i64 y6, .int .i64 y7] := (((((((hb.set_ 0 _).set_ 1 _).set_ 2 _).set_ 3 _).set_ 4 _).set_ 5 _).set_ 6 _).set_ 7 _
  have hch : Chg (fun b => b = t) w ((((((((w.setCell ⟨t, 0, none⟩ (.int .i64 y0)).setCell ⟨t, 1, none⟩ (.int .i64 y1)).setCell ⟨t, 2, none⟩ (.int .i64 y2)).setCell ⟨t, 3, none⟩ (.int .i64 y3)).setCell ⟨t, 4, none⟩ (.int .i64 y4)).setCell ⟨t, 5, none⟩ (.int .i64 y5)).setCell ⟨t, 6, none⟩ (.int .i64 y6)).setCell ⟨t, 7, none⟩ (.int .i64 y7)) := chg1 (chg1 (chg1 (chg1 (chg1 (chg1 (chg1 (chg1 (Chg.refl _ _) _) _) _) _) _) _) _) _
  refine op_skip (w' := (((((((w.setCell ⟨t, 0, none⟩ (.int .i64 y0)).setCell ⟨t, 1, none⟩ (.int .i64 y1)).setCell ⟨t, 2, none⟩ (.int .i64 y2)).setCell ⟨t, 3, none⟩ (.int .i64 y3)).setCell ⟨t, 4, none⟩ (.int .i64 y4)).setCell ⟨t, 5, none⟩ (.int .i64 y5)).setCell ⟨t, 6, none⟩ (.int .i64 y6)).setCell ⟨t, 7, none⟩ (.int .i64 y7)) ?_ ⟨_, rfl, hR _ _, hJ2 _ _ y0 y1 y2 y3 y4 y5 y6 y7 hJ1 hb2 hch, (hr.chgN ⟨_, _, _, _, _, _, _, _, hb⟩ hg hch).mono (by omega), ⟨hch.os, hch.tape, hch.output, hch.size, fun k hk hn => hch.block k hk (fun e => hn (e ▸ hF))⟩⟩
  simp only [execOp, hop, he, hv]
  simp [go_sem, fz, c0, c1, c2, c3, c4, c5, c6, c7]
theorem ds_assign (d k : Nat) (hop : o.op = .assign (.tmp d)) (h1 : Dep ops o k d) (hR : ∀ W v, R k W v → R i W v) : DStep Try.prog ops Q a0 g PP c J F R i o := by
  intro a w p hp hJ1 hr hf hd
  refine op_val (v := a.eval (.tmp d)) (w' := w) (by simp only [execOp, hop]; rfl) ⟨_, rfl, hR _ _ (dep_of h1 hd), hJ1, hr.mono (by omega), Chg.refl _ _⟩
end

set_option maxRecDepth 100000 in
set_option maxHeartbeats 4000000 in
theorem spoilG {g P : Nat} {i : Value} {w : World} (h : RdLe w g P) (hi : IsIns i) (hp : P + 2 ≤ 1099511627776) :
    Calls Try.prog 131 #[.pointer (some ⟨g, 0, none⟩), i] w (RetG IsIns g (P + 2) w) := by
  obtain ⟨op, d, ia, ib, rel, lo, hi2, to, rfl⟩ := hi
  have lt0 := h.lt
  obtain ⟨ne0, ne1, ne2, ne3, ne4, ne5⟩ : ¬ w.heap.size = g ∧ ¬ w.heap.size + 1 = g ∧ ¬ w.heap.size + 1 + 1 = g ∧ ¬ w.heap.size + 1 + 1 + 1 = g ∧ ¬ w.heap.size + 1 + 1 + 1 + 1 = g ∧ ¬ w.heap.size + 1 + 1 + 1 + 1 + 1 = g := by omega
  have HP := Lib.hid h; clear h
  have n67 : ¬ w.heap.size = w.heap.size + 1 := by omega
  have n76 : ¬ w.heap.size + 1 = w.heap.size := by omega
  go_enter Try.func131, Try.ntmps131
  go_wp2_with fail
  refine Calls.mono (pickG (k := 7) (by (repeat (first | with_reducible assumption | with_reducible exact rd_ext _ | with_reducible exact Hid.out (by assumption) | with_reducible apply rd_al | with_reducible apply rd_drew | (with_reducible apply rd_set; rotate_left; (focus (first | ((repeat (first | with_reducible assumption | omega | with_reducible exact dg_gt _ | (simp only [World.size_alloc, World.size_setCell, World.size_drew]) | with_reducible apply Nat.lt_succ_of_lt | with_reducible apply dg_lt | with_reducible apply le_pl | with_reducible apply dg_le)); done) | assumption | omega | (simp only [World.size_alloc, World.size_setCell, World.size_drew]; first | done | omega | (repeat (first | with_reducible assumption | with_reducible exact dg_gt _ | with_reducible apply Nat.lt_succ_of_lt | with_reducible apply dg_lt | with_reducible apply le_pl | with_reducible apply Nat.le_trans ?_ (dg_size _)))))))))) (by omega) (by omega)) ?_
  rintro e w1 ⟨v, rfl, ⟨j, rfl, hj⟩, hr1, hc1⟩
  have hj := hj (by omega)
  have C1 := Lib.hid (ChgG.trans (a := w) (by (repeat (first | with_reducible exact ChgG.refl _ _ | with_reducible assumption | with_reducible refine chg_ext ?_ _ | with_reducible refine chg_al ?_ _ | with_reducible refine chg_drew ?_ | with_reducible refine chg_set ?_ (by (focus (first | ((repeat (first | with_reducible assumption | omega | with_reducible exact dg_gt _ | (simp only [World.size_alloc, World.size_setCell, World.size_drew]) | with_reducible apply Nat.lt_succ_of_lt | with_reducible apply dg_lt | with_reducible apply le_pl | with_reducible apply dg_le)); done) | assumption | omega | (simp only [World.size_alloc, World.size_setCell, World.size_drew]; first | done | omega | (repeat (first | with_reducible assumption | with_reducible exact dg_gt _ | with_reducible apply Nat.lt_succ_of_lt | with_reducible apply dg_lt | with_reducible apply le_pl | with_reducible apply Nat.le_trans ?_ (dg_size _))))))) _))) hc1)
  have B6 := Lib.hid (BoxN.chg (t := w.heap.size) (by (repeat (first | with_reducible assumption | with_reducible exact BoxN.new _ _ _ _ _ _ _ _ (by first | with_reducible rfl | (simp only [World.size_alloc]; done) | (simp only [World.size_alloc]; omega)) | with_reducible apply BoxN.set0 | with_reducible apply BoxN.set1 | with_reducible apply BoxN.set2 | with_reducible apply BoxN.set3 | with_reducible apply BoxN.set4 | with_reducible apply BoxN.set5 | with_reducible apply BoxN.set6 | with_reducible apply BoxN.set7 | with_reducible apply BoxN.al | with_reducible apply BoxN.drew | (with_reducible apply BoxN.ext; rotate_left; (first | assumption | omega)) | (with_reducible apply BoxN.far; rotate_left; (simp only; omega))))) hc1 ne0)
  have B7 := Lib.hid (BoxN.chg (t := w.heap.size + 1) (by (repeat (first | with_reducible assumption | with_reducible exact BoxN.new _ _ _ _ _ _ _ _ (by first | with_reducible rfl | (simp only [World.size_alloc]; done) | (simp only [World.size_alloc]; omega)) | with_reducible apply BoxN.set0 | with_reducible apply BoxN.set1 | with_reducible apply BoxN.set2 | with_reducible apply BoxN.set3 | with_reducible apply BoxN.set4 | with_reducible apply BoxN.set5 | with_reducible apply BoxN.set6 | with_reducible apply BoxN.set7 | with_reducible apply BoxN.al | with_reducible apply BoxN.drew | (with_reducible apply BoxN.ext; rotate_left; (first | assumption | omega)) | (with_reducible apply BoxN.far; rotate_left; (simp only; omega))))) hc1 ne1)
  have R1 := Lib.hid hr1
  have l7 := B7.out.lt
  have l1g := hr1.lt
  clear hr1 hc1 HP
  have hj7 : j = 0 ∨ j = 1 ∨ j = 2 ∨ j = 3 ∨ j = 4 ∨ j = 5 ∨ j = 6 := by omega
  rcases hj7 with rfl | rfl | rfl | rfl | rfl | rfl | rfl
  · go_wp2_with fail
    refine Calls.mono (pickG (k := 3) (by (repeat (first | with_reducible assumption | with_reducible exact rd_ext _ | with_reducible exact Hid.out (by assumption) | with_reducible apply rd_al | with_reducible apply rd_drew | (with_reducible apply rd_set; rotate_left; (focus (first | ((repeat (first | with_reducible assumption | omega | with_reducible exact dg_gt _ | (simp only [World.size_alloc, World.size_setCell, World.size_drew]) | with_reducible apply Nat.lt_succ_of_lt | with_reducible apply dg_lt | with_reducible apply le_pl | with_reducible apply dg_le)); done) | assumption | omega | (simp only [World.size_alloc, World.size_setCell, World.size_drew]; first | done | omega | (repeat (first | with_reducible assumption | with_reducible exact dg_gt _ | with_reducible apply Nat.lt_succ_of_lt | with_reducible apply dg_lt | with_reducible apply le_pl | with_reducible apply Nat.le_trans ?_ (dg_size _)))))))))) (by omega) (by omega)) ?_
    rintro e w2 ⟨v, rfl, ⟨u, rfl, hu⟩, hr2, hc2⟩
    have hu := hu (by omega)
    obtain ⟨yu, hyu, hlu⟩ := lit_get [0, 13, -1] (j := u) (by simp only [List.length_cons, List.length_nil]; omega)
    have nb : ¬ w1.heap.size = g := by omega
    have hcl : w2.cell? ⟨w1.heap.size, u, none⟩ = some (.int .i64 yu) := (((Blk.new w1 3 (ints .i64 [0, 13, -1]).toArray).chg hc2 nb).cell u).trans (by simpa using hlu)
    have C2 := Lib.hid (ChgG.trans (a := w) (chg_al C1.out _) hc2)
    have D6 := Lib.hid ((B6.out.al (.cells (ints .i64 [0, 13, -1]).toArray 3)).chg hc2 ne0)
    have D7 := Lib.hid ((B7.out.al (.cells (ints .i64 [0, 13, -1]).toArray 3)).chg hc2 ne1)
    have R2 := Lib.hid hr2
    clear hr2 hc2 C1 B6 B7 R1 hyu hlu
    have C1 := C2
    have B6 := D6
    have B7 := D7
    clear C2 D6 D7
    obtain ⟨u0, u1, u2, u3, u4, u5, u6, u7, c0, c1, c2, c3, c4, c5, c6, c7⟩ := B6.out.all
    obtain ⟨v0, v1, v2, v3, v4, v5, v6, v7, d0, d1, d2, d3, d4, d5, d6, d7⟩ := B7.out.all
    have f6 := B6.out.fz
    have f7 := B7.out.fz
    have l6 := B6.out.lt
    have l7 := B7.out.lt
    go_wp2
    refine body_boxN (t := w.heap.size + 1) (by have := B7.out; (repeat (first | with_reducible assumption | with_reducible exact BoxN.new _ _ _ _ _ _ _ _ (by first | with_reducible rfl | (simp only [World.size_alloc]; done) | (simp only [World.size_alloc]; omega)) | with_reducible apply BoxN.set0 | with_reducible apply BoxN.set1 | with_reducible apply BoxN.set2 | with_reducible apply BoxN.set3 | with_reducible apply BoxN.set4 | with_reducible apply BoxN.set5 | with_reducible apply BoxN.set6 | with_reducible apply BoxN.set7 | with_reducible apply BoxN.al | with_reducible apply BoxN.drew | (with_reducible apply BoxN.ext; rotate_left; (first | assumption | omega)) | (with_reducible apply BoxN.far; rotate_left; (simp only; omega))))) ?_
    rintro E hE x0 x1 x2 x3 x4 x5 x6 x7 e0 e1 e2 e3 e4 e5 e6 e7
    refine bodyPost_ret (by simp [results, Try.results131, go_sem, e0, e1, e2, e3, e4, e5, e6, e7]; try rfl) rfl ?_
    rw [hE]
    refine ⟨_, rfl, ⟨_, _, _, _, _, _, _, _, rfl⟩, RdLe.mono (by (repeat (first | with_reducible assumption | with_reducible exact rd_ext _ | with_reducible exact Hid.out (by assumption) | with_reducible apply rd_al | with_reducible apply rd_drew | (with_reducible apply rd_set; rotate_left; (focus (first | ((repeat (first | with_reducible assumption | omega | with_reducible exact dg_gt _ | (simp only [World.size_alloc, World.size_setCell, World.size_drew]) | with_reducible apply Nat.lt_succ_of_lt | with_reducible apply dg_lt | with_reducible apply le_pl | with_reducible apply dg_le)); done) | assumption | omega | (simp only [World.size_alloc, World.size_setCell, World.size_drew]; first | done | omega | (repeat (first | with_reducible assumption | with_reducible exact dg_gt _ | with_reducible apply Nat.lt_succ_of_lt | with_reducible apply dg_lt | with_reducible apply le_pl | with_reducible apply Nat.le_trans ?_ (dg_size _)))))))))) (by omega), by have := C1.out; (repeat (first | with_reducible exact ChgG.refl _ _ | with_reducible assumption | with_reducible refine chg_ext ?_ _ | with_reducible refine chg_al ?_ _ | with_reducible refine chg_drew ?_ | with_reducible refine chg_set ?_ (by (focus (first | ((repeat (first | with_reducible assumption | omega | with_reducible exact dg_gt _ | (simp only [World.size_alloc, World.size_setCell, World.size_drew]) | with_reducible apply Nat.lt_succ_of_lt | with_reducible apply dg_lt | with_reducible apply le_pl | with_reducible apply dg_le)); done) | assumption | omega | (simp only [World.size_alloc, World.size_setCell, World.size_drew]; first | done | omega | (repeat (first | with_reducible assumption | with_reducible exact dg_gt _ | with_reducible apply Nat.lt_succ_of_lt | with_reducible apply dg_lt | with_reducible apply le_pl | with_reducible apply Nat.le_trans ?_ (dg_size _))))))) _))⟩
  · go_wp2_with fail
    refine Calls.mono (pickG (k := 2) (by (repeat (first | with_reducible assumption | with_reducible exact rd_ext _ | with_reducible exact Hid.out (by assumption) | with_reducible apply rd_al | with_reducible apply rd_drew | (with_reducible apply rd_set; rotate_left; (focus (first | ((repeat (first | with_reducible assumption | omega | with_reducible exact dg_gt _ | (simp only [World.size_alloc, World.size_setCell, World.size_drew]) | with_reducible apply Nat.lt_succ_of_lt | with_reducible apply dg_lt | with_reducible apply le_pl | with_reducible apply dg_le)); done) | assumption | omega | (simp only [World.size_alloc, World.size_setCell, World.size_drew]; first | done | omega | (repeat (first | with_reducible assumption | with_reducible exact dg_gt _ | with_reducible apply Nat.lt_succ_of_lt | with_reducible apply dg_lt | with_reducible apply le_pl | with_reducible apply Nat.le_trans ?_ (dg_size _)))))))))) (by omega) (by omega)) ?_
    rintro e w2 ⟨v, rfl, ⟨u, rfl, hu⟩, hr2, hc2⟩
    have hu := hu (by omega)
    obtain ⟨yu, hyu, hlu⟩ := lit_get [-1, 4] (j := u) (by simp only [List.length_cons, List.length_nil]; omega)
    have nb : ¬ w1.heap.size = g := by omega
    have hcl : w2.cell? ⟨w1.heap.size, u, none⟩ = some (.int .i64 yu) := (((Blk.new w1 3 (ints .i64 [-1, 4]).toArray).chg hc2 nb).cell u).trans (by simpa using hlu)
    have C2 := Lib.hid (ChgG.trans (a := w) (chg_al C1.out _) hc2)
    have D6 := Lib.hid ((B6.out.al (.cells (ints .i64 [-1, 4]).toArray 3)).chg hc2 ne0)
    have D7 := Lib.hid ((B7.out.al (.cells (ints .i64 [-1, 4]).toArray 3)).chg hc2 ne1)
    have R2 := Lib.hid hr2
    clear hr2 hc2 C1 B6 B7 R1 hyu hlu
    have C1 := C2
    have B6 := D6
    have B7 := D7
    clear C2 D6 D7
    obtain ⟨u0, u1, u2, u3, u4, u5, u6, u7, c0, c1, c2, c3, c4, c5, c6, c7⟩ := B6.out.all
    obtain ⟨v0, v1, v2, v3, v4, v5, v6, v7, d0, d1, d2, d3, d4, d5, d6, d7⟩ := B7.out.all
    have f6 := B6.out.fz
    have f7 := B7.out.fz
    have l6 := B6.out.lt
    have l7 := B7.out.lt
    go_wp2
    refine body_boxN (t := w.heap.size + 1) (by have := B7.out; (repeat (first | with_reducible assumption | with_reducible exact BoxN.new _ _ _ _ _ _ _ _ (by first | with_reducible rfl | (simp only [World.size_alloc]; done) | (simp only [World.size_alloc]; omega)) | with_reducible apply BoxN.set0 | with_reducible apply BoxN.set1 | with_reducible apply BoxN.set2 | with_reducible apply BoxN.set3 | with_reducible apply BoxN.set4 | with_reducible apply BoxN.set5 | with_reducible apply BoxN.set6 | with_reducible apply BoxN.set7 | with_reducible apply BoxN.al | with_reducible apply BoxN.drew | (with_reducible apply BoxN.ext; rotate_left; (first | assumption | omega)) | (with_reducible apply BoxN.far; rotate_left; (simp only; omega))))) ?_
    rintro E hE x0 x1 x2 x3 x4 x5 x6 x7 e0 e1 e2 e3 e4 e5 e6 e7
    refine bodyPost_ret (by simp [results, Try.results131, go_sem, e0, e1, e2, e3, e4, e5, e6, e7]; try rfl) rfl ?_
    rw [hE]
    refine ⟨_, rfl, ⟨_, _, _, _, _, _, _, _, rfl⟩, RdLe.mono (by (repeat (first | with_reducible assumption | with_reducible exact rd_ext _ | with_reducible exact Hid.out (by assumption) | with_reducible apply rd_al | with_reducible apply rd_drew | (with_reducible apply rd_set; rotate_left; (focus (first | ((repeat (first | with_reducible assumption | omega | with_reducible exact dg_gt _ | (simp only [World.size_alloc, World.size_setCell, World.size_drew]) | with_reducible apply Nat.lt_succ_of_lt | with_reducible apply dg_lt | with_reducible apply le_pl | with_reducible apply dg_le)); done) | assumption | omega | (simp only [World.size_alloc, World.size_setCell, World.size_drew]; first | done | omega | (repeat (first | with_reducible assumption | with_reducible exact dg_gt _ | with_reducible apply Nat.lt_succ_of_lt | with_reducible apply dg_lt | with_reducible apply le_pl | with_reducible apply Nat.le_trans ?_ (dg_size _)))))))))) (by omega), by have := C1.out; (repeat (first | with_reducible exact ChgG.refl _ _ | with_reducible assumption | with_reducible refine chg_ext ?_ _ | with_reducible refine chg_al ?_ _ | with_reducible refine chg_drew ?_ | with_reducible refine chg_set ?_ (by (focus (first | ((repeat (first | with_reducible assumption | omega | with_reducible exact dg_gt _ | (simp only [World.size_alloc, World.size_setCell, World.size_drew]) | with_reducible apply Nat.lt_succ_of_lt | with_reducible apply dg_lt | with_reducible apply le_pl | with_reducible apply dg_le)); done) | assumption | omega | (simp only [World.size_alloc, World.size_setCell, World.size_drew]; first | done | omega | (repeat (first | with_reducible assumption | with_reducible exact dg_gt _ | with_reducible apply Nat.lt_succ_of_lt | with_reducible apply dg_lt | with_reducible apply le_pl | with_reducible apply Nat.le_trans ?_ (dg_size _))))))) _))⟩
  · go_wp2_with fail
    refine Calls.mono (pickG (k := 3) (by (repeat (first | with_reducible assumption | with_reducible exact rd_ext _ | with_reducible exact Hid.out (by assumption) | with_reducible apply rd_al | with_reducible apply rd_drew | (with_reducible apply rd_set; rotate_left; (focus (first | ((repeat (first | with_reducible assumption | omega | with_reducible exact dg_gt _ | (simp only [World.size_alloc, World.size_setCell, World.size_drew]) | with_reducible apply Nat.lt_succ_of_lt | with_reducible apply dg_lt | with_reducible apply le_pl | with_reducible apply dg_le)); done) | assumption | omega | (simp only [World.size_alloc, World.size_setCell, World.size_drew]; first | done | omega | (repeat (first | with_reducible assumption | with_reducible exact dg_gt _ | with_reducible apply Nat.lt_succ_of_lt | with_reducible apply dg_lt | with_reducible apply le_pl | with_reducible apply Nat.le_trans ?_ (dg_size _)))))))))) (by omega) (by omega)) ?_
    rintro e w2 ⟨v, rfl, ⟨u, rfl, hu⟩, hr2, hc2⟩
    have hu := hu (by omega)
    obtain ⟨yu, hyu, hlu⟩ := lit_get [-1, 4, 1] (j := u) (by simp only [List.length_cons, List.length_nil]; omega)
    have nb : ¬ w1.heap.size = g := by omega
    have hcl : w2.cell? ⟨w1.heap.size, u, none⟩ = some (.int .i64 yu) := (((Blk.new w1 3 (ints .i64 [-1, 4, 1]).toArray).chg hc2 nb).cell u).trans (by simpa using hlu)
    have C2 := Lib.hid (ChgG.trans (a := w) (chg_al C1.out _) hc2)
    have D6 := Lib.hid ((B6.out.al (.cells (ints .i64 [-1, 4, 1]).toArray 3)).chg hc2 ne0)
    have D7 := Lib.hid ((B7.out.al (.cells (ints .i64 [-1, 4, 1]).toArray 3)).chg hc2 ne1)
    have R2 := Lib.hid hr2
    clear hr2 hc2 C1 B6 B7 R1 hyu hlu
    have C1 := C2
    have B6 := D6
    have B7 := D7
    clear C2 D6 D7
    obtain ⟨u0, u1, u2, u3, u4, u5, u6, u7, c0, c1, c2, c3, c4, c5, c6, c7⟩ := B6.out.all
    obtain ⟨v0, v1, v2, v3, v4, v5, v6, v7, d0, d1, d2, d3, d4, d5, d6, d7⟩ := B7.out.all
    have f6 := B6.out.fz
    have f7 := B7.out.fz
    have l6 := B6.out.lt
    have l7 := B7.out.lt
    go_wp2
    refine body_boxN (t := w.heap.size + 1) (by have := B7.out; (repeat (first | with_reducible assumption | with_reducible exact BoxN.new _ _ _ _ _ _ _ _ (by first | with_reducible rfl | (simp only [World.size_alloc]; done) | (simp only [World.size_alloc]; omega)) | with_reducible apply BoxN.set0 | with_reducible apply BoxN.set1 | with_reducible apply BoxN.set2 | with_reducible apply BoxN.set3 | with_reducible apply BoxN.set4 | with_reducible apply BoxN.set5 | with_reducible apply BoxN.set6 | with_reducible apply BoxN.set7 | with_reducible apply BoxN.al | with_reducible apply BoxN.drew | (with_reducible apply BoxN.ext; rotate_left; (first | assumption | omega)) | (with_reducible apply BoxN.far; rotate_left; (simp only; omega))))) ?_
    rintro E hE x0 x1 x2 x3 x4 x5 x6 x7 e0 e1 e2 e3 e4 e5 e6 e7
    refine bodyPost_ret (by simp [results, Try.results131, go_sem, e0, e1, e2, e3, e4, e5, e6, e7]; try rfl) rfl ?_
    rw [hE]
    refine ⟨_, rfl, ⟨_, _, _, _, _, _, _, _, rfl⟩, RdLe.mono (by (repeat (first | with_reducible assumption | with_reducible exact rd_ext _ | with_reducible exact Hid.out (by assumption) | with_reducible apply rd_al | with_reducible apply rd_drew | (with_reducible apply rd_set; rotate_left; (focus (first | ((repeat (first | with_reducible assumption | omega | with_reducible exact dg_gt _ | (simp only [World.size_alloc, World.size_setCell, World.size_drew]) | with_reducible apply Nat.lt_succ_of_lt | with_reducible apply dg_lt | with_reducible apply le_pl | with_reducible apply dg_le)); done) | assumption | omega | (simp only [World.size_alloc, World.size_setCell, World.size_drew]; first | done | omega | (repeat (first | with_reducible assumption | with_reducible exact dg_gt _ | with_reducible apply Nat.lt_succ_of_lt | with_reducible apply dg_lt | with_reducible apply le_pl | with_reducible apply Nat.le_trans ?_ (dg_size _)))))))))) (by omega), by have := C1.out; (repeat (first | with_reducible exact ChgG.refl _ _ | with_reducible assumption | with_reducible refine chg_ext ?_ _ | with_reducible refine chg_al ?_ _ | with_reducible refine chg_drew ?_ | with_reducible refine chg_set ?_ (by (focus (first | ((repeat (first | with_reducible assumption | omega | with_reducible exact dg_gt _ | (simp only [World.size_alloc, World.size_setCell, World.size_drew]) | with_reducible apply Nat.lt_succ_of_lt | with_reducible apply dg_lt | with_reducible apply le_pl | with_reducible apply dg_le)); done) | assumption | omega | (simp only [World.size_alloc, World.size_setCell, World.size_drew]; first | done | omega | (repeat (first | with_reducible assumption | with_reducible exact dg_gt _ | with_reducible apply Nat.lt_succ_of_lt | with_reducible apply dg_lt | with_reducible apply le_pl | with_reducible apply Nat.le_trans ?_ (dg_size _))))))) _))⟩
  · go_wp2_with fail
    refine Calls.mono (pickG (k := 3) (by (repeat (first | with_reducible assumption | with_reducible exact rd_ext _ | with_reducible exact Hid.out (by assumption) | with_reducible apply rd_al | with_reducible apply rd_drew | (with_reducible apply rd_set; rotate_left; (focus (first | ((repeat (first | with_reducible assumption | omega | with_reducible exact dg_gt _ | (simp only [World.size_alloc, World.size_setCell, World.size_drew]) | with_reducible apply Nat.lt_succ_of_lt | with_reducible apply dg_lt | with_reducible apply le_pl | with_reducible apply dg_le)); done) | assumption | omega | (simp only [World.size_alloc, World.size_setCell, World.size_drew]; first | done | omega | (repeat (first | with_reducible assumption | with_reducible exact dg_gt _ | with_reducible apply Nat.lt_succ_of_lt | with_reducible apply dg_lt | with_reducible apply le_pl | with_reducible apply Nat.le_trans ?_ (dg_size _)))))))))) (by omega) (by omega)) ?_
    rintro e w2 ⟨v, rfl, ⟨u, rfl, hu⟩, hr2, hc2⟩
    have hu := hu (by omega)
    obtain ⟨yu, hyu, hlu⟩ := lit_get [-1, 4, 1] (j := u) (by simp only [List.length_cons, List.length_nil]; omega)
    have nb : ¬ w1.heap.size = g := by omega
    have hcl : w2.cell? ⟨w1.heap.size, u, none⟩ = some (.int .i64 yu) := (((Blk.new w1 3 (ints .i64 [-1, 4, 1]).toArray).chg hc2 nb).cell u).trans (by simpa using hlu)
    have C2 := Lib.hid (ChgG.trans (a := w) (chg_al C1.out _) hc2)
    have D6 := Lib.hid ((B6.out.al (.cells (ints .i64 [-1, 4, 1]).toArray 3)).chg hc2 ne0)
    have D7 := Lib.hid ((B7.out.al (.cells (ints .i64 [-1, 4, 1]).toArray 3)).chg hc2 ne1)
    have R2 := Lib.hid hr2
    clear hr2 hc2 C1 B6 B7 R1 hyu hlu
    have C1 := C2
    have B6 := D6
    have B7 := D7
    clear C2 D6 D7
    obtain ⟨u0, u1, u2, u3, u4, u5, u6, u7, c0, c1, c2, c3, c4, c5, c6, c7⟩ := B6.out.all
    obtain ⟨v0, v1, v2, v3, v4, v5, v6, v7, d0, d1, d2, d3, d4, d5, d6, d7⟩ := B7.out.all
    have f6 := B6.out.fz
    have f7 := B7.out.fz
    have l6 := B6.out.lt
    have l7 := B7.out.lt
    go_wp2
    refine body_boxN (t := w.heap.size + 1) (by have := B7.out; (repeat (first | with_reducible assumption | with_reducible exact BoxN.new _ _ _ _ _ _ _ _ (by first | with_reducible rfl | (simp only [World.size_alloc]; done) | (simp only [World.size_alloc]; omega)) | with_reducible apply BoxN.set0 | with_reducible apply BoxN.set1 | with_reducible apply BoxN.set2 | with_reducible apply BoxN.set3 | with_reducible apply BoxN.set4 | with_reducible apply BoxN.set5 | with_reducible apply BoxN.set6 | with_reducible apply BoxN.set7 | with_reducible apply BoxN.al | with_reducible apply BoxN.drew | (with_reducible apply BoxN.ext; rotate_left; (first | assumption | omega)) | (with_reducible apply BoxN.far; rotate_left; (simp only; omega))))) ?_
    rintro E hE x0 x1 x2 x3 x4 x5 x6 x7 e0 e1 e2 e3 e4 e5 e6 e7
    refine bodyPost_ret (by simp [results, Try.results131, go_sem, e0, e1, e2, e3, e4, e5, e6, e7]; try rfl) rfl ?_
    rw [hE]
    refine ⟨_, rfl, ⟨_, _, _, _, _, _, _, _, rfl⟩, RdLe.mono (by (repeat (first | with_reducible assumption | with_reducible exact rd_ext _ | with_reducible exact Hid.out (by assumption) | with_reducible apply rd_al | with_reducible apply rd_drew | (with_reducible apply rd_set; rotate_left; (focus (first | ((repeat (first | with_reducible assumption | omega | with_reducible exact dg_gt _ | (simp only [World.size_alloc, World.size_setCell, World.size_drew]) | with_reducible apply Nat.lt_succ_of_lt | with_reducible apply dg_lt | with_reducible apply le_pl | with_reducible apply dg_le)); done) | assumption | omega | (simp only [World.size_alloc, World.size_setCell, World.size_drew]; first | done | omega | (repeat (first | with_reducible assumption | with_reducible exact dg_gt _ | with_reducible apply Nat.lt_succ_of_lt | with_reducible apply dg_lt | with_reducible apply le_pl | with_reducible apply Nat.le_trans ?_ (dg_size _)))))))))) (by omega), by have := C1.out; (repeat (first | with_reducible exact ChgG.refl _ _ | with_reducible assumption | with_reducible refine chg_ext ?_ _ | with_reducible refine chg_al ?_ _ | with_reducible refine chg_drew ?_ | with_reducible refine chg_set ?_ (by (focus (first | ((repeat (first | with_reducible assumption | omega | with_reducible exact dg_gt _ | (simp only [World.size_alloc, World.size_setCell, World.size_drew]) | with_reducible apply Nat.lt_succ_of_lt | with_reducible apply dg_lt | with_reducible apply le_pl | with_reducible apply dg_le)); done) | assumption | omega | (simp only [World.size_alloc, World.size_setCell, World.size_drew]; first | done | omega | (repeat (first | with_reducible assumption | with_reducible exact dg_gt _ | with_reducible apply Nat.lt_succ_of_lt | with_reducible apply dg_lt | with_reducible apply le_pl | with_reducible apply Nat.le_trans ?_ (dg_size _))))))) _))⟩
  · go_wp2_with fail
    refine Calls.mono (pickG (k := 3) (by (repeat (first | with_reducible assumption | with_reducible exact rd_ext _ | with_reducible exact Hid.out (by assumption) | with_reducible apply rd_al | with_reducible apply rd_drew | (with_reducible apply rd_set; rotate_left; (focus (first | ((repeat (first | with_reducible assumption | omega | with_reducible exact dg_gt _ | (simp only [World.size_alloc, World.size_setCell, World.size_drew]) | with_reducible apply Nat.lt_succ_of_lt | with_reducible apply dg_lt | with_reducible apply le_pl | with_reducible apply dg_le)); done) | assumption | omega | (simp only [World.size_alloc, World.size_setCell, World.size_drew]; first | done | omega | (repeat (first | with_reducible assumption | with_reducible exact dg_gt _ | with_reducible apply Nat.lt_succ_of_lt | with_reducible apply dg_lt | with_reducible apply le_pl | with_reducible apply Nat.le_trans ?_ (dg_size _)))))))))) (by omega) (by omega)) ?_
    rintro e w2 ⟨v, rfl, ⟨u, rfl, hu⟩, hr2, hc2⟩
    have hu := hu (by omega)
    obtain ⟨yu, hyu, hlu⟩ := lit_get [-1, 5, 1] (j := u) (by simp only [List.length_cons, List.length_nil]; omega)
    have nb : ¬ w1.heap.size = g := by omega
    have hcl : w2.cell? ⟨w1.heap.size, u, none⟩ = some (.int .i64 yu) := (((Blk.new w1 3 (ints .i64 [-1, 5, 1]).toArray).chg hc2 nb).cell u).trans (by simpa using hlu)
    have C2 := Lib.hid (ChgG.trans (a := w) (chg_al C1.out _) hc2)
    have D6 := Lib.hid ((B6.out.al (.cells (ints .i64 [-1, 5, 1]).toArray 3)).chg hc2 ne0)
    have D7 := Lib.hid ((B7.out.al (.cells (ints .i64 [-1, 5, 1]).toArray 3)).chg hc2 ne1)
    have R2 := Lib.hid hr2
    clear hr2 hc2 C1 B6 B7 R1 hyu hlu
    have C1 := C2
    have B6 := D6
    have B7 := D7
    clear C2 D6 D7
    obtain ⟨u0, u1, u2, u3, u4, u5, u6, u7, c0, c1, c2, c3, c4, c5, c6, c7⟩ := B6.out.all
    obtain ⟨v0, v1, v2, v3, v4, v5, v6, v7, d0, d1, d2, d3, d4, d5, d6, d7⟩ := B7.out.all
    have f6 := B6.out.fz
    have f7 := B7.out.fz
    have l6 := B6.out.lt
    have l7 := B7.out.lt
    go_wp2
    refine body_boxN (t := w.heap.size + 1) (by have := B7.out; (repeat (first | with_reducible assumption | with_reducible exact BoxN.new _ _ _ _ _ _ _ _ (by first | with_reducible rfl | (simp only [World.size_alloc]; done) | (simp only [World.size_alloc]; omega)) | with_reducible apply BoxN.set0 | with_reducible apply BoxN.set1 | with_reducible apply BoxN.set2 | with_reducible apply BoxN.set3 | with_reducible apply BoxN.set4 | with_reducible apply BoxN.set5 | with_reducible apply BoxN.set6 | with_reducible apply BoxN.set7 | with_reducible apply BoxN.al | with_reducible apply BoxN.drew | (with_reducible apply BoxN.ext; rotate_left; (first | assumption | omega)) | (with_reducible apply BoxN.far; rotate_left; (simp only; omega))))) ?_
    rintro E hE x0 x1 x2 x3 x4 x5 x6 x7 e0 e1 e2 e3 e4 e5 e6 e7
    refine bodyPost_ret (by simp [results, Try.results131, go_sem, e0, e1, e2, e3, e4, e5, e6, e7]; try rfl) rfl ?_
    rw [hE]
    refine ⟨_, rfl, ⟨_, _, _, _, _, _, _, _, rfl⟩, RdLe.mono (by (repeat (first | with_reducible assumption | with_reducible exact rd_ext _ | with_reducible exact Hid.out (by assumption) | with_reducible apply rd_al | with_reducible apply rd_drew | (with_reducible apply rd_set; rotate_left; (focus (first | ((repeat (first | with_reducible assumption | omega | with_reducible exact dg_gt _ | (simp only [World.size_alloc, World.size_setCell, World.size_drew]) | with_reducible apply Nat.lt_succ_of_lt | with_reducible apply dg_lt | with_reducible apply le_pl | with_reducible apply dg_le)); done) | assumption | omega | (simp only [World.size_alloc, World.size_setCell, World.size_drew]; first | done | omega | (repeat (first | with_reducible assumption | with_reducible exact dg_gt _ | with_reducible apply Nat.lt_succ_of_lt | with_reducible apply dg_lt | with_reducible apply le_pl | with_reducible apply Nat.le_trans ?_ (dg_size _)))))))))) (by omega), by have := C1.out; (repeat (first | with_reducible exact ChgG.refl _ _ | with_reducible assumption | with_reducible refine chg_ext ?_ _ | with_reducible refine chg_al ?_ _ | with_reducible refine chg_drew ?_ | with_reducible refine chg_set ?_ (by (focus (first | ((repeat (first | with_reducible assumption | omega | with_reducible exact dg_gt _ | (simp only [World.size_alloc, World.size_setCell, World.size_drew]) | with_reducible apply Nat.lt_succ_of_lt | with_reducible apply dg_lt | with_reducible apply le_pl | with_reducible apply dg_le)); done) | assumption | omega | (simp only [World.size_alloc, World.size_setCell, World.size_drew]; first | done | omega | (repeat (first | with_reducible assumption | with_reducible exact dg_gt _ | with_reducible apply Nat.lt_succ_of_lt | with_reducible apply dg_lt | with_reducible apply le_pl | with_reducible apply Nat.le_trans ?_ (dg_size _))))))) _))⟩
  · go_wp2_with fail
    refine Calls.mono (pickG (k := 3) (by (repeat (first | with_reducible assumption | with_reducible exact rd_ext _ | with_reducible exact Hid.out (by assumption) | with_reducible apply rd_al | with_reducible apply rd_drew | (with_reducible apply rd_set; rotate_left; (focus (first | ((repeat (first | with_reducible assumption | omega | with_reducible exact dg_gt _ | (simp only [World.size_alloc, World.size_setCell, World.size_drew]) | with_reducible apply Nat.lt_succ_of_lt | with_reducible apply dg_lt | with_reducible apply le_pl | with_reducible apply dg_le)); done) | assumption | omega | (simp only [World.size_alloc, World.size_setCell, World.size_drew]; first | done | omega | (repeat (first | with_reducible assumption | with_reducible exact dg_gt _ | with_reducible apply Nat.lt_succ_of_lt | with_reducible apply dg_lt | with_reducible apply le_pl | with_reducible apply Nat.le_trans ?_ (dg_size _)))))))))) (by omega) (by omega)) ?_
    rintro e w2 ⟨v, rfl, ⟨u, rfl, hu⟩, hr2, hc2⟩
    have hu := hu (by omega)
    obtain ⟨yu, hyu, hlu⟩ := lit_get [32768, 5, -32769] (j := u) (by simp only [List.length_cons, List.length_nil]; omega)
    have nb : ¬ w1.heap.size = g := by omega
    have hcl : w2.cell? ⟨w1.heap.size, u, none⟩ = some (.int .i64 yu) := (((Blk.new w1 3 (ints .i64 [32768, 5, -32769]).toArray).chg hc2 nb).cell u).trans (by simpa using hlu)
    have C2 := Lib.hid (ChgG.trans (a := w) (chg_al C1.out _) hc2)
    have D6 := Lib.hid ((B6.out.al (.cells (ints .i64 [32768, 5, -32769]).toArray 3)).chg hc2 ne0)
    have D7 := Lib.hid ((B7.out.al (.cells (ints .i64 [32768, 5, -32769]).toArray 3)).chg hc2 ne1)
    have R2 := Lib.hid hr2
    clear hr2 hc2 C1 B6 B7 R1 hyu hlu
    have C1 := C2
    have B6 := D6
    have B7 := D7
    clear C2 D6 D7
    obtain ⟨u0, u1, u2, u3, u4, u5, u6, u7, c0, c1, c2, c3, c4, c5, c6, c7⟩ := B6.out.all
    obtain ⟨v0, v1, v2, v3, v4, v5, v6, v7, d0, d1, d2, d3, d4, d5, d6, d7⟩ := B7.out.all
    have f6 := B6.out.fz
    have f7 := B7.out.fz
    have l6 := B6.out.lt
    have l7 := B7.out.lt
    go_wp2
    refine body_boxN (t := w.heap.size + 1) (by have := B7.out; (repeat (first | with_reducible assumption | with_reducible exact BoxN.new _ _ _ _ _ _ _ _ (by first | with_reducible rfl | (simp only [World.size_alloc]; done) | (simp only [World.size_alloc]; omega)) | with_reducible apply BoxN.set0 | with_reducible apply BoxN.set1 | with_reducible apply BoxN.set2 | with_reducible apply BoxN.set3 | with_reducible apply BoxN.set4 | with_reducible apply BoxN.set5 | with_reducible apply BoxN.set6 | with_reducible apply BoxN.set7 | with_reducible apply BoxN.al | with_reducible apply BoxN.drew | (with_reducible apply BoxN.ext; rotate_left; (first | assumption | omega)) | (with_reducible apply BoxN.far; rotate_left; (simp only; omega))))) ?_
    rintro E hE x0 x1 x2 x3 x4 x5 x6 x7 e0 e1 e2 e3 e4 e5 e6 e7
    refine bodyPost_ret (by simp [results, Try.results131, go_sem, e0, e1, e2, e3, e4, e5, e6, e7]; try rfl) rfl ?_
    rw [hE]
    refine ⟨_, rfl, ⟨_, _, _, _, _, _, _, _, rfl⟩, RdLe.mono (by (repeat (first | with_reducible assumption | with_reducible exact rd_ext _ | with_reducible exact Hid.out (by assumption) | with_reducible apply rd_al | with_reducible apply rd_drew | (with_reducible apply rd_set; rotate_left; (focus (first | ((repeat (first | with_reducible assumption | omega | with_reducible exact dg_gt _ | (simp only [World.size_alloc, World.size_setCell, World.size_drew]) | with_reducible apply Nat.lt_succ_of_lt | with_reducible apply dg_lt | with_reducible apply le_pl | with_reducible apply dg_le)); done) | assumption | omega | (simp only [World.size_alloc, World.size_setCell, World.size_drew]; first | done | omega | (repeat (first | with_reducible assumption | with_reducible exact dg_gt _ | with_reducible apply Nat.lt_succ_of_lt | with_reducible apply dg_lt | with_reducible apply le_pl | with_reducible apply Nat.le_trans ?_ (dg_size _)))))))))) (by omega), by have := C1.out; (repeat (first | with_reducible exact ChgG.refl _ _ | with_reducible assumption | with_reducible refine chg_ext ?_ _ | with_reducible refine chg_al ?_ _ | with_reducible refine chg_drew ?_ | with_reducible refine chg_set ?_ (by (focus (first | ((repeat (first | with_reducible assumption | omega | with_reducible exact dg_gt _ | (simp only [World.size_alloc, World.size_setCell, World.size_drew]) | with_reducible apply Nat.lt_succ_of_lt | with_reducible apply dg_lt | with_reducible apply le_pl | with_reducible apply dg_le)); done) | assumption | omega | (simp only [World.size_alloc, World.size_setCell, World.size_drew]; first | done | omega | (repeat (first | with_reducible assumption | with_reducible exact dg_gt _ | with_reducible apply Nat.lt_succ_of_lt | with_reducible apply dg_lt | with_reducible apply le_pl | with_reducible apply Nat.le_trans ?_ (dg_size _))))))) _))⟩
  · go_wp2_with fail
    refine Calls.mono (pickG (k := 4) (by (repeat (first | with_reducible assumption | with_reducible exact rd_ext _ | with_reducible exact Hid.out (by assumption) | with_reducible apply rd_al | with_reducible apply rd_drew | (with_reducible apply rd_set; rotate_left; (focus (first | ((repeat (first | with_reducible assumption | omega | with_reducible exact dg_gt _ | (simp only [World.size_alloc, World.size_setCell, World.size_drew]) | with_reducible apply Nat.lt_succ_of_lt | with_reducible apply dg_lt | with_reducible apply le_pl | with_reducible apply dg_le)); done) | assumption | omega | (simp only [World.size_alloc, World.size_setCell, World.size_drew]; first | done | omega | (repeat (first | with_reducible assumption | with_reducible exact dg_gt _ | with_reducible apply Nat.lt_succ_of_lt | with_reducible apply dg_lt | with_reducible apply le_pl | with_reducible apply Nat.le_trans ?_ (dg_size _)))))))))) (by omega) (by omega)) ?_
    rintro e w2 ⟨v, rfl, ⟨u, rfl, hu⟩, hr2, hc2⟩
    have hu := hu (by omega)
    obtain ⟨yu, hyu, hlu⟩ := lit_get [-1, 10, 4, 1] (j := u) (by simp only [List.length_cons, List.length_nil]; omega)
    have nb : ¬ w1.heap.size = g := by omega
    have hcl : w2.cell? ⟨w1.heap.size, u, none⟩ = some (.int .i64 yu) := (((Blk.new w1 3 (ints .i64 [-1, 10, 4, 1]).toArray).chg hc2 nb).cell u).trans (by simpa using hlu)
    have C2 := Lib.hid (ChgG.trans (a := w) (chg_al C1.out _) hc2)
    have D6 := Lib.hid ((B6.out.al (.cells (ints .i64 [-1, 10, 4, 1]).toArray 3)).chg hc2 ne0)
    have D7 := Lib.hid ((B7.out.al (.cells (ints .i64 [-1, 10, 4, 1]).toArray 3)).chg hc2 ne1)
    have R2 := Lib.hid hr2
    clear hr2 hc2 C1 B6 B7 R1 hyu hlu
    have C1 := C2
    have B6 := D6
    have B7 := D7
    clear C2 D6 D7
    obtain ⟨u0, u1, u2, u3, u4, u5, u6, u7, c0, c1, c2, c3, c4, c5, c6, c7⟩ := B6.out.all
    obtain ⟨v0, v1, v2, v3, v4, v5, v6, v7, d0, d1, d2, d3, d4, d5, d6, d7⟩ := B7.out.all
    have f6 := B6.out.fz
    have f7 := B7.out.fz
    have l6 := B6.out.lt
    have l7 := B7.out.lt
    go_wp2
    refine body_boxN (t := w.heap.size + 1) (by have := B7.out; (repeat (first | with_reducible assumption | with_reducible exact BoxN.new _ _ _ _ _ _ _ _ (by first | with_reducible rfl | (simp only [World.size_alloc]; done) | (simp only [World.size_alloc]; omega)) | with_reducible apply BoxN.set0 | with_reducible apply BoxN.set1 | with_reducible apply BoxN.set2 | with_reducible apply BoxN.set3 | with_reducible apply BoxN.set4 | with_reducible apply BoxN.set5 | with_reducible apply BoxN.set6 | with_reducible apply BoxN.set7 | with_reducible apply BoxN.al | with_reducible apply BoxN.drew | (with_reducible apply BoxN.ext; rotate_left; (first | assumption | omega)) | (with_reducible apply BoxN.far; rotate_left; (simp only; omega))))) ?_
    rintro E hE x0 x1 x2 x3 x4 x5 x6 x7 e0 e1 e2 e3 e4 e5 e6 e7
    refine bodyPost_ret (by simp [results, Try.results131, go_sem, e0, e1, e2, e3, e4, e5, e6, e7]; try rfl) rfl ?_
    rw [hE]
    refine ⟨_, rfl, ⟨_, _, _, _, _, _, _, _, rfl⟩, RdLe.mono (by (repeat (first | with_reducible assumption | with_reducible exact rd_ext _ | with_reducible exact Hid.out (by assumption) | with_reducible apply rd_al | with_reducible apply rd_drew | (with_reducible apply rd_set; rotate_left; (focus (first | ((repeat (first | with_reducible assumption | omega | with_reducible exact dg_gt _ | (simp only [World.size_alloc, World.size_setCell, World.size_drew]) | with_reducible apply Nat.lt_succ_of_lt | with_reducible apply dg_lt | with_reducible apply le_pl | with_reducible apply dg_le)); done) | assumption | omega | (simp only [World.size_alloc, World.size_setCell, World.size_drew]; first | done | omega | (repeat (first | with_reducible assumption | with_reducible exact dg_gt _ | with_reducible apply Nat.lt_succ_of_lt | with_reducible apply dg_lt | with_reducible apply le_pl | with_reducible apply Nat.le_trans ?_ (dg_size _)))))))))) (by omega), by have := C1.out; (repeat (first | with_reducible exact ChgG.refl _ _ | with_reducible assumption | with_reducible refine chg_ext ?_ _ | with_reducible refine chg_al ?_ _ | with_reducible refine chg_drew ?_ | with_reducible refine chg_set ?_ (by (focus (first | ((repeat (first | with_reducible assumption | omega | with_reducible exact dg_gt _ | (simp only [World.size_alloc, World.size_setCell, World.size_drew]) | with_reducible apply Nat.lt_succ_of_lt | with_reducible apply dg_lt | with_reducible apply le_pl | with_reducible apply dg_le)); done) | assumption | omega | (simp only [World.size_alloc, World.size_setCell, World.size_drew]; first | done | omega | (repeat (first | with_reducible assumption | with_reducible exact dg_gt _ | with_reducible apply Nat.lt_succ_of_lt | with_reducible apply dg_lt | with_reducible apply le_pl | with_reducible apply Nat.le_trans ?_ (dg_size _))))))) _))⟩

end Go.Proofs.Ytnjoofpllhbccaa
