/- The draws of a procedure that counts, and of one that calls. No condition. -/
import Derived.Test.YtcdfomoglkhboaaGreatDoorDrU
import Derived.Test.YtcdfomoglkhboaaGreatDoorDrP
import Derived.Test.YtcdfomoglkhboaaGreatDoorDrO
namespace Go.Proofs.YtcdfomoglkhboaaGreatDoor
open Go.RowKit
set_option linter.unusedVariables false
set_option linter.unusedSimpArgs false
attribute [local go_sem] dg_cell dg_frozen dg_lt dg_lt1 dg_lt2 dg_ne dg_ne1 dg_ne2 dg_new dg_wen lt_s2 lt_s3 lt_s4 lt_s5 lt_s6

/-- A block of code, in a slice's value; it is none of these. -/
def PrC (F : Nat → Prop) (m n : Nat) (W : World) (v : Value) : Prop := ∃ bc, v = .slice (some ⟨bc, 0, none⟩) n n ∧ CodeB bc n n W ∧ ¬ F bc ∧ m < bc
def prCode {F : Nat → Prop} (m n : Nat) : Pr F := ⟨PrC F m n, fun _ _ _ c ⟨bc, h1, h2, h3, h4⟩ => ⟨bc, h1, h2.chg c h3, h3, h4⟩⟩
/-- A procedure's box that has a block of code. -/
def BoxC (b n : Nat) (lo hi : Int) (F : Nat → Prop) (W : World) : Prop := ∃ bc, Blk W b 56 #[.int .i64 lo, .int .i64 hi, .slice (some ⟨bc, 0, none⟩) n n] ∧ CodeB bc n n W ∧ ¬ F bc ∧ b < bc
section
variable {ops : Array Oper} {Q : Exit → Act → World → Prop} {a0 : Act} {g PP : Nat} {c : Nat → Nat} {J J' : World → Prop} {F : Nat → Prop} {R : Nat → World → Value → Prop} {i : Nat} {o : Oper}
theorem ds_code (n : Nat) (parts : Array (Nat × Operand)) (hop : o.op = .buildSlice 54 n parts) (hn : n ≤ maxLen)
    (h : ∀ (a : Act) (w : World), (∀ d, (∀ i, dstOf ops i ≠ some d) → a.eval (.tmp d) = a0.eval (.tmp d)) → (∀ e, e ∈ o.after.toList → Region.binds .any e = true → ∀ d, dstOf ops e.on = some d → R e.on w (a.eval (.tmp d))) →
      ∃ vs : Array (Nat × Value), parts.map (fun x => (x.1, a.eval x.2)) = vs ∧ ∃ is : List Ins, is.length = n ∧ ∀ W : World, (Instr.buildSlice 54 n vs).run Tryz.prog W = .ok (.slice (some ⟨W.heap.size, 0, none⟩) n n) (W.alloc (.cells (is.flatMap Ins.cells).toArray 38)))
    {m : Nat} (hR : ∀ W v, PrC F m n W v → R i W v) (hJ : ∀ W o, J W → J (W.alloc o)) (hF : ∀ W, J W → ∀ b, F b → b < W.heap.size) (hm : ∀ W, J W → m < W.heap.size) : DStep Tryz.prog ops Q a0 g PP c J F R i o := by
  intro a w p hp hJ1 hr hf hd
  obtain ⟨vs, h1, is, h2, h3⟩ := h a w hf hd
  refine op_val (h := ?_) ⟨_, rfl, hR _ _ ⟨w.heap.size, rfl, CodeB.new is rfl h2 hn, fun hb => absurd (hF w hJ1 _ hb) (by omega), hm w hJ1⟩, hJ _ _ hJ1, (rd_al hr _).mono (by omega), Chg.of_below (grew_al (Below.refl _ _) _)⟩
  simp only [execOp, hop]
  have h1' : (Array.map (fun x => match x with | (i, x) => (i, a.eval x)) parts) = vs := h1
  rw [h1']
  simp [h3, Result.andThen]
/-- A block of code is put into a procedure's box. -/
theorem ds_storeC (b n : Nat) (lo hi : Int) (dp dv kp kd : Nat) (hop : o.op = .store 54 (.tmp dp) (.tmp dv)) (h0 : Dep ops o kp dp) (h1 : Dep ops o kd dv) (hs0 : ∀ W v, R kp W v → v = .pointer (some ⟨b, 2, none⟩)) (hs : ∀ W v, R kd W v → PrC F b n W v)
    (hJ : ∀ W, J W → Blk W b 56 #[.int .i64 lo, .int .i64 hi, .slice none 0 0]) (hJ2 : ∀ W W', J W → Chg (fun k => k = b) W W' → BoxC b n lo hi F W' → J' W') (hg : g < b) (hF : F b) (hR : ∀ W v, R i W v) : DStp Tryz.prog ops Q a0 g PP c J J' F R i o := by
  intro a w p hp hJ1 hr hf hd
  have e0 := hs0 _ _ (dep_of h0 hd)
  obtain ⟨bc, e1, hcb, hbF, hbc⟩ := hs _ _ (dep_of h1 hd)
  have hb := hJ w hJ1
  have c2 : w.cell? ⟨b, 2, none⟩ = some (.slice none 0 0) := hb.cell 2
  have f2 : w.frozen? ⟨b, 2, none⟩ = false := hb.frozen 2
  have hne : ¬ bc = b := fun e => hbF (e ▸ hF)
  have hch : Chg (fun k => k = b) w (w.setCell ⟨b, 2, none⟩ (.slice (some ⟨bc, 0, none⟩) n n)) := chg1 (Chg.refl _ _) _
  refine op_skip (w' := w.setCell ⟨b, 2, none⟩ (.slice (some ⟨bc, 0, none⟩) n n)) ?_ ⟨_, rfl, hR _ _, hJ2 _ _ hJ1 hch ⟨bc, hb.set_ 2 _, hcb.far hne _, hbF, hbc⟩, (hr.chg hch (fun k hk e => by omega)).mono (by omega), ⟨hch.os, hch.tape, hch.output, hch.size, fun k hk hn => hch.block k hk (fun e => hn (e ▸ hF))⟩⟩
  simp only [execOp, hop, e0, e1]
  simp [go_sem, c2, f2]
end
section
variable {ops : Array Oper} {Q : Exit → Act → World → Prop} {a0 : Act} {g PP : Nat} {c : Nat → Nat} {J J' : World → Prop} {F : Nat → Prop} {R : Nat → World → Value → Prop} {i : Nat} {o : Oper}
theorem ds_storeJ (ad : Addr) (d1 k1 d2 k2 : Nat) (hop : o.op = .store 3 (.tmp d1) (.tmp d2)) (h1 : Dep ops o k1 d1) (h2 : Dep ops o k2 d2) (hs1 : ∀ W v, R k1 W v → v = .pointer (some ad)) (hs2 : ∀ W v, R k2 W v → IsInt v)
    (hJ : ∀ W, J W → ∃ x, W.cell? ad = some x ∧ W.frozen? ad = false ∧ x.oneCell' = true) (hJ2 : ∀ W (y : Int), J W → J (W.setCell ad (.int .i64 y))) (hg : g < ad.block) (hF : F ad.block) (hR : ∀ W v, R i W v) : DStep Tryz.prog ops Q a0 g PP c J F R i o := by
  intro a w p hp hJ1 hr hf hd
  have e1 := hs1 _ _ (dep_of h1 hd)
  obtain ⟨y, e2⟩ := hs2 _ _ (dep_of h2 hd)
  obtain ⟨x, hx, hfz, hone⟩ := hJ w hJ1
  refine op_skip (w' := w.setCell ad (.int .i64 y)) ?_ ⟨_, rfl, hR _ _, hJ2 _ _ hJ1, (rd_set hr hg _).mono (by omega), ⟨rfl, rfl, rfl, by simp, fun k hk hn => Below.heap_setCell w ad _ k (fun e => hn (e ▸ hF))⟩⟩
  simp only [execOp, hop, e1, e2]
  simp [go_sem, hx, hfz]
/-- A step is put into a block of code. -/
theorem ds_storeK (bc n cap at_ : Nat) (d1 k1 d2 k2 : Nat) (hop : o.op = .store 38 (.tmp d1) (.tmp d2)) (h1 : Dep ops o k1 d1) (h2 : Dep ops o k2 d2) (hs1 : ∀ W v, R k1 W v → v = .pointer (some ⟨bc, at_, none⟩)) (hs2 : ∀ W v, R k2 W v → IsIns v) (hat : at_ + 8 ≤ n * 8)
    (hJ : ∀ W, J W → CodeB bc n cap W) (hJ2 : ∀ W W', J W → CodeB bc n cap W' → Chg (fun b => b = bc) W W' → J W') (hg : g < bc) (hF : F bc) (hR : ∀ W v, R i W v) : DStep Tryz.prog ops Q a0 g PP c J F R i o := by
  intro a w p hp hJ1 hr hf hd
  have e1 := hs1 _ _ (dep_of h1 hd)
  obtain ⟨y0, y1, y2, y3, y4, y5, y6, y7, e2⟩ := hs2 _ _ (dep_of h2 hd)
  have hk := hJ w hJ1
  obtain ⟨x0, c0⟩ := hk.get (i := at_) (by omega)
  obtain ⟨x1, c1⟩ := hk.get (i := at_ + 1) (by omega)
  obtain ⟨x2, c2⟩ := hk.get (i := at_ + 2) (by omega)
  obtain ⟨x3, c3⟩ := hk.get (i := at_ + 3) (by omega)
  obtain ⟨x4, c4⟩ := hk.get (i := at_ + 4) (by omega)
  obtain ⟨x5, c5⟩ := hk.get (i := at_ + 5) (by omega)
  obtain ⟨x6, c6⟩ := hk.get (i := at_ + 6) (by omega)
  obtain ⟨x7, c7⟩ := hk.get (i := at_ + 7) (by omega)
  have fz := fun j => hk.fz j
  obtain ⟨W2, hW2⟩ : ∃ W2, W2 = ((((((((w.setCell ⟨bc, at_, none⟩ (.int .i64 y0)).setCell ⟨bc, at_ + 1, none⟩ (.int .i64 y1)).setCell ⟨bc, at_ + 2, none⟩ (.int .i64 y2)).setCell ⟨bc, at_ + 3, none⟩ (.int .i64 y3)).setCell ⟨bc, at_ + 4, none⟩ (.int .i64 y4)).setCell ⟨bc, at_ + 5, none⟩ (.int .i64 y5)).setCell ⟨bc, at_ + 6, none⟩ (.int .i64 y6)).setCell ⟨bc, at_ + 7, none⟩ (.int .i64 y7)) := ⟨_, rfl⟩
  have hk2 : CodeB bc n cap W2 := by
    rw [hW2]
    exact (((((((hk.set (by omega) y0).set (by omega) y1).set (by omega) y2).set (by omega) y3).set (by omega) y4).set (by omega) y5).set (by omega) y6).set (by omega) y7
  have hch : Chg (fun b => b = bc) w W2 := by
    rw [hW2]
    exact chg1 (chg1 (chg1 (chg1 (chg1 (chg1 (chg1 (chg1 (Chg.refl _ _) _) _) _) _) _) _) _) _
  refine op_skip (w' := W2) ?_ ⟨_, rfl, hR _ _, hJ2 _ _ hJ1 hk2 hch, (hr.chg hch (fun b hb e => by omega)).mono (by omega), ⟨hch.os, hch.tape, hch.output, hch.size, fun k hk hn => hch.block k hk (fun e => hn (e ▸ hF))⟩⟩
  simp only [execOp, hop, e1, e2]
  rw [hW2]
  simp [go_sem, fz, c0, c1, c2, c3, c4, c5, c6, c7]
theorem ds_mul (d : Tmp) (k n : Nat) (hop : o.op = .binOp .mul 3 (.const (.int .i64 n)) (.tmp d) 3) (h1 : Dep ops o k d) (hs : ∀ W v, R k W v → IsInt v) (hR : ∀ W v, IsInt v → R i W v) : DStep Tryz.prog ops Q a0 g PP c J F R i o := by
  intro a w p hp hJ hr hf hd
  obtain ⟨x, hx⟩ := hs _ _ (dep_of h1 hd)
  refine op_val (v := .int .i64 (IntKind.i64.wrap ((n : Int) * x))) (w' := w) ?_ ⟨_, rfl, hR _ _ ⟨_, rfl⟩, hJ, hr.mono (by omega), Chg.refl _ _⟩
  simp only [execOp, hop, hx, eval_const]
  simp [go_sem]
  try rfl
end

set_option maxRecDepth 100000 in
set_option maxHeartbeats 2000000 in
theorem loopG {g P : Nat} {w : World} (h : RdLe w g P) (hp : P + 400 ≤ 1099511627776) :
    Calls Tryz.prog 114 #[.pointer (some ⟨g, 0, none⟩)] w (RetPrc g (P + 400) w.heap.size w) := by
  have lt0 := h.lt
  obtain ⟨ne0, ne1, ne2, ne3, ne4, ne5⟩ : ¬ w.heap.size = g ∧ ¬ w.heap.size + 1 = g ∧ ¬ w.heap.size + 1 + 1 = g ∧ ¬ w.heap.size + 1 + 1 + 1 = g ∧ ¬ w.heap.size + 1 + 1 + 1 + 1 = g ∧ ¬ w.heap.size + 1 + 1 + 1 + 1 + 1 = g := by omega
  have HP := Lib.hid h; clear h
  go_enter Tryz.func114, Tryz.ntmps114
  go_wp2_with fail
  refine Calls.mono (pickG (k := 5) (P := P) (g_rd) (by omega) (by omega)) ?_
  rintro e w1 ⟨v, rfl, ⟨u1, rfl, hu1⟩, hr, hc⟩
  have hu1 := hu1 (by omega)
  obtain ⟨yu1, hy, hl⟩ := lit_get [3, 4, 10, 7, 100] (j := u1) (by simp only [List.length_cons, List.length_nil]; omega)
  have l0 : (w.alloc (.cells Zp 56)).heap.size = w.heap.size + 1 := by simp
  have hcl : w1.cell? ⟨w.heap.size + 1, u1, none⟩ = some (.int .i64 yu1) := (((Blk.new (w.alloc (.cells Zp 56)) 3 (ints .i64 [3, 4, 10, 7, 100]).toArray).chg hc (by rw [l0]; exact ne1)).cell u1).trans (by simpa using hl) |> fun h => by rw [l0] at h; exact h
  have C1 := Lib.hid (ChgG.trans (chg_al (chg_al (ChgG.refl g w) (.cells Zp 56)) (.cells (ints .i64 [3, 4, 10, 7, 100]).toArray 3)) hc)
  have Z1 := Lib.hid (((Blk.new w 56 Zp).alloc (.cells (ints .i64 [3, 4, 10, 7, 100]).toArray 3)).chg hc ne0)
  have R1 := Lib.hid hr
  have l1 := hr.lt
  clear hr hc hy hl HP l0
  go_wp2_with fail
  refine Calls.mono (pickG (k := 2) (P := P + 1) (g_rd) (by omega) (by omega)) ?_
  rintro e w2 ⟨v, rfl, ⟨u2, rfl, hu2⟩, hr, hc⟩
  have hu2 := hu2 (by omega)
  obtain ⟨yu2, hy, hl⟩ := lit_get [1, 2] (j := u2) (by simp only [List.length_cons, List.length_nil]; omega)
  have nw1 : ¬ w1.heap.size = g := by omega
  have hclu2 : w2.cell? ⟨w1.heap.size, u2, none⟩ = some (.int .i64 yu2) := (((Blk.new w1 3 (ints .i64 [1, 2]).toArray).chg hc nw1).cell u2).trans (by simpa using hl)
  have C2 := Lib.hid (ChgG.trans (chg_al C1.out (.cells (ints .i64 [1, 2]).toArray 3)) hc)
  have Z2 := Lib.hid ((Z1.out.alloc (.cells (ints .i64 [1, 2]).toArray 3)).chg hc ne0)
  have R2 := Lib.hid hr
  have l2 := hr.lt
  clear hr hc hy hl C1 Z1 R1
  go_wp2_with fail
  refine Calls.mono (pickG (k := 3) (P := P + 1 + 1) (g_rd) (by omega) (by omega)) ?_
  rintro e w3 ⟨v, rfl, ⟨u3, rfl, hu3⟩, hr, hc⟩
  have hu3 := hu3 (by omega)
  obtain ⟨yu3, hy, hl⟩ := lit_get [0, 3, 10] (j := u3) (by simp only [List.length_cons, List.length_nil]; omega)
  have nw2 : ¬ w2.heap.size = g := by omega
  have hclu3 : w3.cell? ⟨w2.heap.size, u3, none⟩ = some (.int .i64 yu3) := (((Blk.new w2 3 (ints .i64 [0, 3, 10]).toArray).chg hc nw2).cell u3).trans (by simpa using hl)
  have C3 := Lib.hid (ChgG.trans (chg_al C2.out (.cells (ints .i64 [0, 3, 10]).toArray 3)) hc)
  have Z3 := Lib.hid ((Z2.out.alloc (.cells (ints .i64 [0, 3, 10]).toArray 3)).chg hc ne0)
  have R3 := Lib.hid hr
  have l3 := hr.lt
  clear hr hc hy hl C2 Z2 R2
  have ls3 := C3.out.size
  have nb5 : ¬ w3.heap.size = g := by omega
  have nzb : ¬ w.heap.size = w3.heap.size := by have := Z3.out.lt; omega
  obtain ⟨b5, hb5⟩ : ∃ b, w3.heap.size = b := ⟨_, rfl⟩
  go_wp2_with fail
  try simp only [hb5]
  have hPP : P + 1 + 1 + 1 + 3 ≤ 1099511627776 := by omega
  have hB5 : Blk (w3.alloc (.cells #[.int .i64 0, .int .i64 yu3, .slice none 0 0] 56)) b5 56 #[.int .i64 0, .int .i64 yu3, .slice none 0 0] := by subst hb5; exact Blk.new _ _ _
  rw [hb5] at nb5 nzb
  have hg5 : g < b5 := by omega
  have hz5 : w.heap.size < b5 := by omega
  have hJC : ∀ W W', (ChgG g w W ∧ Blk W w.heap.size 56 Zp ∧ Blk W b5 56 #[.int .i64 0, .int .i64 yu3, .slice none 0 0]) → ChgG g W W' → (ChgG g w W' ∧ Blk W' w.heap.size 56 Zp ∧ Blk W' b5 56 #[.int .i64 0, .int .i64 yu3, .slice none 0 0]) := fun W W' h c => ⟨h.1.trans c, h.2.1.chg c ne0, h.2.2.chg c nb5⟩
  have hJA : ∀ W o, (ChgG g w W ∧ Blk W w.heap.size 56 Zp ∧ Blk W b5 56 #[.int .i64 0, .int .i64 yu3, .slice none 0 0]) → (ChgG g w (W.alloc o) ∧ Blk (W.alloc o) w.heap.size 56 Zp ∧ Blk (W.alloc o) b5 56 #[.int .i64 0, .int .i64 yu3, .slice none 0 0]) := fun W o h => ⟨chg_al h.1 o, h.2.1.alloc o, h.2.2.alloc o⟩
  have hFJ : ∀ W, (ChgG g w W ∧ Blk W w.heap.size 56 Zp ∧ Blk W b5 56 #[.int .i64 0, .int .i64 yu3, .slice none 0 0]) → ∀ b, (b = g ∨ b = b5 ∨ b = w.heap.size) → b < W.heap.size := fun W h b hb => by
    have h1 := h.2.2.lt
    have h2 := h.2.1.lt
    rcases hb with rfl | rfl | rfl <;> omega
  refine region_drawE g (P + 1 + 1 + 1) 3 73 26 12 [0, 0, 0, 0, 1, 0, 0, 0, 0, 0, 0, 1, 0, 0, 0, 0, 0, 0, 0, 1, 0, 0, 0, 0, 0, 0, 0] (fun W => ChgG g w W ∧ Blk W w.heap.size 56 Zp ∧ Blk W b5 56 #[.int .i64 0, .int .i64 yu3, .slice none 0 0]) (fun W => ChgG g w W ∧ Blk W w.heap.size 56 Zp ∧ BoxC b5 8 0 yu3 (fun b => b = g ∨ b = b5 ∨ b = w.heap.size) W) (fun b => b = g ∨ b = b5 ∨ b = w.heap.size)
    [prV (fun v => v = .int .i64 yu1), prV (fun v => v = .int .i64 yu1), prV IsIns, prV (fun v => v = .pointer (some ⟨g, 0, none⟩)), prV (IsNat 2), prV IsInt, prV IsIns, prV (fun v => v = .int .i64 yu2), prV IsIns, prSl 2, prV (fun v => v = .pointer (some ⟨g, 0, none⟩)), prV (IsNat 2), prPt, prV IsInt, prV IsIns, prV IsIns, prV IsIns, prSl 3, prV (fun v => v = .pointer (some ⟨g, 0, none⟩)), prV (IsNat 3), prPt, prV IsInt, prV IsIns, prV IsIns, prCode b5 8, prV (fun v => v = .pointer (some ⟨b5, 2, none⟩)), prT]
    (by kernel_rfl) rfl (by kernel_rfl) (by kernel_rfl) (by kernel_rfl) (by decide) ⟨chg_drew (chg_al C3.out _), (Z3.out.alloc _).grew (grew_d (Below.refl _ _)), hB5.grew (grew_d (Below.refl _ _))⟩ (rd_al R3.out _) ⟨?_, ?_, ?_, ?_, ?_, ?_, ?_, ?_, ?_, ?_, ?_, ?_, ?_, ?_, ?_, ?_, ?_, ?_, ?_, ?_, ?_, ?_, ?_, ?_, ?_, ?_, ?_, trivial⟩ ?_
  · refine ⟨fun _ => ?_, fun h => by cases h⟩
    exact ds_move 3 _ rfl (by kernel_rfl) rfl (fun _ => rfl)
  · refine ⟨fun _ => ?_, fun h => by cases h⟩
    exact ds_move 3 _ rfl (by kernel_rfl) rfl (fun _ => rfl)
  · refine ⟨fun _ => ?_, fun h => by cases h⟩
    exact ds_build _ _ rfl (fun a W hf hd => by
        have h5 : a.eval (.tmp 22) = .int .i64 yu1 := dep_of (k := 0) (d := 22) ⟨⟨⟨0, .data⟩, by simp, rfl, by kernel_rfl⟩, by kernel_rfl⟩ hd
        have h6 : a.eval (.tmp 23) = .int .i64 yu1 := dep_of (k := 1) (d := 23) ⟨⟨⟨1, .data⟩, by simp, rfl, by kernel_rfl⟩, by kernel_rfl⟩ hd
        exact ⟨#[(0, .int .i64 (5)), (1, .int .i64 (1)), (5, .int .i64 yu1), (6, .int .i64 yu1)], by simp [eval_const, h5, h6], .agg #[.int .i64 (5), .int .i64 (1), .int .i64 (0), .int .i64 (0), .int .i64 (0), .int .i64 yu1, .int .i64 yu1, .int .i64 (0)], fun W => by kernel_rfl, 5, 1, 0, 0, 0, yu1, yu1, 0, rfl⟩)
  · refine ⟨fun _ => ?_, fun h => by cases h⟩
    exact ds_move 0 _ rfl (by kernel_rfl) rfl (fun _ => rfl)
  · refine ⟨fun _ => ?_, fun h => by cases h⟩
    exact ds_pick 25 3 2 (fun _ _ => by kernel_rfl) ⟨⟨⟨3, .data⟩, by simp, rfl, by kernel_rfl⟩, by kernel_rfl⟩ (fun _ _ h => h) rfl hPP (by omega) (fun _ _ h => h) hJC (.inl rfl)
  · refine ⟨fun _ => ?_, fun h => by cases h⟩
    exact ds_add 26 4 1 rfl ⟨⟨⟨4, .data⟩, by simp, rfl, by kernel_rfl⟩, by kernel_rfl⟩ (fun _ _ h => isInt_of_nat h) (fun _ _ h => h)
  · refine ⟨fun _ => ?_, fun h => by cases h⟩
    exact ds_build _ _ rfl (fun a W hf hd => by
        obtain ⟨n6, h6⟩ := (dep_of (k := 5) (d := 27) ⟨⟨⟨5, .data⟩, by simp, rfl, by kernel_rfl⟩, by kernel_rfl⟩ hd : IsInt _)
        exact ⟨#[(0, .int .i64 (5)), (1, .int .i64 (2)), (5, .int .i64 (1)), (6, .int .i64 n6)], by simp [eval_const, h6], .agg #[.int .i64 (5), .int .i64 (2), .int .i64 (0), .int .i64 (0), .int .i64 (0), .int .i64 (1), .int .i64 n6, .int .i64 (0)], fun W => by kernel_rfl, 5, 2, 0, 0, 0, 1, n6, 0, rfl⟩)
  · refine ⟨fun _ => ?_, fun h => by cases h⟩
    exact ds_move 4 _ rfl (by kernel_rfl) rfl (fun _ => rfl)
  · refine ⟨fun _ => ?_, fun h => by cases h⟩
    exact ds_build _ _ rfl (fun a W hf hd => by
        have h4 : a.eval (.tmp 29) = .int .i64 yu2 := dep_of (k := 7) (d := 29) ⟨⟨⟨7, .data⟩, by simp, rfl, by kernel_rfl⟩, by kernel_rfl⟩ hd
        exact ⟨#[(0, .int .i64 (8)), (2, .int .i64 (1)), (4, .int .i64 yu2), (3, .int .i64 (3)), (7, .int .i64 (6))], by simp [eval_const, h4], .agg #[.int .i64 (8), .int .i64 (0), .int .i64 (1), .int .i64 (3), .int .i64 yu2, .int .i64 (0), .int .i64 (0), .int .i64 (6)], fun W => by kernel_rfl, 8, 0, 1, 3, yu2, 0, 0, 6, rfl⟩)
  · refine ⟨fun _ => ?_, fun h => by cases h⟩
    exact ds_lit 3 [7, 6] (fun a W => by kernel_rfl) (fun _ _ h => h) hJA hFJ
  · refine ⟨fun _ => ?_, fun h => by cases h⟩
    exact ds_move 0 _ rfl (by kernel_rfl) rfl (fun _ => rfl)
  · refine ⟨fun _ => ?_, fun h => by cases h⟩
    exact ds_pick 32 10 2 (fun _ _ => by kernel_rfl) ⟨⟨⟨10, .data⟩, by simp, rfl, by kernel_rfl⟩, by kernel_rfl⟩ (fun _ _ h => h) rfl hPP (by omega) (fun _ _ h => h) hJC (.inl rfl)
  · refine ⟨fun _ => ?_, fun h => by cases h⟩
    exact ds_index 31 33 9 11 2 rfl ⟨⟨⟨9, .data⟩, by simp, rfl, by kernel_rfl⟩, by kernel_rfl⟩ ⟨⟨⟨11, .data⟩, by simp, rfl, by kernel_rfl⟩, by kernel_rfl⟩ (fun _ _ h => h) (fun _ _ h => h) (by omega) (by omega) (fun _ _ h => h)
  · refine ⟨fun _ => ?_, fun h => by cases h⟩
    exact ds_load 34 12 rfl ⟨⟨⟨12, .data⟩, by simp, rfl, by kernel_rfl⟩, by kernel_rfl⟩ (fun _ _ h => h) (fun _ _ h => h)
  · refine ⟨fun _ => ?_, fun h => by cases h⟩
    exact ds_build _ _ rfl (fun a W hf hd => by
        obtain ⟨n0, h0⟩ := (dep_of (k := 13) (d := 35) ⟨⟨⟨13, .data⟩, by simp, rfl, by kernel_rfl⟩, by kernel_rfl⟩ hd : IsInt _)
        exact ⟨#[(0, .int .i64 n0), (2, .int .i64 (3))], by simp [eval_const, h0], .agg #[.int .i64 n0, .int .i64 (0), .int .i64 (3), .int .i64 (0), .int .i64 (0), .int .i64 (0), .int .i64 (0), .int .i64 (0)], fun W => by kernel_rfl, n0, 0, 3, 0, 0, 0, 0, 0, rfl⟩)
  · refine ⟨fun _ => ?_, fun h => by cases h⟩
    exact ds_build _ _ rfl (fun a W hf hd => by
        exact ⟨#[(0, .int .i64 (1)), (1, .int .i64 (3)), (2, .int .i64 (3)), (3, .int .i64 (2))], by simp [eval_const], .agg #[.int .i64 (1), .int .i64 (3), .int .i64 (3), .int .i64 (2), .int .i64 (0), .int .i64 (0), .int .i64 (0), .int .i64 (0)], fun W => by kernel_rfl, 1, 3, 3, 2, 0, 0, 0, 0, rfl⟩)
  · refine ⟨fun _ => ?_, fun h => by cases h⟩
    exact ds_build _ _ rfl (fun a W hf hd => by
        exact ⟨#[(0, .int .i64 (9)), (7, .int .i64 (2))], by simp [eval_const], .agg #[.int .i64 (9), .int .i64 (0), .int .i64 (0), .int .i64 (0), .int .i64 (0), .int .i64 (0), .int .i64 (0), .int .i64 (2)], fun W => by kernel_rfl, 9, 0, 0, 0, 0, 0, 0, 2, rfl⟩)
  · refine ⟨fun _ => ?_, fun h => by cases h⟩
    exact ds_lit 3 [2, 3, 1] (fun a W => by kernel_rfl) (fun _ _ h => h) hJA hFJ
  · refine ⟨fun _ => ?_, fun h => by cases h⟩
    exact ds_move 0 _ rfl (by kernel_rfl) rfl (fun _ => rfl)
  · refine ⟨fun _ => ?_, fun h => by cases h⟩
    exact ds_pick 40 18 3 (fun _ _ => by kernel_rfl) ⟨⟨⟨18, .data⟩, by simp, rfl, by kernel_rfl⟩, by kernel_rfl⟩ (fun _ _ h => h) rfl hPP (by omega) (fun _ _ h => h) hJC (.inl rfl)
  · refine ⟨fun _ => ?_, fun h => by cases h⟩
    exact ds_index 39 41 17 19 3 rfl ⟨⟨⟨17, .data⟩, by simp, rfl, by kernel_rfl⟩, by kernel_rfl⟩ ⟨⟨⟨19, .data⟩, by simp, rfl, by kernel_rfl⟩, by kernel_rfl⟩ (fun _ _ h => h) (fun _ _ h => h) (by omega) (by omega) (fun _ _ h => h)
  · refine ⟨fun _ => ?_, fun h => by cases h⟩
    exact ds_load 42 20 rfl ⟨⟨⟨20, .data⟩, by simp, rfl, by kernel_rfl⟩, by kernel_rfl⟩ (fun _ _ h => h) (fun _ _ h => h)
  · refine ⟨fun _ => ?_, fun h => by cases h⟩
    exact ds_build _ _ rfl (fun a W hf hd => by
        obtain ⟨n4, h4⟩ := (dep_of (k := 21) (d := 43) ⟨⟨⟨21, .data⟩, by simp, rfl, by kernel_rfl⟩, by kernel_rfl⟩ hd : IsInt _)
        exact ⟨#[(0, .int .i64 (11)), (2, .int .i64 (1)), (4, .int .i64 n4), (3, .int .i64 (3))], by simp [eval_const, h4], .agg #[.int .i64 (11), .int .i64 (0), .int .i64 (1), .int .i64 (3), .int .i64 n4, .int .i64 (0), .int .i64 (0), .int .i64 (0)], fun W => by kernel_rfl, 11, 0, 1, 3, n4, 0, 0, 0, rfl⟩)
  · refine ⟨fun _ => ?_, fun h => by cases h⟩
    exact ds_build _ _ rfl (fun a W hf hd => by
        exact ⟨#[(0, .int .i64 (12)), (2, .int .i64 (3))], by simp [eval_const], .agg #[.int .i64 (12), .int .i64 (0), .int .i64 (3), .int .i64 (0), .int .i64 (0), .int .i64 (0), .int .i64 (0), .int .i64 (0)], fun W => by kernel_rfl, 12, 0, 3, 0, 0, 0, 0, 0, rfl⟩)
  · refine ⟨fun _ => ?_, fun h => by cases h⟩
    refine ds_code 8 _ rfl (by decide) (fun a W hf hd => ?_) (fun _ _ h => h) hJA hFJ (fun W h => hFJ W h b5 (.inr (.inl rfl)))
    obtain ⟨i0, h0⟩ := isIns_v (dep_of (k := 2) (d := 24) ⟨⟨⟨2, .data⟩, by simp, rfl, by kernel_rfl⟩, by kernel_rfl⟩ hd : IsIns _)
    obtain ⟨i1, h1⟩ := isIns_v (dep_of (k := 6) (d := 28) ⟨⟨⟨6, .data⟩, by simp, rfl, by kernel_rfl⟩, by kernel_rfl⟩ hd : IsIns _)
    obtain ⟨i2, h2⟩ := isIns_v (dep_of (k := 8) (d := 30) ⟨⟨⟨8, .data⟩, by simp, rfl, by kernel_rfl⟩, by kernel_rfl⟩ hd : IsIns _)
    obtain ⟨i3, h3⟩ := isIns_v (dep_of (k := 14) (d := 36) ⟨⟨⟨14, .data⟩, by simp, rfl, by kernel_rfl⟩, by kernel_rfl⟩ hd : IsIns _)
    obtain ⟨i4, h4⟩ := isIns_v (dep_of (k := 15) (d := 37) ⟨⟨⟨15, .data⟩, by simp, rfl, by kernel_rfl⟩, by kernel_rfl⟩ hd : IsIns _)
    obtain ⟨i5, h5⟩ := isIns_v (dep_of (k := 16) (d := 38) ⟨⟨⟨16, .data⟩, by simp, rfl, by kernel_rfl⟩, by kernel_rfl⟩ hd : IsIns _)
    obtain ⟨i6, h6⟩ := isIns_v (dep_of (k := 22) (d := 44) ⟨⟨⟨22, .data⟩, by simp, rfl, by kernel_rfl⟩, by kernel_rfl⟩ hd : IsIns _)
    obtain ⟨i7, h7⟩ := isIns_v (dep_of (k := 23) (d := 45) ⟨⟨⟨23, .data⟩, by simp, rfl, by kernel_rfl⟩, by kernel_rfl⟩ hd : IsIns _)
    exact ⟨#[(0, i0.v), (1, i1.v), (2, i2.v), (3, i3.v), (4, i4.v), (5, i5.v), (6, i6.v), (7, i7.v)], by simp [h0, h1, h2, h3, h4, h5, h6, h7], [i0, i1, i2, i3, i4, i5, i6, i7], rfl, fun W => by kernel_rfl⟩
  · refine ⟨fun _ => ?_, fun h => by cases h⟩
    exact ds_field 5 2 _ _ rfl (by kernel_rfl) rfl (fun W => by kernel_rfl) (fun _ => rfl)
  · refine ⟨fun h => absurd rfl h, fun _ => ?_⟩
    exact ds_storeC b5 8 0 yu3 47 46 25 24 rfl ⟨⟨⟨25, .data⟩, by simp, rfl, by kernel_rfl⟩, by kernel_rfl⟩ ⟨⟨⟨24, .data⟩, by simp, rfl, by kernel_rfl⟩, by kernel_rfl⟩ (fun _ _ h => h) (fun _ _ h => h) (fun W h => h.2.2) (fun W W' h c hb => ⟨Chg.trans h.1 c (fun _ _ h => h) (fun i hi e => by omega), h.2.1.chg c nzb, hb⟩) hg5 (.inr (.inl rfl)) (fun _ _ => trivial)
  · rintro vs w5 ⟨hC, hZ, bc, hB, hK, hbF, hbc⟩ hP hR
    clear hR hJC hJA hFJ hPP hB5 C3 Z3 R3 hcl hclu2 hclu3
    have nbg : ¬ bc = g := by omega
    have nbb : ¬ bc = b5 := by omega
    have nbz : ¬ bc = w.heap.size := by omega
    have nbb' : ¬ b5 = bc := by omega
    have nzc : ¬ w.heap.size = bc := by omega
    have hgc : g < bc := by omega
    have C5 := Lib.hid hC
    have Z5 := Lib.hid hZ
    have B5 := Lib.hid hB
    have K5 := Lib.hid hK
    have R5 := Lib.hid hP
    have l5 := hP.lt
    clear hC hZ hB hK hP hbF
    have d2 : w5.cell? ⟨b5, 2, none⟩ = some (.slice (some ⟨bc, 0, none⟩) 8 8) := B5.out.cell 2
    obtain ⟨x24, c24⟩ := K5.out.get (i := 24) (by omega)
    obtain ⟨x25, c25⟩ := K5.out.get (i := 25) (by omega)
    obtain ⟨x27, c27⟩ := K5.out.get (i := 27) (by omega)
    have kf5 := fun j => K5.out.fz j
    have kl5 := K5.out.lt
    have bl5 := B5.out.lt
    simp only [putAll, Act.put, List.setIfInBounds_toArray, List.set_cons_zero, List.set_cons_succ]
    simp only [Nat.zero_add, Nat.reduceAdd]
    generalize vs 0 = e0
    generalize vs 1 = e1
    generalize vs 2 = e2
    generalize vs 3 = e3
    generalize vs 4 = e4
    generalize vs 5 = e5
    generalize vs 6 = e6
    generalize vs 7 = e7
    generalize vs 8 = e8
    generalize vs 9 = e9
    generalize vs 10 = e10
    generalize vs 11 = e11
    generalize vs 12 = e12
    generalize vs 13 = e13
    generalize vs 14 = e14
    generalize vs 15 = e15
    generalize vs 16 = e16
    generalize vs 17 = e17
    generalize vs 18 = e18
    generalize vs 19 = e19
    generalize vs 20 = e20
    generalize vs 21 = e21
    generalize vs 22 = e22
    generalize vs 23 = e23
    generalize vs 24 = e24
    generalize vs 25 = e25
    generalize vs 26 = e26
    clear vs
    by_cases h7 : x24 = 7
    · have b7 : (x24 == 7) = true := by simp [h7]
      clear h7
      go_wp2_with fail
      refine Calls.mono (pickG (k := 2) (P := P + 6) (rd_set R5.out (by simp only; omega) _) (by omega) (by omega)) ?_
      rintro e w7 ⟨v, rfl, ⟨q, rfl, hq⟩, hr, hc⟩
      have hq := hq (by omega)
      have C7 := Lib.hid (ChgG.trans (chg_set C5.out (by simp only; omega) _) hc)
      have Z7 := Lib.hid ((Z5.out.far (by simp only; omega) _).chg hc ne0)
      have B7 := Lib.hid ((B5.out.far (by simp only; omega) _).chg hc nb5)
      have K7 := Lib.hid ((K5.out.set (i := 27) (by omega) 2).chg hc nbg)
      have R7 : Hid (RdLe w7 g (P + 8)) := Lib.hid (hr.mono (by omega))
      have l7 := hr.lt
      clear hr hc C5 Z5 B5 K5 R5 d2 c24 c25 c27 kf5 kl5 bl5
      by_cases hq0 : q = 0
      · subst hq0
        have z0 : w7.cell? ⟨w.heap.size, 0, none⟩ = some (.int .i64 0) := Z7.out.cell 0
        have z1 : w7.cell? ⟨w.heap.size, 1, none⟩ = some (.int .i64 0) := Z7.out.cell 1
        have z2 : w7.cell? ⟨w.heap.size, 2, none⟩ = some (.slice none 0 0) := Z7.out.cell 2
        have zf := fun j => Z7.out.frozen j
        have zl := Z7.out.lt
        have d0 : w7.cell? ⟨b5, 0, none⟩ = some (.int .i64 0) := B7.out.cell 0
        have d1 : w7.cell? ⟨b5, 1, none⟩ = some (.int .i64 yu3) := B7.out.cell 1
        have d2 : w7.cell? ⟨b5, 2, none⟩ = some (.slice (some ⟨bc, 0, none⟩) 8 8) := B7.out.cell 2
        have kf := fun j => K7.out.fz j
        have kl := K7.out.lt
        obtain ⟨k24, hk24⟩ := K7.out.get (i := 24) (by omega)
        obtain ⟨k25, hk25⟩ := K7.out.get (i := 25) (by omega)
        obtain ⟨k26, hk26⟩ := K7.out.get (i := 26) (by omega)
        obtain ⟨k27, hk27⟩ := K7.out.get (i := 27) (by omega)
        obtain ⟨k28, hk28⟩ := K7.out.get (i := 28) (by omega)
        obtain ⟨k29, hk29⟩ := K7.out.get (i := 29) (by omega)
        obtain ⟨k30, hk30⟩ := K7.out.get (i := 30) (by omega)
        obtain ⟨k31, hk31⟩ := K7.out.get (i := 31) (by omega)
        obtain ⟨is, his, ho⟩ := CodeB.own (B := w.heap.size) (W := ((((((((w7.setCell ⟨bc, 24, none⟩ (.int .i64 2)).setCell ⟨bc, 25, none⟩ (.int .i64 0)).setCell ⟨bc, 26, none⟩ (.int .i64 0)).setCell ⟨bc, 27, none⟩ (.int .i64 2)).setCell ⟨bc, 28, none⟩ (.int .i64 0)).setCell ⟨bc, 29, none⟩ (.int .i64 0)).setCell ⟨bc, 30, none⟩ (.int .i64 0)).setCell ⟨bc, 31, none⟩ (.int .i64 0))) ((((((((((((((((K7.out).set (i := 24) (by omega) 2)).set (i := 25) (by omega) 0)).set (i := 26) (by omega) 0)).set (i := 27) (by omega) 2)).set (i := 28) (by omega) 0)).set (i := 29) (by omega) 0)).set (i := 30) (by omega) 0)).set (i := 31) (by omega) 0) (by omega)
        have HO := Lib.hid ho
        have HIS := Lib.hid his
        clear ho his
        (first | (simp only [Int.not_lt, Int.not_le] at *; go_simp) | skip)
        repeat go_step
        refine bodyPost_ret (by simp [results, Tryz.results114, go_sem, z0, z1, z2, zl]; try rfl) rfl ?_
        have hno : (Value.slice (some ⟨bc, 0, none⟩) 8 8).ownBlock ≠ some w.heap.size := fun e => by simp only [Value.ownBlock, Option.some.injEq] at e; omega
        refine ⟨_, _, _, is, rfl, ?_, by have := HIS.out; omega, ?_, ?_⟩
        · rw [HIS.out]
          exact owns_far (owns_far (owns_far HO.out hno _) hno _) hno _
        · exact (rd_set (rd_set (rd_set (rd_set (rd_set (rd_set (rd_set (rd_set (rd_set (rd_set (rd_set R7.out (by simp only; omega) _) (by simp only; omega) _) (by simp only; omega) _) (by simp only; omega) _) (by simp only; omega) _) (by simp only; omega) _) (by simp only; omega) _) (by simp only; omega) _) (by simp only; omega) _) (by simp only; omega) _) (by simp only; omega) _).mono (by omega)
        · exact chg_set (chg_set (chg_set (chg_set (chg_set (chg_set (chg_set (chg_set (chg_set (chg_set (chg_set C7.out (by simp only; omega) _) (by simp only; omega) _) (by simp only; omega) _) (by simp only; omega) _) (by simp only; omega) _) (by simp only; omega) _) (by simp only; omega) _) (by simp only; omega) _) (Nat.le_refl _) _) (Nat.le_refl _) _) (Nat.le_refl _) _
      · have q0 : ((q : Int) == 0) = false := by simp; omega
        have z0 : w7.cell? ⟨w.heap.size, 0, none⟩ = some (.int .i64 0) := Z7.out.cell 0
        have z1 : w7.cell? ⟨w.heap.size, 1, none⟩ = some (.int .i64 0) := Z7.out.cell 1
        have z2 : w7.cell? ⟨w.heap.size, 2, none⟩ = some (.slice none 0 0) := Z7.out.cell 2
        have zf := fun j => Z7.out.frozen j
        have zl := Z7.out.lt
        have d0 : w7.cell? ⟨b5, 0, none⟩ = some (.int .i64 0) := B7.out.cell 0
        have d1 : w7.cell? ⟨b5, 1, none⟩ = some (.int .i64 yu3) := B7.out.cell 1
        have d2 : w7.cell? ⟨b5, 2, none⟩ = some (.slice (some ⟨bc, 0, none⟩) 8 8) := B7.out.cell 2
        have kf := fun j => K7.out.fz j
        have kl := K7.out.lt
        obtain ⟨is, his, ho⟩ := CodeB.own (B := w.heap.size) (W := w7) K7.out (by omega)
        have HO := Lib.hid ho
        have HIS := Lib.hid his
        clear ho his
        (first | (simp only [Int.not_lt, Int.not_le] at *; go_simp) | skip)
        repeat go_step
        refine bodyPost_ret (by simp [results, Tryz.results114, go_sem, z0, z1, z2, zl]; try rfl) rfl ?_
        have hno : (Value.slice (some ⟨bc, 0, none⟩) 8 8).ownBlock ≠ some w.heap.size := fun e => by simp only [Value.ownBlock, Option.some.injEq] at e; omega
        refine ⟨_, _, _, is, rfl, ?_, by have := HIS.out; omega, ?_, ?_⟩
        · rw [HIS.out]
          exact owns_far (owns_far (owns_far HO.out hno _) hno _) hno _
        · exact (rd_set (rd_set (rd_set R7.out (by simp only; omega) _) (by simp only; omega) _) (by simp only; omega) _).mono (by omega)
        · exact chg_set (chg_set (chg_set C7.out (Nat.le_refl _) _) (Nat.le_refl _) _) (Nat.le_refl _) _
    · have b7 : (x24 == 7) = false := by simp [h7]
      clear h7
      go_wp2_with fail
      have hPP : P + 6 + 1 ≤ 1099511627776 := by omega
      have hJC : ∀ W W', (ChgG g w W ∧ Blk W w.heap.size 56 Zp ∧ Blk W b5 56 #[.int .i64 0, .int .i64 yu3, .slice (some ⟨bc, 0, none⟩) 8 8] ∧ CodeB bc 8 8 W) → ChgG g W W' → (ChgG g w W' ∧ Blk W' w.heap.size 56 Zp ∧ Blk W' b5 56 #[.int .i64 0, .int .i64 yu3, .slice (some ⟨bc, 0, none⟩) 8 8] ∧ CodeB bc 8 8 W') := fun W W' h c => ⟨h.1.trans c, h.2.1.chg c ne0, h.2.2.1.chg c nb5, h.2.2.2.chg c nbg⟩
      refine region_drawL g (P + 6) 1 73 [0, 0, 0, 1, 0, 0, 0, 0] (fun W => ChgG g w W ∧ Blk W w.heap.size 56 Zp ∧ Blk W b5 56 #[.int .i64 0, .int .i64 yu3, .slice (some ⟨bc, 0, none⟩) 8 8] ∧ CodeB bc 8 8 W) (fun b => b = g ∨ b = bc)
        [prV (fun v => v = .pointer (some ⟨b5, 2, none⟩)), prV (fun v => v = .slice (some ⟨bc, 0, none⟩) 8 8), prV (fun v => v = .pointer (some ⟨g, 0, none⟩)), prV (IsNat 2), prV IsInt, prV (fun v => v = .pointer (some ⟨bc, 24, none⟩)), prV (fun v => v = .pointer (some ⟨bc, 25, none⟩)), prT]
        (by kernel_rfl) rfl (by kernel_rfl) (by kernel_rfl) ⟨chg_drew C5.out, Z5.out.grew (grew_d (Below.refl _ _)), B5.out.grew (grew_d (Below.refl _ _)), K5.out.drew⟩ (R5.out.mono (by omega)) ⟨?_, ?_, ?_, ?_, ?_, ?_, ?_, ?_, trivial⟩ ?_
      · exact ds_field 5 2 _ _ rfl (by kernel_rfl) rfl (fun W => by kernel_rfl) (fun _ => rfl)
      · refine ds_run (.slice (some ⟨bc, 0, none⟩) 8 8) (fun a W hJ hf hd => ?_) (fun _ => rfl)
        have e0 : a.eval (.tmp 58) = .pointer (some ⟨b5, 2, none⟩) := dep_of (k := 0) (d := 58) ⟨⟨⟨0, .data⟩, by simp, rfl, by kernel_rfl⟩, by kernel_rfl⟩ hd
        have c2 : W.cell? ⟨b5, 2, none⟩ = some (.slice (some ⟨bc, 0, none⟩) 8 8) := hJ.2.2.1.cell 2
        simp only [execOp, e0]
        simp [go_sem, c2]
      · exact ds_move 0 _ rfl (by kernel_rfl) rfl (fun _ => rfl)
      · exact ds_pick 60 2 2 (fun _ _ => by kernel_rfl) ⟨⟨⟨2, .data⟩, by simp, rfl, by kernel_rfl⟩, by kernel_rfl⟩ (fun _ _ h => h) rfl hPP (by omega) (fun _ _ h => h) hJC (.inl rfl)
      · exact ds_mul 61 3 2 rfl ⟨⟨⟨3, .data⟩, by simp, rfl, by kernel_rfl⟩, by kernel_rfl⟩ (fun _ _ h => isInt_of_nat h) (fun _ _ h => h)
      · refine ds_run (.pointer (some ⟨bc, 24, none⟩)) (fun a W hJ hf hd => ?_) (fun _ => rfl)
        have e0 : a.eval (.tmp 59) = .slice (some ⟨bc, 0, none⟩) 8 8 := dep_of (k := 1) (d := 59) ⟨⟨⟨1, .data⟩, by simp, rfl, by kernel_rfl⟩, by kernel_rfl⟩ hd
        simp only [execOp, e0, eval_const]
        simp [go_sem]
      · refine ds_run (.pointer (some ⟨bc, 25, none⟩)) (fun a W hJ hf hd => ?_) (fun _ => rfl)
        have e0 : a.eval (.tmp 63) = .pointer (some ⟨bc, 24, none⟩) := dep_of (k := 5) (d := 63) ⟨⟨⟨5, .data⟩, by simp, rfl, by kernel_rfl⟩, by kernel_rfl⟩ hd
        simp only [execOp, e0]
        simp [go_sem]
      · refine ds_storeJ ⟨bc, 25, none⟩ 64 6 62 4 rfl ⟨⟨⟨6, .data⟩, by simp, rfl, by kernel_rfl⟩, by kernel_rfl⟩ ⟨⟨⟨4, .data⟩, by simp, rfl, by kernel_rfl⟩, by kernel_rfl⟩ (fun _ _ h => h) (fun _ _ h => h) (fun W h => ?_) (fun W y h => ⟨chg_set h.1 (by simp only; omega) _, h.2.1.far (by simp only; omega) _, h.2.2.1.far (by simp only; omega) _, h.2.2.2.set (by omega) _⟩) hgc (.inr rfl) (fun _ _ => trivial)
        obtain ⟨x, hx⟩ := h.2.2.2.get (i := 25) (by omega)
        exact ⟨_, hx, h.2.2.2.fz 25, rfl⟩
      · rintro vs w6 ⟨hC, hZ, hB, hK⟩ hP hR
        clear hR hJC hPP C5 Z5 B5 K5 R5 d2 c24 c25 c27 kf5 kl5 bl5
        simp only [putAll, Act.put, List.setIfInBounds_toArray, List.set_cons_zero, List.set_cons_succ]
        simp only [Nat.zero_add, Nat.reduceAdd]
        generalize vs 0 = f0
        generalize vs 1 = f1
        generalize vs 2 = f2
        generalize vs 3 = f3
        generalize vs 4 = f4
        generalize vs 5 = f5
        generalize vs 6 = f6
        generalize vs 7 = f7
        clear vs
        have C6 := Lib.hid hC
        have Z6 := Lib.hid hZ
        have B6 := Lib.hid hB
        have K6 := Lib.hid hK
        have R6 := Lib.hid hP
        clear hC hZ hB hK hP
        go_wp2_with fail
        refine Calls.mono (pickG (k := 2) (P := P + 6 + 1) R6.out (by omega) (by omega)) ?_
        rintro e w7 ⟨v, rfl, ⟨q, rfl, hq⟩, hr, hc⟩
        have hq := hq (by omega)
        have C7 := Lib.hid (ChgG.trans C6.out hc)
        have Z7 := Lib.hid (Z6.out.chg hc ne0)
        have B7 := Lib.hid (B6.out.chg hc nb5)
        have K7 := Lib.hid (K6.out.chg hc nbg)
        have R7 : Hid (RdLe w7 g (P + 8)) := Lib.hid (hr.mono (by omega))
        have l7 := hr.lt
        clear hr hc C6 Z6 B6 K6 R6
        by_cases hq0 : q = 0
        · subst hq0
          have z0 : w7.cell? ⟨w.heap.size, 0, none⟩ = some (.int .i64 0) := Z7.out.cell 0
          have z1 : w7.cell? ⟨w.heap.size, 1, none⟩ = some (.int .i64 0) := Z7.out.cell 1
          have z2 : w7.cell? ⟨w.heap.size, 2, none⟩ = some (.slice none 0 0) := Z7.out.cell 2
          have zf := fun j => Z7.out.frozen j
          have zl := Z7.out.lt
          have d0 : w7.cell? ⟨b5, 0, none⟩ = some (.int .i64 0) := B7.out.cell 0
          have d1 : w7.cell? ⟨b5, 1, none⟩ = some (.int .i64 yu3) := B7.out.cell 1
          have d2 : w7.cell? ⟨b5, 2, none⟩ = some (.slice (some ⟨bc, 0, none⟩) 8 8) := B7.out.cell 2
          have kf := fun j => K7.out.fz j
          have kl := K7.out.lt
          obtain ⟨k24, hk24⟩ := K7.out.get (i := 24) (by omega)
          obtain ⟨k25, hk25⟩ := K7.out.get (i := 25) (by omega)
          obtain ⟨k26, hk26⟩ := K7.out.get (i := 26) (by omega)
          obtain ⟨k27, hk27⟩ := K7.out.get (i := 27) (by omega)
          obtain ⟨k28, hk28⟩ := K7.out.get (i := 28) (by omega)
          obtain ⟨k29, hk29⟩ := K7.out.get (i := 29) (by omega)
          obtain ⟨k30, hk30⟩ := K7.out.get (i := 30) (by omega)
          obtain ⟨k31, hk31⟩ := K7.out.get (i := 31) (by omega)
          obtain ⟨is, his, ho⟩ := CodeB.own (B := w.heap.size) (W := ((((((((w7.setCell ⟨bc, 24, none⟩ (.int .i64 2)).setCell ⟨bc, 25, none⟩ (.int .i64 0)).setCell ⟨bc, 26, none⟩ (.int .i64 0)).setCell ⟨bc, 27, none⟩ (.int .i64 2)).setCell ⟨bc, 28, none⟩ (.int .i64 0)).setCell ⟨bc, 29, none⟩ (.int .i64 0)).setCell ⟨bc, 30, none⟩ (.int .i64 0)).setCell ⟨bc, 31, none⟩ (.int .i64 0))) ((((((((((((((((K7.out).set (i := 24) (by omega) 2)).set (i := 25) (by omega) 0)).set (i := 26) (by omega) 0)).set (i := 27) (by omega) 2)).set (i := 28) (by omega) 0)).set (i := 29) (by omega) 0)).set (i := 30) (by omega) 0)).set (i := 31) (by omega) 0) (by omega)
          have HO := Lib.hid ho
          have HIS := Lib.hid his
          clear ho his
          (first | (simp only [Int.not_lt, Int.not_le] at *; go_simp) | skip)
          repeat go_step
          refine bodyPost_ret (by simp [results, Tryz.results114, go_sem, z0, z1, z2, zl]; try rfl) rfl ?_
          have hno : (Value.slice (some ⟨bc, 0, none⟩) 8 8).ownBlock ≠ some w.heap.size := fun e => by simp only [Value.ownBlock, Option.some.injEq] at e; omega
          refine ⟨_, _, _, is, rfl, ?_, by have := HIS.out; omega, ?_, ?_⟩
          · rw [HIS.out]
            exact owns_far (owns_far (owns_far HO.out hno _) hno _) hno _
          · exact (rd_set (rd_set (rd_set (rd_set (rd_set (rd_set (rd_set (rd_set (rd_set (rd_set (rd_set R7.out (by simp only; omega) _) (by simp only; omega) _) (by simp only; omega) _) (by simp only; omega) _) (by simp only; omega) _) (by simp only; omega) _) (by simp only; omega) _) (by simp only; omega) _) (by simp only; omega) _) (by simp only; omega) _) (by simp only; omega) _).mono (by omega)
          · exact chg_set (chg_set (chg_set (chg_set (chg_set (chg_set (chg_set (chg_set (chg_set (chg_set (chg_set C7.out (by simp only; omega) _) (by simp only; omega) _) (by simp only; omega) _) (by simp only; omega) _) (by simp only; omega) _) (by simp only; omega) _) (by simp only; omega) _) (by simp only; omega) _) (Nat.le_refl _) _) (Nat.le_refl _) _) (Nat.le_refl _) _
        · have q0 : ((q : Int) == 0) = false := by simp; omega
          have z0 : w7.cell? ⟨w.heap.size, 0, none⟩ = some (.int .i64 0) := Z7.out.cell 0
          have z1 : w7.cell? ⟨w.heap.size, 1, none⟩ = some (.int .i64 0) := Z7.out.cell 1
          have z2 : w7.cell? ⟨w.heap.size, 2, none⟩ = some (.slice none 0 0) := Z7.out.cell 2
          have zf := fun j => Z7.out.frozen j
          have zl := Z7.out.lt
          have d0 : w7.cell? ⟨b5, 0, none⟩ = some (.int .i64 0) := B7.out.cell 0
          have d1 : w7.cell? ⟨b5, 1, none⟩ = some (.int .i64 yu3) := B7.out.cell 1
          have d2 : w7.cell? ⟨b5, 2, none⟩ = some (.slice (some ⟨bc, 0, none⟩) 8 8) := B7.out.cell 2
          have kf := fun j => K7.out.fz j
          have kl := K7.out.lt
          obtain ⟨is, his, ho⟩ := CodeB.own (B := w.heap.size) (W := w7) K7.out (by omega)
          have HO := Lib.hid ho
          have HIS := Lib.hid his
          clear ho his
          (first | (simp only [Int.not_lt, Int.not_le] at *; go_simp) | skip)
          repeat go_step
          refine bodyPost_ret (by simp [results, Tryz.results114, go_sem, z0, z1, z2, zl]; try rfl) rfl ?_
          have hno : (Value.slice (some ⟨bc, 0, none⟩) 8 8).ownBlock ≠ some w.heap.size := fun e => by simp only [Value.ownBlock, Option.some.injEq] at e; omega
          refine ⟨_, _, _, is, rfl, ?_, by have := HIS.out; omega, ?_, ?_⟩
          · rw [HIS.out]
            exact owns_far (owns_far (owns_far HO.out hno _) hno _) hno _
          · exact (rd_set (rd_set (rd_set R7.out (by simp only; omega) _) (by simp only; omega) _) (by simp only; omega) _).mono (by omega)
          · exact chg_set (chg_set (chg_set C7.out (Nat.le_refl _) _) (Nat.le_refl _) _) (Nat.le_refl _) _

set_option maxRecDepth 100000 in
set_option maxHeartbeats 1000000 in
theorem deepG {g P : Nat} {self other : Int} {w : World} (h : RdLe w g P) (hp : P + 400 ≤ 1099511627776) :
    Calls Tryz.prog 115 #[.pointer (some ⟨g, 0, none⟩), .int .i64 self, .int .i64 other] w (RetPrc g (P + 400) w.heap.size w) := by
  have lt0 := h.lt
  obtain ⟨ne0, ne1, ne2, ne3, ne4, ne5⟩ : ¬ w.heap.size = g ∧ ¬ w.heap.size + 1 = g ∧ ¬ w.heap.size + 1 + 1 = g ∧ ¬ w.heap.size + 1 + 1 + 1 = g ∧ ¬ w.heap.size + 1 + 1 + 1 + 1 = g ∧ ¬ w.heap.size + 1 + 1 + 1 + 1 + 1 = g := by omega
  have HP := Lib.hid h; clear h
  go_enter Tryz.func115, Tryz.ntmps115
  go_wp2_with fail
  refine Calls.mono (pickG (k := 2) (P := P) (g_rd) (by omega) (by omega)) ?_
  rintro e w1 ⟨v, rfl, ⟨u1, rfl, hu1⟩, hr, hc⟩
  have hu1 := hu1 (by omega)
  obtain ⟨yu1, hy, hl⟩ := lit_get [3, 10] (j := u1) (by simp only [List.length_cons, List.length_nil]; omega)
  have l0 : (w.alloc (.cells Zp 56)).heap.size = w.heap.size + 1 := by simp
  have hcl : w1.cell? ⟨w.heap.size + 1, u1, none⟩ = some (.int .i64 yu1) := (((Blk.new (w.alloc (.cells Zp 56)) 3 (ints .i64 [3, 10]).toArray).chg hc (by rw [l0]; exact ne1)).cell u1).trans (by simpa using hl) |> fun h => by rw [l0] at h; exact h
  have C1 := Lib.hid (ChgG.trans (chg_al (chg_al (ChgG.refl g w) (.cells Zp 56)) (.cells (ints .i64 [3, 10]).toArray 3)) hc)
  have Z1 := Lib.hid (((Blk.new w 56 Zp).alloc (.cells (ints .i64 [3, 10]).toArray 3)).chg hc ne0)
  have R1 := Lib.hid hr
  have l1 := hr.lt
  have ls1 := C1.out.size
  clear hr hc hy hl HP l0
  obtain ⟨b5, hb5⟩ : ∃ b, w1.heap.size = b := ⟨_, rfl⟩
  have nb5 : ¬ b5 = g := by omega
  have nz5 : w.heap.size < b5 := by have := Z1.out.lt; omega
  have nzb : ¬ w.heap.size = b5 := by omega
  have hs6 : w1.heap.size + 1 = b5 + 1 := by omega
  go_wp2_with fail
  try simp only [hb5]
  have lit2 : ∀ (E : World) (x y : Int), Blk (E.alloc (.cells #[.int .i64 x, .int .i64 y] 3)) E.heap.size 3 #[.int .i64 x, .int .i64 y] := fun E x y => Blk.new _ _ _
  refine Calls.mono (pickG (k := 2) (P := P + 1) (rd_al (rd_al R1.out _) _) (by omega) (by omega)) ?_
  rintro e w2 ⟨v, rfl, ⟨u2, rfl, hu2⟩, hr, hc⟩
  have hu2 := hu2 (by omega)
  have C2 := Lib.hid (ChgG.trans (chg_al (chg_al C1.out (.cells #[.int .i64 0, .int .i64 yu1, .slice none 0 0] 56)) (.cells #[.int .i64 self, .int .i64 other] 3)) hc)
  have Z2 := Lib.hid (((Z1.out.alloc (.cells #[.int .i64 0, .int .i64 yu1, .slice none 0 0] 56)).alloc (.cells #[.int .i64 self, .int .i64 other] 3)).chg hc ne0)
  have B2 := Lib.hid (show Blk w2 b5 56 #[.int .i64 0, .int .i64 yu1, .slice none 0 0] from by rw [← hb5]; exact ((Blk.new w1 _ _).alloc _).chg hc (by omega))
  have hL : Blk w2 (b5 + 1) 3 #[.int .i64 self, .int .i64 other] := by
    have := (Blk.new (w1.alloc (.cells #[.int .i64 0, .int .i64 yu1, .slice none 0 0] 56)) 3 #[.int .i64 self, .int .i64 other]).chg hc (by simp only [World.size_alloc]; omega)
    simpa only [World.size_alloc, hb5] using this
  obtain ⟨y2, hcl2⟩ : ∃ y2 : Int, w2.cell? ⟨b5 + 1, u2, none⟩ = some (.int .i64 y2) := by
    have hu : u2 = 0 ∨ u2 = 1 := by omega
    rcases hu with rfl | rfl
    · exact ⟨self, hL.cell 0⟩
    · exact ⟨other, hL.cell 1⟩
  have R2 := Lib.hid hr
  have l2 := hr.lt
  have d2 : w2.cell? ⟨b5, 2, none⟩ = some (.slice none 0 0) := B2.out.cell 2
  have bf := fun j => B2.out.frozen j
  have bl := B2.out.lt
  clear hr hc hL C1 Z1 R1 hcl lit2 hb5 hs6 ls1 l1
  have lw2 : b5 < w2.heap.size := bl
  obtain ⟨bc, hbc⟩ : ∃ b, w2.heap.size = b := ⟨_, rfl⟩
  have nbg : ¬ bc = g := by omega
  have nbb : ¬ bc = b5 := by omega
  have nbb' : ¬ b5 = bc := by omega
  have nbz : ¬ bc = w.heap.size := by omega
  have nzc : ¬ w.heap.size = bc := by omega
  have hgc : g < bc := by omega
  have hgb : g < b5 := by omega
  have hK : ∀ i1 i2 i3 i4 i5 i6 : Ins, CodeB bc 6 6 (w2.alloc (.cells ([i1, i2, i3, i4, i5, i6].flatMap Ins.cells).toArray 38)) := fun i1 i2 i3 i4 i5 i6 => CodeB.new _ hbc.symm rfl (by decide)
  have ne5 : ¬ b5 = w2.heap.size := by omega
  have ne5' : ¬ w2.heap.size = b5 := by omega
  have HBC := Lib.hid hbc
  have HK0 := Lib.hid (hK ⟨5, 2, 0, 0, 0, 1, 1, 0⟩ ⟨8, 0, 0, 1, 2, 0, 0, 5⟩ ⟨2, 3, 0, 2, 0, 0, 0, 0⟩ ⟨10, 3, 3, 0, 0, 0, 0, y2⟩ ⟨1, 0, 3, 2, 0, 0, 0, 0⟩ ⟨12, 0, 0, 0, 0, 0, 0, 0⟩)
  have hzbc : w.heap.size < bc := by omega
  have hbbc : b5 < bc := by omega
  clear hK hbc
  go_wp2_with fail
  rw [show w2.heap.size = bc from HBC.out]
  refine calls_let ?_
  intro E hE
  have R3 : Hid (RdLe E g (P + 2)) := Lib.hid (by rw [hE]; exact (rd_al (rd_set R2.out (by simp only; omega) _) _).mono (by omega))
  have C3 : Hid (ChgG g w E) := Lib.hid (by rw [hE]; exact chg_al (chg_set C2.out (by simp only; omega) _) _)
  have Z3 : Hid (Blk E w.heap.size 56 Zp) := Lib.hid (by rw [hE]; exact (Z2.out.far (by simp only; omega) _).alloc _)
  have B3 : Hid (Blk E b5 56 #[.int .i64 0, .int .i64 yu1, .slice (some ⟨bc, 0, none⟩) 6 6]) := Lib.hid (by rw [hE]; exact (B2.out.set_ 2 _).alloc _)
  have K3 : Hid (CodeB bc 6 6 E) := Lib.hid (by rw [hE]; exact CodeB.new [⟨5, 2, 0, 0, 0, 1, 1, 0⟩, ⟨8, 0, 0, 1, 2, 0, 0, 5⟩, ⟨2, 3, 0, 2, 0, 0, 0, 0⟩, ⟨10, 3, 3, 0, 0, 0, 0, y2⟩, ⟨1, 0, 3, 2, 0, 0, 0, 0⟩, ⟨12, 0, 0, 0, 0, 0, 0, 0⟩] (by rw [World.size_setCell]; exact HBC.out.symm) rfl (by decide))
  clear hE HBC HK0 ne5 ne5' C2 Z2 B2 R2 d2 bf bl hcl2
  refine Calls.mono (pickG (k := 3) R3.out (by omega) (by omega)) ?_
  rintro e w4 ⟨v, rfl, ⟨q, rfl, hq⟩, hr, hc⟩
  have hq := hq (by omega)
  have C4 := Lib.hid (C3.out.trans hc)
  have Z4 := Lib.hid (Z3.out.chg hc ne0)
  have B4 := Lib.hid (B3.out.chg hc nb5)
  have K4 := Lib.hid (K3.out.chg hc nbg)
  have R4 := Lib.hid hr
  have l4 := hr.lt
  clear hr hc C3 Z3 B3 K3 R3
  by_cases hq0 : q = 0
  · have q0 : ((q : Int) == 0) = true := by simp [hq0]
    clear hq0
    go_wp2_with fail
    have hPP : P + 3 + 1 ≤ 1099511627776 := by omega
    have hJC : ∀ W W', (ChgG g w W ∧ Blk W w.heap.size 56 Zp ∧ Blk W b5 56 #[.int .i64 0, .int .i64 yu1, .slice (some ⟨bc, 0, none⟩) 6 6] ∧ CodeB bc 6 6 W) → ChgG g W W' → (ChgG g w W' ∧ Blk W' w.heap.size 56 Zp ∧ Blk W' b5 56 #[.int .i64 0, .int .i64 yu1, .slice (some ⟨bc, 0, none⟩) 6 6] ∧ CodeB bc 6 6 W') := fun W W' h c => ⟨h.1.trans c, h.2.1.chg c ne0, h.2.2.1.chg c nb5, h.2.2.2.chg c nbg⟩
    have hJA : ∀ W o, (ChgG g w W ∧ Blk W w.heap.size 56 Zp ∧ Blk W b5 56 #[.int .i64 0, .int .i64 yu1, .slice (some ⟨bc, 0, none⟩) 6 6] ∧ CodeB bc 6 6 W) → (ChgG g w (W.alloc o) ∧ Blk (W.alloc o) w.heap.size 56 Zp ∧ Blk (W.alloc o) b5 56 #[.int .i64 0, .int .i64 yu1, .slice (some ⟨bc, 0, none⟩) 6 6] ∧ CodeB bc 6 6 (W.alloc o)) := fun W o h => ⟨chg_al h.1 o, h.2.1.alloc o, h.2.2.1.alloc o, h.2.2.2.al o⟩
    have hFJ : ∀ W, (ChgG g w W ∧ Blk W w.heap.size 56 Zp ∧ Blk W b5 56 #[.int .i64 0, .int .i64 yu1, .slice (some ⟨bc, 0, none⟩) 6 6] ∧ CodeB bc 6 6 W) → ∀ b, (b = g ∨ b = bc) → b < W.heap.size := fun W h b hb => by
      have h1 := h.2.2.1.lt
      have h2 := h.2.2.2.lt
      rcases hb with rfl | rfl <;> omega
    refine region_drawL g (P + 3) 1 42 [0, 0, 0, 0, 1, 0, 0, 0, 0, 0] (fun W => ChgG g w W ∧ Blk W w.heap.size 56 Zp ∧ Blk W b5 56 #[.int .i64 0, .int .i64 yu1, .slice (some ⟨bc, 0, none⟩) 6 6] ∧ CodeB bc 6 6 W) (fun b => b = g ∨ b = bc)
      [prV (fun v => v = .pointer (some ⟨b5, 2, none⟩)), prV (fun v => v = .slice (some ⟨bc, 0, none⟩) 6 6), prSl 3, prV (fun v => v = .pointer (some ⟨g, 0, none⟩)), prV (IsNat 3), prPt, prV IsInt, prV IsIns, prV (fun v => v = .pointer (some ⟨bc, 32, none⟩)), prT]
      (by kernel_rfl) rfl (by kernel_rfl) (by kernel_rfl) ⟨chg_drew C4.out, Z4.out.grew (grew_d (Below.refl _ _)), B4.out.grew (grew_d (Below.refl _ _)), K4.out.drew⟩ (R4.out.mono (by omega)) ⟨?_, ?_, ?_, ?_, ?_, ?_, ?_, ?_, ?_, ?_, trivial⟩ ?_
    · exact ds_field 7 2 _ _ rfl (by kernel_rfl) rfl (fun W => by kernel_rfl) (fun _ => rfl)
    · refine ds_run (.slice (some ⟨bc, 0, none⟩) 6 6) (fun a W hJ hf hd => ?_) (fun _ => rfl)
      have e0 : a.eval (.tmp 32) = .pointer (some ⟨b5, 2, none⟩) := dep_of (k := 0) (d := 32) ⟨⟨⟨0, .data⟩, by simp, rfl, by kernel_rfl⟩, by kernel_rfl⟩ hd
      have c2 : W.cell? ⟨b5, 2, none⟩ = some (.slice (some ⟨bc, 0, none⟩) 6 6) := hJ.2.2.1.cell 2
      simp only [execOp, e0]
      simp [go_sem, c2]
    · exact ds_lit 3 [0, 2, 3] (fun a W => by kernel_rfl) (fun _ _ h => h) hJA hFJ
    · exact ds_move 0 _ rfl (by kernel_rfl) rfl (fun _ => rfl)
    · exact ds_pick 35 3 3 (fun _ _ => by kernel_rfl) ⟨⟨⟨3, .data⟩, by simp, rfl, by kernel_rfl⟩, by kernel_rfl⟩ (fun _ _ h => h) rfl hPP (by omega) (fun _ _ h => h) hJC (.inl rfl)
    · exact ds_index 34 36 2 4 3 rfl ⟨⟨⟨2, .data⟩, by simp, rfl, by kernel_rfl⟩, by kernel_rfl⟩ ⟨⟨⟨4, .data⟩, by simp, rfl, by kernel_rfl⟩, by kernel_rfl⟩ (fun _ _ h => h) (fun _ _ h => h) (by omega) (by omega) (fun _ _ h => h)
    · exact ds_load 37 5 rfl ⟨⟨⟨5, .data⟩, by simp, rfl, by kernel_rfl⟩, by kernel_rfl⟩ (fun _ _ h => h) (fun _ _ h => h)
    · exact ds_build _ _ rfl (fun a W hf hd => by
        obtain ⟨n3, h3⟩ := (dep_of (k := 6) (d := 38) ⟨⟨⟨6, .data⟩, by simp, rfl, by kernel_rfl⟩, by kernel_rfl⟩ hd : IsInt _)
        exact ⟨#[(0, .int .i64 (4)), (1, .int .i64 (0)), (2, .int .i64 (3)), (3, .int .i64 n3)], by simp [eval_const, h3], .agg #[.int .i64 (4), .int .i64 (0), .int .i64 (3), .int .i64 n3, .int .i64 (0), .int .i64 (0), .int .i64 (0), .int .i64 (0)], fun W => by kernel_rfl, 4, 0, 3, n3, 0, 0, 0, 0, rfl⟩)
    · refine ds_run (.pointer (some ⟨bc, 32, none⟩)) (fun a W hJ hf hd => ?_) (fun _ => rfl)
      have e0 : a.eval (.tmp 33) = .slice (some ⟨bc, 0, none⟩) 6 6 := dep_of (k := 1) (d := 33) ⟨⟨⟨1, .data⟩, by simp, rfl, by kernel_rfl⟩, by kernel_rfl⟩ hd
      simp only [execOp, e0, eval_const]
      simp [go_sem]
    · refine ds_storeK bc 6 6 32 40 8 39 7 rfl ⟨⟨⟨8, .data⟩, by simp, rfl, by kernel_rfl⟩, by kernel_rfl⟩ ⟨⟨⟨7, .data⟩, by simp, rfl, by kernel_rfl⟩, by kernel_rfl⟩ (fun _ _ h => h) (fun _ _ h => h) (by omega) (fun W h => h.2.2.2) (fun W W' h hk hc => ⟨Chg.trans h.1 hc (fun _ _ h => h) (fun i hi e => by omega), h.2.1.chg hc nzc, h.2.2.1.chg hc nbb', hk⟩) hgc (.inr rfl) (fun _ _ => trivial)
    · rintro vs w6 ⟨hC, hZ, hB, hK⟩ hP hR
      clear hR hJC hJA hFJ hPP C4 Z4 B4 K4 R4
      simp only [putAll, Act.put, List.setIfInBounds_toArray, List.set_cons_zero, List.set_cons_succ]
      simp only [Nat.zero_add, Nat.reduceAdd]
      generalize vs 0 = f0
      generalize vs 1 = f1
      generalize vs 2 = f2
      generalize vs 3 = f3
      generalize vs 4 = f4
      generalize vs 5 = f5
      generalize vs 6 = f6
      generalize vs 7 = f7
      generalize vs 8 = f8
      generalize vs 9 = f9
      clear vs
      have C6 := Lib.hid hC
      have Z6 := Lib.hid hZ
      have B6 := Lib.hid hB
      have K6 := Lib.hid hK
      have R6 : Hid (RdLe w6 g (P + 8)) := Lib.hid (hP.mono (by omega))
      clear hC hZ hB hK hP
      have z0 : w6.cell? ⟨w.heap.size, 0, none⟩ = some (.int .i64 0) := Z6.out.cell 0
      have z1 : w6.cell? ⟨w.heap.size, 1, none⟩ = some (.int .i64 0) := Z6.out.cell 1
      have z2 : w6.cell? ⟨w.heap.size, 2, none⟩ = some (.slice none 0 0) := Z6.out.cell 2
      have zf := fun j => Z6.out.frozen j
      have zl := Z6.out.lt
      have d0 : w6.cell? ⟨b5, 0, none⟩ = some (.int .i64 0) := B6.out.cell 0
      have d1 : w6.cell? ⟨b5, 1, none⟩ = some (.int .i64 yu1) := B6.out.cell 1
      have d2 : w6.cell? ⟨b5, 2, none⟩ = some (.slice (some ⟨bc, 0, none⟩) 6 6) := B6.out.cell 2
      have kf := fun j => K6.out.fz j
      have kl := K6.out.lt
      obtain ⟨is, his, ho⟩ := CodeB.own (B := w.heap.size) (W := w6) K6.out (by omega)
      have HO := Lib.hid ho
      have HIS := Lib.hid his
      clear ho his
      (first | (simp only [Int.not_lt, Int.not_le] at *; go_simp) | skip)
      repeat go_step
      refine bodyPost_ret (by simp [results, Tryz.results115, go_sem, z0, z1, z2, zl]; try rfl) rfl ?_
      have hno : (Value.slice (some ⟨bc, 0, none⟩) 6 6).ownBlock ≠ some w.heap.size := fun e => by simp only [Value.ownBlock, Option.some.injEq] at e; omega
      refine ⟨_, _, _, is, rfl, ?_, by have := HIS.out; omega, ?_, ?_⟩
      · rw [HIS.out]
        exact owns_far (owns_far (owns_far HO.out hno _) hno _) hno _
      · exact (rd_set (rd_set (rd_set R6.out (by simp only; omega) _) (by simp only; omega) _) (by simp only; omega) _).mono (by omega)
      · exact chg_set (chg_set (chg_set C6.out (Nat.le_refl _) _) (Nat.le_refl _) _) (Nat.le_refl _) _
  · have q0 : ((q : Int) == 0) = false := by simp; omega
    have R6 : Hid (RdLe w4 g (P + 8)) := Lib.hid (R4.out.mono (by omega))
    clear R4
    have R4 := R6
    clear R6
    have z0 : w4.cell? ⟨w.heap.size, 0, none⟩ = some (.int .i64 0) := Z4.out.cell 0
    have z1 : w4.cell? ⟨w.heap.size, 1, none⟩ = some (.int .i64 0) := Z4.out.cell 1
    have z2 : w4.cell? ⟨w.heap.size, 2, none⟩ = some (.slice none 0 0) := Z4.out.cell 2
    have zf := fun j => Z4.out.frozen j
    have zl := Z4.out.lt
    have d0 : w4.cell? ⟨b5, 0, none⟩ = some (.int .i64 0) := B4.out.cell 0
    have d1 : w4.cell? ⟨b5, 1, none⟩ = some (.int .i64 yu1) := B4.out.cell 1
    have d2 : w4.cell? ⟨b5, 2, none⟩ = some (.slice (some ⟨bc, 0, none⟩) 6 6) := B4.out.cell 2
    have kf := fun j => K4.out.fz j
    have kl := K4.out.lt
    obtain ⟨is, his, ho⟩ := CodeB.own (B := w.heap.size) (W := w4) K4.out (by omega)
    have HO := Lib.hid ho
    have HIS := Lib.hid his
    clear ho his
    (first | (simp only [Int.not_lt, Int.not_le] at *; go_simp) | skip)
    repeat go_step
    refine bodyPost_ret (by simp [results, Tryz.results115, go_sem, z0, z1, z2, zl]; try rfl) rfl ?_
    have hno : (Value.slice (some ⟨bc, 0, none⟩) 6 6).ownBlock ≠ some w.heap.size := fun e => by simp only [Value.ownBlock, Option.some.injEq] at e; omega
    refine ⟨_, _, _, is, rfl, ?_, by have := HIS.out; omega, ?_, ?_⟩
    · rw [HIS.out]
      exact owns_far (owns_far (owns_far HO.out hno _) hno _) hno _
    · exact (rd_set (rd_set (rd_set R4.out (by simp only; omega) _) (by simp only; omega) _) (by simp only; omega) _).mono (by omega)
    · exact chg_set (chg_set (chg_set C4.out (Nat.le_refl _) _) (Nat.le_refl _) _) (Nat.le_refl _) _
end Go.Proofs.YtcdfomoglkhboaaGreatDoor
