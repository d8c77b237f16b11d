/- Steps of regions that draw. No condition. -/
import Derived.Test.YtcdfomoglkhboaaGreatDoorDrR
namespace Go.Proofs.YtcdfomoglkhboaaGreatDoor
open Go.RowKit
set_option linter.unusedVariables false
set_option linter.unusedSimpArgs false

theorem chg1 {t o : Nat} {w W : World} (h : Chg (fun b => b = t) w W) (u : Value) : Chg (fun b => b = t) w (W.setCell ⟨t, o, none⟩ u) :=
  Chg.trans h (⟨rfl, rfl, rfl, by simp, fun k hk hn => Below.heap_setCell W ⟨t, o, none⟩ u k hn⟩ : Chg (fun b => b = t) W (W.setCell ⟨t, o, none⟩ u)) (fun _ _ h => h) (fun _ _ h => h)
section
variable {ops : Array Oper} {Q : Exit → Act → World → Prop} {a0 : Act} {g PP : Nat} {c : Nat → Nat} {J : World → Prop} {F : Nat → Prop} {R : Nat → World → Value → Prop} {i : Nat} {o : Oper}
def hasNo (ops : Array Oper) (d : Tmp) : Bool := ops.all fun o => o.dst != some d
theorem hasNo_spec {d : Tmp} (h : hasNo ops d = true) (i : Nat) : dstOf ops i ≠ some d := by
  intro hi
  unfold dstOf at hi
  cases ho : ops[i]? with
  | none => simp [ho] at hi
  | some o =>
    rw [hasNo, Array.all_eq_true'] at h
    have := h o (Array.mem_of_getElem? ho)
    simp [ho] at hi
    simp [hi] at this
/-- What an operation reads: of an operation ahead of it. -/
def Dep (ops : Array Oper) (o : Oper) (k : Nat) (d : Tmp) : Prop := (∃ e, e ∈ o.after.toList ∧ e.on = k ∧ Region.binds .any e = true) ∧ dstOf ops k = some d
theorem ds_move (d : Tmp) (x : Value) (ho : o.op = .move (.tmp d)) (hd : hasNo ops d = true) (hx : a0.eval (.tmp d) = x) (hR : ∀ W, R i W x) : DStep Tryz.prog ops Q a0 g PP c J F R i o := by
  intro a w p hp hJ hr hf _
  have he : a.eval (.tmp d) = x := (hf d (hasNo_spec hd)).trans hx
  refine op_val (v := x) (w' := w) (by simp only [execOp, ho, he]; rfl) ⟨_, rfl, hR w, hJ, hr.mono (by omega), Chg.refl _ _⟩
theorem ds_lit (T : TypeId) (zs : List Int) (h : ∀ (a : Act) (W : World), (execOp a.eval o).run Tryz.prog W = .ok (.value (.slice (some ⟨W.heap.size, 0, none⟩) zs.length zs.length)) (W.alloc (.cells (ints .i64 zs).toArray T)))
    (hR : ∀ W v, SlI F zs.length W v → R i W v) (hJ : ∀ W o, J W → J (W.alloc o)) (hF : ∀ W, J W → ∀ b, F b → b < W.heap.size) : DStep Tryz.prog ops Q a0 g PP c J F R i o := by
  intro a w p hp hJ1 hr _ _
  refine op_val (h a w) ⟨_, rfl, hR _ _ ⟨_, rfl, by simp, fun hb => absurd (hF w hJ1 _ hb) (by omega), fun j hj => ?_⟩, hJ _ _ hJ1, (rd_al hr _).mono (by omega), Chg.of_below (grew_al (Below.refl _ _) _)⟩
  obtain ⟨y, _, hy⟩ := lit_get zs hj
  exact ⟨y, by rw [World.cell?_alloc_new]; simpa using hy⟩
theorem dep_of {k : Nat} {d : Tmp} {a : Act} {w : World} (hdep : Dep ops o k d) (hd : ∀ e, e ∈ o.after.toList → Region.binds .any e = true → ∀ d, dstOf ops e.on = some d → R e.on w (a.eval (.tmp d))) : R k w (a.eval (.tmp d)) := by
  obtain ⟨⟨e, he1, he2, he3⟩, hdd⟩ := hdep
  have := hd e he1 he3 d (by rw [he2]; exact hdd)
  rw [he2] at this
  exact this
/-- A call that reads on: of the reader in a slot, and values. -/
theorem ds_call {f : FuncId} {p0 : Value → Prop} {vals : (Operand → Value) → Array Value} {good : (Operand → Value) → World → Prop} (h : ∀ (a : Act) (W : World), (execOp a.eval o).run Tryz.prog W = .ok (.enter f (vals a.eval)) W)
    (hgood : ∀ (a : Act) (w : World), (∀ d, (∀ i, dstOf ops i ≠ some d) → a.eval (.tmp d) = a0.eval (.tmp d)) → (∀ e, e ∈ o.after.toList → Region.binds .any e = true → ∀ d, dstOf ops e.on = some d → R e.on w (a.eval (.tmp d))) → good a.eval w)
    (C : ∀ (ρ : Operand → Value) (p : Nat) (w : World), good ρ w → RdLe w g p → p + c i ≤ PP → Calls Tryz.prog f (vals ρ) w (RetG p0 g (p + c i) w))
    (hR : ∀ W v, p0 v → R i W v) (hJ : ∀ W W', J W → ChgG g W W' → J W') (hF : F g) : DStep Tryz.prog ops Q a0 g PP c J F R i o := by
  intro a w p hp hJ1 hr hf hd
  unfold Oper.wp
  rw [h]
  refine Calls.mono (C _ p w (hgood a w hf hd) hr hp) ?_
  rintro e w' ⟨v, rfl, hv, hr2, hc2⟩
  exact ⟨v, rfl, hR _ _ hv, hJ _ _ hJ1 hc2, hr2, ⟨hc2.os, hc2.tape, hc2.output, hc2.size, fun k hk hn => hc2.block k hk (fun e => hn (e ▸ hF))⟩⟩
theorem ds_pick (d : Tmp) (kd : Nat) (k : Int) (h : ∀ (a : Act) (W : World), (execOp a.eval o).run Tryz.prog W = .ok (.enter 40 #[a.eval (.tmp d), .int .i64 k]) W) (hdep : Dep ops o kd d)
    (hq : ∀ W v, R kd W v → v = .pointer (some ⟨g, 0, none⟩)) (hc : c i = 1) (hPP : PP ≤ 1099511627776) (hk : k ≤ 1099511627776) (hR : ∀ W v, IsNat k v → R i W v) (hJ : ∀ W W', J W → ChgG g W W' → J W') (hF : F g) : DStep Tryz.prog ops Q a0 g PP c J F R i o :=
  ds_call (vals := fun ρ => #[ρ (.tmp d), .int .i64 k]) (good := fun ρ w => ρ (.tmp d) = .pointer (some ⟨g, 0, none⟩)) h (fun a w hf hd => hq _ _ (dep_of hdep hd)) (fun ρ p w hg hr hp => by rw [hg, hc]; exact pickG hr (by omega) hk) hR hJ hF
theorem ds_index (d1 d2 : Tmp) (k1 k2 n : Nat) (hop : o.op = .indexAddr 114 (.tmp d1) (.tmp d2)) (h1 : Dep ops o k1 d1) (h2 : Dep ops o k2 d2) (hs : ∀ W v, R k1 W v → SlI F n W v) (hi : ∀ W v, R k2 W v → IsNat n v) (hn : 1 ≤ n) (hn2 : n ≤ 1000) (hR : ∀ W v, PtI F W v → R i W v) : DStep Tryz.prog ops Q a0 g PP c J F R i o := by
  intro a w p hp hJ hr hf hd
  obtain ⟨b, hb, hbl, hbF, hc⟩ := hs _ _ (dep_of h1 hd)
  obtain ⟨j, hj, hjn⟩ := hi _ _ (dep_of h2 hd)
  have hjn := hjn (by omega)
  obtain ⟨x, hx⟩ := hc j (by omega)
  refine op_val (v := .pointer (some ⟨b, j, none⟩)) (w' := w) ?_ ⟨_, rfl, hR _ _ ⟨b, j, x, rfl, hbl, hbF, hx⟩, hJ, hr.mono (by omega), Chg.refl _ _⟩
  simp only [execOp, hop, hb, hj]
  have hj2 : (j : Int) < (n : Int) := hjn
  have hj3 : j < n := by omega
  simp [go_sem, hj2]
theorem ds_load (d1 : Tmp) (k1 : Nat) (hop : o.op = .load 3 (.tmp d1)) (h1 : Dep ops o k1 d1) (hs : ∀ W v, R k1 W v → PtI F W v) (hR : ∀ W v, IsInt v → R i W v) : DStep Tryz.prog ops Q a0 g PP c J F R i o := by
  intro a w p hp hJ hr hf hd
  obtain ⟨b, j, x, hb, hbl, hbF, hx⟩ := hs _ _ (dep_of h1 hd)
  refine op_val (v := .int .i64 x) (w' := w) ?_ ⟨_, rfl, hR _ _ ⟨x, rfl⟩, hJ, hr.mono (by omega), Chg.refl _ _⟩
  simp only [execOp, hop, hb]
  simp [go_sem, hx]
theorem ds_store2 (t : Nat) (dp dv kd : Nat) (hop : o.op = .store 96 (.tmp dp) (.tmp dv)) (hdp : hasNo ops dp = true) (hx : a0.eval (.tmp dp) = .pointer (some ⟨t, 0, none⟩)) (h1 : Dep ops o kd dv) (hs : ∀ W v, R kd W v → IsItv v)
    (hJ : ∀ W, J W → ∃ x0 x1 : Int, Blk W t 96 #[.int .i64 x0, .int .i64 x1]) (hJ2 : ∀ W W' (y0 y1 : Int), J W → Blk W' t 96 #[.int .i64 y0, .int .i64 y1] → Chg (fun b => b = t) W W' → J W') (hg : g < t) (hF : F t) (hR : ∀ W v, R i W v) : DStep Tryz.prog ops Q a0 g PP c J F R i o := by
  intro a w p hp hJ1 hr hf hd
  obtain ⟨y0, y1, hv⟩ := hs _ _ (dep_of h1 hd)
  obtain ⟨x0, x1, hb⟩ := hJ w hJ1
  have he : a.eval (.tmp dp) = .pointer (some ⟨t, 0, none⟩) := (hf dp (hasNo_spec hdp)).trans hx
  have c0 : w.cell? ⟨t, 0, none⟩ = some (.int .i64 x0) := hb.cell 0
  have c1 : w.cell? ⟨t, 1, none⟩ = some (.int .i64 x1) := hb.cell 1
  have fz := fun j => hb.frozen j
  have hl := hb.lt
  have hb2 : Blk ((w.setCell ⟨t, 0, none⟩ (.int .i64 y0)).setCell ⟨t, 1, none⟩ (.int .i64 y1)) t 96 #[.int .i64 y0, .int .i64 y1] := (hb.set_ 0 _).set_ 1 _
  have hch : Chg (fun b => b = t) w ((w.setCell ⟨t, 0, none⟩ (.int .i64 y0)).setCell ⟨t, 1, none⟩ (.int .i64 y1)) := chg1 (chg1 (Chg.refl _ _) _) _
  refine op_skip (w' := (w.setCell ⟨t, 0, none⟩ (.int .i64 y0)).setCell ⟨t, 1, none⟩ (.int .i64 y1)) ?_ ⟨_, rfl, hR _ _, hJ2 _ _ y0 y1 hJ1 hb2 hch, (hr.chg hch (fun b hb e => by omega)).mono (by omega), ⟨hch.os, hch.tape, hch.output, hch.size, fun k hk hn => hch.block k hk (fun e => hn (e ▸ hF))⟩⟩
  simp only [execOp, hop, he, hv]
  simp [go_sem, fz, c0, c1]
def IsIns (v : Value) : Prop := ∃ op d a b rel lo hi to : Int, v = .agg #[.int .i64 op, .int .i64 d, .int .i64 a, .int .i64 b, .int .i64 rel, .int .i64 lo, .int .i64 hi, .int .i64 to]
set_option maxHeartbeats 2000000 in
theorem ds_store8 (t : Nat) (dp dv kd : Nat) (hop : o.op = .store 38 (.tmp dp) (.tmp dv)) (hdp : hasNo ops dp = true) (hx : a0.eval (.tmp dp) = .pointer (some ⟨t, 0, none⟩)) (h1 : Dep ops o kd dv) (hs : ∀ W v, R kd W v → IsIns v)
    (hJ : ∀ W, J W → ∃ x0 x1 x2 x3 x4 x5 x6 x7 : Int, Blk W t 38 #[.int .i64 x0, .int .i64 x1, .int .i64 x2, .int .i64 x3, .int .i64 x4, .int .i64 x5, .int .i64 x6, .int .i64 x7]) (hJ2 : ∀ W W' (y0 y1 y2 y3 y4 y5 y6 y7 : Int), J W → Blk W' t 38 #[.int .i64 y0, .int .i64 y1, .int .i64 y2, .int .i64 y3, .int .i64 y4, .int .i64 y5, .int .i64 y6, .int .i64 y7] → Chg (fun b => b = t) W W' → J W') (hg : g < t) (hF : F t) (hR : ∀ W v, R i W v) : DStep Tryz.prog ops Q a0 g PP c J F R i o := by
  intro a w p hp hJ1 hr hf hd
  obtain ⟨y0, y1, y2, y3, y4, y5, y6, y7, hv⟩ := hs _ _ (dep_of h1 hd)
  obtain ⟨x0, x1, x2, x3, x4, x5, x6, x7, hb⟩ := hJ w hJ1
  have he : a.eval (.tmp dp) = .pointer (some ⟨t, 0, none⟩) := (hf dp (hasNo_spec hdp)).trans hx
  have c0 : w.cell? ⟨t, 0, none⟩ = some (.int .i64 x0) := hb.cell 0
  have c1 : w.cell? ⟨t, 1, none⟩ = some (.int .i64 x1) := hb.cell 1
  have c2 : w.cell? ⟨t, 2, none⟩ = some (.int .i64 x2) := hb.cell 2
  have c3 : w.cell? ⟨t, 3, none⟩ = some (.int .i64 x3) := hb.cell 3
  have c4 : w.cell? ⟨t, 4, none⟩ = some (.int .i64 x4) := hb.cell 4
  have c5 : w.cell? ⟨t, 5, none⟩ = some (.int .i64 x5) := hb.cell 5
  have c6 : w.cell? ⟨t, 6, none⟩ = some (.int .i64 x6) := hb.cell 6
  have c7 : w.cell? ⟨t, 7, none⟩ = some (.int .i64 x7) := hb.cell 7
  have fz := fun j => hb.frozen j
  have hl := hb.lt
  have hb2 : Blk ((((((((w.setCell ⟨t, 0, none⟩ (.int .i64 y0)).setCell ⟨t, 1, none⟩ (.int .i64 y1)).setCell ⟨t, 2, none⟩ (.int .i64 y2)).setCell ⟨t, 3, none⟩ (.int .i64 y3)).setCell ⟨t, 4, none⟩ (.int .i64 y4)).setCell ⟨t, 5, none⟩ (.int .i64 y5)).setCell ⟨t, 6, none⟩ (.int .i64 y6)).setCell ⟨t, 7, none⟩ (.int .i64 y7)) t 38 #[.int .i64 y0, .int .i64 y1, .int .i64 y2, .int .i64 y3, .int .i64 y4, .int .i64 y5, .int .i64 y6, .int .i64 y7] := (((((((hb.set_ 0 _).set_ 1 _).set_ 2 _).set_ 3 _).set_ 4 _).set_ 5 _).set_ 6 _).set_ 7 _
  have hch : Chg (fun b => b = t) w ((((((((w.setCell ⟨t, 0, none⟩ (.int .i64 y0)).setCell ⟨t, 1, none⟩ (.int .i64 y1)).setCell ⟨t, 2, none⟩ (.int .i64 y2)).setCell ⟨t, 3, none⟩ (.int .i64 y3)).setCell ⟨t, 4, none⟩ (.int .i64 y4)).setCell ⟨t, 5, none⟩ (.int .i64 y5)).setCell ⟨t, 6, none⟩ (.int .i64 y6)).setCell ⟨t, 7, none⟩ (.int .i64 y7)) := chg1 (chg1 (chg1 (chg1 (chg1 (chg1 (chg1 (chg1 (Chg.refl _ _) _) _) _) _) _) _) _) _
  refine op_skip (w' := (((((((w.setCell ⟨t, 0, none⟩ (.int .i64 y0)).setCell ⟨t, 1, none⟩ (.int .i64 y1)).setCell ⟨t, 2, none⟩ (.int .i64 y2)).setCell ⟨t, 3, none⟩ (.int .i64 y3)).setCell ⟨t, 4, none⟩ (.int .i64 y4)).setCell ⟨t, 5, none⟩ (.int .i64 y5)).setCell ⟨t, 6, none⟩ (.int .i64 y6)).setCell ⟨t, 7, none⟩ (.int .i64 y7)) ?_ ⟨_, rfl, hR _ _, hJ2 _ _ y0 y1 y2 y3 y4 y5 y6 y7 hJ1 hb2 hch, (hr.chg hch (fun b hb e => by omega)).mono (by omega), ⟨hch.os, hch.tape, hch.output, hch.size, fun k hk hn => hch.block k hk (fun e => hn (e ▸ hF))⟩⟩
  simp only [execOp, hop, he, hv]
  simp [go_sem, fz, c0, c1, c2, c3, c4, c5, c6, c7]
end
end Go.Proofs.YtcdfomoglkhboaaGreatDoor
