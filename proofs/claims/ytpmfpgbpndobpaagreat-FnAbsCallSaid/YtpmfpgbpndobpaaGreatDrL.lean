/- Lemmas and walks of this proof, some texts one behind the other. No condition. -/
import Derived.Test.YtpmfpgbpndobpaaGreatDrR
set_option linter.unusedSimpArgs false
set_option linter.unusedVariables false
/- Steps of regions that draw. No condition. -/
namespace Go.Proofs.YtpmfpgbpndobpaaGreat
open Go.RowKit
set_option linter.unusedVariables false
set_option linter.unusedSimpArgs false

theorem chg1 {t o : Nat} {w W : World} (h : Chg (fun b => b = t) w W) (u : Value) : Chg (fun b => b = t) w (W.setCell ⟨t, o, none⟩ u) :=
  Chg.trans h (⟨rfl, rfl, rfl, by simp, fun k hk hn => Below.heap_setCell W ⟨t, o, none⟩ u k hn⟩ : Chg (fun b => b = t) W (W.setCell ⟨t, o, none⟩ u)) (fun _ _ h => h) (fun _ _ h => h)
section
variable {ops : Array Oper} {Q : Exit → Act → World → Prop} {a0 : Act} {g PP : Nat} {c : Nat → Nat} {J : World → Prop} {F : Nat → Prop} {R : Nat → World → Value → Prop} {i : Nat} {o : Oper}
def hasNo (ops : Array Oper) (d : Tmp) : Bool := ops.all fun o => o.dst != some d
theorem hasNo_spec {d : Tmp} (h : hasNo ops d = true) (i : Nat) : dstOf ops i ≠ some d := by
  intro hi
  unfold dstOf at hi
  cases ho : ops[i]? with
  | none => simp [ho] at hi
  | some o =>
    rw [hasNo, Array.all_eq_true'] at h
    have := h o (Array.mem_of_getElem? ho)
    simp [ho] at hi
    simp [hi] at this
/-- What an operation reads: of an operation ahead of it. -/
def Dep (ops : Array Oper) (o : Oper) (k : Nat) (d : Tmp) : Prop := (∃ e, e ∈ o.after.toList ∧ e.on = k ∧ Region.binds .any e = true) ∧ dstOf ops k = some d
theorem ds_move (d : Tmp) (x : Value) (ho : o.op = .move (.tmp d)) (hd : hasNo ops d = true) (hx : a0.eval (.tmp d) = x) (hR : ∀ W, R i W x) : DStep Tryz.prog ops Q a0 g PP c J F R i o := by
  intro a w p hp hJ hr hf _
  have he : a.eval (.tmp d) = x := (hf d (hasNo_spec hd)).trans hx
  refine op_val (v := x) (w' := w) (by simp only [execOp, ho, he]; rfl) ⟨_, rfl, hR w, hJ, hr.mono (by omega), Chg.refl _ _⟩
theorem ds_lit (T : TypeId) (zs : List Int) (h : ∀ (a : Act) (W : World), (execOp a.eval o).run Tryz.prog W = .ok (.value (.slice (some ⟨W.heap.size, 0, none⟩) zs.length zs.length)) (W.alloc (.cells (ints .i64 zs).toArray T)))
    (hR : ∀ W v, SlI F zs.length W v → R i W v) (hJ : ∀ W o, J W → J (W.alloc o)) (hF : ∀ W, J W → ∀ b, F b → b < W.heap.size) : DStep Tryz.prog ops Q a0 g PP c J F R i o := by
  intro a w p hp hJ1 hr _ _
  refine op_val (h a w) ⟨_, rfl, hR _ _ ⟨_, rfl, by simp, fun hb => absurd (hF w hJ1 _ hb) (by omega), fun j hj => ?_⟩, hJ _ _ hJ1, (rd_al hr _).mono (by omega), Chg.of_below (grew_al (Below.refl _ _) _)⟩
  obtain ⟨y, _, hy⟩ := lit_get zs hj
  exact ⟨y, by rw [World.cell?_alloc_new]; simpa using hy⟩
theorem dep_of {k : Nat} {d : Tmp} {a : Act} {w : World} (hdep : Dep ops o k d) (hd : ∀ e, e ∈ o.after.toList → Region.binds .any e = true → ∀ d, dstOf ops e.on = some d → R e.on w (a.eval (.tmp d))) : R k w (a.eval (.tmp d)) := by
  obtain ⟨⟨e, he1, he2, he3⟩, hdd⟩ := hdep
  have := hd e he1 he3 d (by rw [he2]; exact hdd)
  rw [he2] at this
  exact this
/-- A call that reads on: of the reader in a slot, and values. -/
theorem ds_call {f : FuncId} {p0 : Value → Prop} {vals : (Operand → Value) → Array Value} {good : (Operand → Value) → World → Prop} (h : ∀ (a : Act) (W : World), (execOp a.eval o).run Tryz.prog W = .ok (.enter f (vals a.eval)) W)
    (hgood : ∀ (a : Act) (w : World), (∀ d, (∀ i, dstOf ops i ≠ some d) → a.eval (.tmp d) = a0.eval (.tmp d)) → (∀ e, e ∈ o.after.toList → Region.binds .any e = true → ∀ d, dstOf ops e.on = some d → R e.on w (a.eval (.tmp d))) → good a.eval w)
    (C : ∀ (ρ : Operand → Value) (p : Nat) (w : World), good ρ w → RdLe w g p → p + c i ≤ PP → Calls Tryz.prog f (vals ρ) w (RetG p0 g (p + c i) w))
    (hR : ∀ W v, p0 v → R i W v) (hJ : ∀ W W', J W → ChgG g W W' → J W') (hF : F g) : DStep Tryz.prog ops Q a0 g PP c J F R i o := by
  intro a w p hp hJ1 hr hf hd
  unfold Oper.wp
  rw [h]
  refine Calls.mono (C _ p w (hgood a w hf hd) hr hp) ?_
  rintro e w' ⟨v, rfl, hv, hr2, hc2⟩
  exact ⟨v, rfl, hR _ _ hv, hJ _ _ hJ1 hc2, hr2, ⟨hc2.os, hc2.tape, hc2.output, hc2.size, fun k hk hn => hc2.block k hk (fun e => hn (e ▸ hF))⟩⟩
theorem ds_pick (d : Tmp) (kd : Nat) (k : Int) (h : ∀ (a : Act) (W : World), (execOp a.eval o).run Tryz.prog W = .ok (.enter 40 #[a.eval (.tmp d), .int .i64 k]) W) (hdep : Dep ops o kd d)
    (hq : ∀ W v, R kd W v → v = .pointer (some ⟨g, 0, none⟩)) (hc : c i = 1) (hPP : PP ≤ 1099511627776) (hk : k ≤ 1099511627776) (hR : ∀ W v, IsNat k v → R i W v) (hJ : ∀ W W', J W → ChgG g W W' → J W') (hF : F g) : DStep Tryz.prog ops Q a0 g PP c J F R i o :=
  ds_call (vals := fun ρ => #[ρ (.tmp d), .int .i64 k]) (good := fun ρ w => ρ (.tmp d) = .pointer (some ⟨g, 0, none⟩)) h (fun a w hf hd => hq _ _ (dep_of hdep hd)) (fun ρ p w hg hr hp => by rw [hg, hc]; exact pickG hr (by omega) hk) hR hJ hF
theorem ds_index (d1 d2 : Tmp) (k1 k2 n : Nat) (hop : o.op = .indexAddr 36 (.tmp d1) (.tmp d2)) (h1 : Dep ops o k1 d1) (h2 : Dep ops o k2 d2) (hs : ∀ W v, R k1 W v → SlI F n W v) (hi : ∀ W v, R k2 W v → IsNat n v) (hn : 1 ≤ n) (hn2 : n ≤ 1000) (hR : ∀ W v, PtI F W v → R i W v) : DStep Tryz.prog ops Q a0 g PP c J F R i o := by
  intro a w p hp hJ hr hf hd
  obtain ⟨b, hb, hbl, hbF, hc⟩ := hs _ _ (dep_of h1 hd)
  obtain ⟨j, hj, hjn⟩ := hi _ _ (dep_of h2 hd)
  have hjn := hjn (by omega)
  obtain ⟨x, hx⟩ := hc j (by omega)
  refine op_val (v := .pointer (some ⟨b, j, none⟩)) (w' := w) ?_ ⟨_, rfl, hR _ _ ⟨b, j, x, rfl, hbl, hbF, hx⟩, hJ, hr.mono (by omega), Chg.refl _ _⟩
  simp only [execOp, hop, hb, hj]
  have hj2 : (j : Int) < (n : Int) := hjn
  have hj3 : j < n := by omega
  simp [go_sem, hj2]
theorem ds_load (d1 : Tmp) (k1 : Nat) (hop : o.op = .load 3 (.tmp d1)) (h1 : Dep ops o k1 d1) (hs : ∀ W v, R k1 W v → PtI F W v) (hR : ∀ W v, IsInt v → R i W v) : DStep Tryz.prog ops Q a0 g PP c J F R i o := by
  intro a w p hp hJ hr hf hd
  obtain ⟨b, j, x, hb, hbl, hbF, hx⟩ := hs _ _ (dep_of h1 hd)
  refine op_val (v := .int .i64 x) (w' := w) ?_ ⟨_, rfl, hR _ _ ⟨x, rfl⟩, hJ, hr.mono (by omega), Chg.refl _ _⟩
  simp only [execOp, hop, hb]
  simp [go_sem, hx]
theorem ds_store2 (t : Nat) (dp dv kd : Nat) (hop : o.op = .store 31 (.tmp dp) (.tmp dv)) (hdp : hasNo ops dp = true) (hx : a0.eval (.tmp dp) = .pointer (some ⟨t, 0, none⟩)) (h1 : Dep ops o kd dv) (hs : ∀ W v, R kd W v → IsItv v)
    (hJ : ∀ W, J W → ∃ x0 x1 : Int, Blk W t 31 #[.int .i64 x0, .int .i64 x1]) (hJ2 : ∀ W W' (y0 y1 : Int), J W → Blk W' t 31 #[.int .i64 y0, .int .i64 y1] → Chg (fun b => b = t) W W' → J W') (hg : g < t) (hF : F t) (hR : ∀ W v, R i W v) : DStep Tryz.prog ops Q a0 g PP c J F R i o := by
  intro a w p hp hJ1 hr hf hd
  obtain ⟨y0, y1, hv⟩ := hs _ _ (dep_of h1 hd)
  obtain ⟨x0, x1, hb⟩ := hJ w hJ1
  have he : a.eval (.tmp dp) = .pointer (some ⟨t, 0, none⟩) := (hf dp (hasNo_spec hdp)).trans hx
  have c0 : w.cell? ⟨t, 0, none⟩ = some (.int .i64 x0) := hb.cell 0
  have c1 : w.cell? ⟨t, 1, none⟩ = some (.int .i64 x1) := hb.cell 1
  have fz := fun j => hb.frozen j
  have hl := hb.lt
  have hb2 : Blk ((w.setCell ⟨t, 0, none⟩ (.int .i64 y0)).setCell ⟨t, 1, none⟩ (.int .i64 y1)) t 31 #[.int .i64 y0, .int .i64 y1] := (hb.set_ 0 _).set_ 1 _
  have hch : Chg (fun b => b = t) w ((w.setCell ⟨t, 0, none⟩ (.int .i64 y0)).setCell ⟨t, 1, none⟩ (.int .i64 y1)) := chg1 (chg1 (Chg.refl _ _) _) _
  refine op_skip (w' := (w.setCell ⟨t, 0, none⟩ (.int .i64 y0)).setCell ⟨t, 1, none⟩ (.int .i64 y1)) ?_ ⟨_, rfl, hR _ _, hJ2 _ _ y0 y1 hJ1 hb2 hch, (hr.chg hch (fun b hb e => by omega)).mono (by omega), ⟨hch.os, hch.tape, hch.output, hch.size, fun k hk hn => hch.block k hk (fun e => hn (e ▸ hF))⟩⟩
  simp only [execOp, hop, he, hv]
  simp [go_sem, fz, c0, c1]
def IsIns (v : Value) : Prop := ∃ op d a b rel lo hi to : Int, v = .agg #[.int .i64 op, .int .i64 d, .int .i64 a, .int .i64 b, .int .i64 rel, .int .i64 lo, .int .i64 hi, .int .i64 to]
set_option maxHeartbeats 2000000 in
theorem ds_store8 (t : Nat) (dp dv kd : Nat) (hop : o.op = .store 28 (.tmp dp) (.tmp dv)) (hdp : hasNo ops dp = true) (hx : a0.eval (.tmp dp) = .pointer (some ⟨t, 0, none⟩)) (h1 : Dep ops o kd dv) (hs : ∀ W v, R kd W v → IsIns v)
    (hJ : ∀ W, J W → ∃ x0 x1 x2 x3 x4 x5 x6 x7 : Int, Blk W t 28 #[.int .i64 x0, .int .i64 x1, .int .i64 x2, .int .i64 x3, .int .i64 x4, .int .i64 x5, .int .i64 x6, .int .i64 x7]) (hJ2 : ∀ W W' (y0 y1 y2 y3 y4 y5 y6 y7 : Int), J W → Blk W' t 28 #[.int .i64 y0, .int .i64 y1, .int .i64 y2, .int .i64 y3, .int .i64 y4, .int .i64 y5, .int .i64 y6, .int .i64 y7] → Chg (fun b => b = t) W W' → J W') (hg : g < t) (hF : F t) (hR : ∀ W v, R i W v) : DStep Tryz.prog ops Q a0 g PP c J F R i o := by
  intro a w p hp hJ1 hr hf hd
  obtain ⟨y0, y1, y2, y3, y4, y5, y6, y7, hv⟩ := hs _ _ (dep_of h1 hd)
  obtain ⟨x0, x1, x2, x3, x4, x5, x6, x7, hb⟩ := hJ w hJ1
  have he : a.eval (.tmp dp) = .pointer (some ⟨t, 0, none⟩) := (hf dp (hasNo_spec hdp)).trans hx
  have c0 : w.cell? ⟨t, 0, none⟩ = some (.int .i64 x0) := hb.cell 0
  have c1 : w.cell? ⟨t, 1, none⟩ = some (.int .i64 x1) := hb.cell 1
  have c2 : w.cell? ⟨t, 2, none⟩ = some (.int .i64 x2) := hb.cell 2
  have c3 : w.cell? ⟨t, 3, none⟩ = some (.int .i64 x3) := hb.cell 3
  have c4 : w.cell? ⟨t, 4, none⟩ = some (.int .i64 x4) := hb.cell 4
  have c5 : w.cell? ⟨t, 5, none⟩ = some (.int .i64 x5) := hb.cell 5
  have c6 : w.cell? ⟨t, 6, none⟩ = some (.int .i64 x6) := hb.cell 6
  have c7 : w.cell? ⟨t, 7, none⟩ = some (.int .i64 x7) := hb.cell 7
  have fz := fun j => hb.frozen j
  have hl := hb.lt
  have hb2 : Blk ((((((((w.setCell ⟨t, 0, none⟩ (.int .i64 y0)).setCell ⟨t, 1, none⟩ (.int .i64 y1)).setCell ⟨t, 2, none⟩ (.int .i64 y2)).setCell ⟨t, 3, none⟩ (.int .i64 y3)).setCell ⟨t, 4, none⟩ (.int .i64 y4)).setCell ⟨t, 5, none⟩ (.int .i64 y5)).setCell ⟨t, 6, none⟩ (.int .i64 y6)).setCell ⟨t, 7, none⟩ (.int .i64 y7)) t 28 #[.int .i64 y0, .int .i64 y1, .int .i64 y2, .int .i64 y3, .int .i64 y4, .int .i64 y5, .int .i64 y6, .int .i64 y7] := (((((((hb.set_ 0 _).set_ 1 _).set_ 2 _).set_ 3 _).set_ 4 _).set_ 5 _).set_ 6 _).set_ 7 _
  have hch : Chg (fun b => b = t) w ((((((((w.setCell ⟨t, 0, none⟩ (.int .i64 y0)).setCell ⟨t, 1, none⟩ (.int .i64 y1)).setCell ⟨t, 2, none⟩ (.int .i64 y2)).setCell ⟨t, 3, none⟩ (.int .i64 y3)).setCell ⟨t, 4, none⟩ (.int .i64 y4)).setCell ⟨t, 5, none⟩ (.int .i64 y5)).setCell ⟨t, 6, none⟩ (.int .i64 y6)).setCell ⟨t, 7, none⟩ (.int .i64 y7)) := chg1 (chg1 (chg1 (chg1 (chg1 (chg1 (chg1 (chg1 (Chg.refl _ _) _) _) _) _) _) _) _) _
  refine op_skip (w' := (((((((w.setCell ⟨t, 0, none⟩ (.int .i64 y0)).setCell ⟨t, 1, none⟩ (.int .i64 y1)).setCell ⟨t, 2, none⟩ (.int .i64 y2)).setCell ⟨t, 3, none⟩ (.int .i64 y3)).setCell ⟨t, 4, none⟩ (.int .i64 y4)).setCell ⟨t, 5, none⟩ (.int .i64 y5)).setCell ⟨t, 6, none⟩ (.int .i64 y6)).setCell ⟨t, 7, none⟩ (.int .i64 y7)) ?_ ⟨_, rfl, hR _ _, hJ2 _ _ y0 y1 y2 y3 y4 y5 y6 y7 hJ1 hb2 hch, (hr.chg hch (fun b hb e => by omega)).mono (by omega), ⟨hch.os, hch.tape, hch.output, hch.size, fun k hk hn => hch.block k hk (fun e => hn (e ▸ hF))⟩⟩
  simp only [execOp, hop, he, hv]
  simp [go_sem, fz, c0, c1, c2, c3, c4, c5, c6, c7]
end
end Go.Proofs.YtpmfpgbpndobpaaGreat

/- Regions that draw: properties that stay, boxes. No condition. -/
namespace Go.Proofs.YtpmfpgbpndobpaaGreat
open Go.RowKit
set_option linter.unusedVariables false

/-- A property of a slot that stays as long as only blocks in F change. -/
structure Pr (F : Nat → Prop) where
  p : World → Value → Prop
  st : ∀ w w' v, Chg F w w' → p w v → p w' v
def prSl {F : Nat → Prop} (n : Nat) : Pr F := ⟨SlI F n, fun _ _ _ c h => h.chg c⟩
def prPt {F : Nat → Prop} : Pr F := ⟨PtI F, fun _ _ _ c h => h.chg c⟩
def prV {F : Nat → Prop} (q : Value → Prop) : Pr F := ⟨fun _ v => q v, fun _ _ _ _ h => h⟩
def prT {F : Nat → Prop} : Pr F := prV fun _ => True
def Rof {F : Nat → Prop} (l : List (Pr F)) (i : Nat) (w : World) (v : Value) : Prop := (l.getD i prT).p w v
def cOf (l : List Nat) (i : Nat) : Nat := l.getD i 0
section
variable {P : Program} {ops : Array Oper} {Q : Exit → Act → World → Prop} {a0 : Act}
theorem region_drawL {id : Nat} {w : World} (g p0 tot n : Nat) (cl : List Nat) (J : World → Prop) (F : Nat → Prop) (Rl : List (Pr F)) (hm : P.follows .mixedOrders = true) (hn : a0.tmps.size = n) (hB : regB ops n = true) (ht : costAll (cOf cl) ops.size = tot)
    (hJ : J w.drew) (hr : RdLe w g p0) (hstep : AllSteps (DStep P ops Q a0 g (p0 + tot) (cOf cl) J F (Rof Rl)) 0 ops.toList)
    (hend : ∀ (vs : Nat → Value) (w' : World), J w' → RdLe w' g (p0 + tot) → (∀ i d, dstOf ops i = some d → Rof Rl i w' (vs i)) → Q .normal (putAll ops.toList vs 0 a0) w') : (Code.region id ops true).wp P Q a0 w := by
  subst ht hn
  exact region_draw g p0 (cOf cl) J F (Rof Rl) hm hB hJ hr (fun j w w' u hc h => (Rl.getD j prT).st w w' u hc h) hstep hend
theorem region_drawX {id : Nat} {W : World} {g p0 : Nat} {x : Gd g p0 W} (tot n : Nat) (cl : List Nat) (J : World → Prop) (F : Nat → Prop) (Rl : List (Pr F)) (hm : P.follows .mixedOrders = true) (hn : a0.tmps.size = n) (hB : regB ops n = true) (ht : costAll (cOf cl) ops.size = tot)
    (hJ : J (extg x).drew) (hstep : AllSteps (DStep P ops Q a0 g (p0 + tot) (cOf cl) J F (Rof Rl)) 0 ops.toList)
    (hend : ∀ (vs : Nat → Value) (w' : World), J w' → RdLe w' g (p0 + tot) → (∀ i d, dstOf ops i = some d → Rof Rl i w' (vs i)) → Q .normal (putAll ops.toList vs 0 a0) w') : (Code.region id ops true).wp P Q a0 (extg x) :=
  region_drawL g p0 tot n cl J F Rl hm hn hB ht hJ x.rd hstep hend
end
section
variable {ops : Array Oper} {Q : Exit → Act → World → Prop} {a0 : Act} {g PP : Nat} {c : Nat → Nat} {J : World → Prop} {F : Nat → Prop} {R : Nat → World → Value → Prop} {i : Nat} {o : Oper}
theorem eval_const (a : Act) (v : Value) : a.eval (.const v) = v := rfl
theorem ds_build (T : TypeId) (parts : Array (Nat × Operand)) (hop : o.op = .build T parts)
    (h : ∀ (a : Act) (w : World), (∀ d, (∀ i, dstOf ops i ≠ some d) → a.eval (.tmp d) = a0.eval (.tmp d)) → (∀ e, e ∈ o.after.toList → Region.binds .any e = true → ∀ d, dstOf ops e.on = some d → R e.on w (a.eval (.tmp d))) →
      ∃ vs : Array (Nat × Value), parts.map (fun x => (x.1, a.eval x.2)) = vs ∧ ∃ v, (∀ W, (Instr.build T vs).run Tryz.prog W = .ok v W) ∧ R i w v) : DStep Tryz.prog ops Q a0 g PP c J F R i o := by
  intro a w p hp hJ hr hf hd
  obtain ⟨vs, h1, v, h2, h3⟩ := h a w hf hd
  refine op_val (v := v) (w' := w) ?_ ⟨_, rfl, h3, hJ, hr.mono (by omega), Chg.refl _ _⟩
  simp only [execOp, hop]
  have h1' : (Array.map (fun x => match x with | (i, x) => (i, a.eval x)) parts) = vs := h1
  rw [h1']
  simp [h2, Result.andThen]
theorem isInt_of_nat {k : Int} {v : Value} (h : IsNat k v) : IsInt v := by obtain ⟨j, h, _⟩ := h; exact ⟨_, h⟩
theorem ds_field {T : TypeId} (d f : Nat) (x y : Value) (hop : o.op = .fieldAddr T (.tmp d) f) (hd : hasNo ops d = true) (hx : a0.eval (.tmp d) = x) (hrun : ∀ W, (Instr.fieldAt T x f).run Tryz.prog W = .ok y W) (hR : ∀ W, R i W y) : DStep Tryz.prog ops Q a0 g PP c J F R i o := by
  intro a w p hp hJ hr hf _
  have he : a.eval (.tmp d) = x := (hf d (hasNo_spec hd)).trans hx
  refine op_val (v := y) (w' := w) ?_ ⟨_, rfl, hR w, hJ, hr.mono (by omega), Chg.refl _ _⟩
  simp only [execOp, hop, he]
  simp [hrun, Result.andThen]
theorem ds_loadB (d1 k1 : Nat) (ad : Addr) (hop : o.op = .load 3 (.tmp d1)) (h1 : Dep ops o k1 d1) (hs : ∀ W v, R k1 W v → v = .pointer (some ad)) (hJ : ∀ W, J W → ∃ x : Int, W.cell? ad = some (.int .i64 x)) (hR : ∀ W v, IsInt v → R i W v) : DStep Tryz.prog ops Q a0 g PP c J F R i o := by
  intro a w p hp hJ1 hr hf hd
  have hb := hs _ _ (dep_of h1 hd)
  obtain ⟨x, hx⟩ := hJ w hJ1
  refine op_val (v := .int .i64 x) (w' := w) ?_ ⟨_, rfl, hR _ _ ⟨x, rfl⟩, hJ1, hr.mono (by omega), Chg.refl _ _⟩
  simp only [execOp, hop, hb]
  simp [go_sem, hx]
theorem ds_add (d : Tmp) (k n : Nat) (hop : o.op = .binOp .add 3 (.const (.int .i64 n)) (.tmp d) 3) (h1 : Dep ops o k d) (hs : ∀ W v, R k W v → IsInt v) (hR : ∀ W v, IsInt v → R i W v) : DStep Tryz.prog ops Q a0 g PP c J F R i o := by
  intro a w p hp hJ hr hf hd
  obtain ⟨x, hx⟩ := hs _ _ (dep_of h1 hd)
  refine op_val (v := .int .i64 (IntKind.i64.wrap ((n : Int) + x))) (w' := w) ?_ ⟨_, rfl, hR _ _ ⟨_, rfl⟩, hJ, hr.mono (by omega), Chg.refl _ _⟩
  simp only [execOp, hop, hx, eval_const]
  simp [go_sem]
  try rfl
end
/-- A box of bounds, of a step. -/
def BoxI (t : Nat) (W : World) : Prop := ∃ u0 u1 : Int, Blk W t 31 #[.int .i64 u0, .int .i64 u1]
def BoxN (t : Nat) (W : World) : Prop := ∃ u0 u1 u2 u3 u4 u5 u6 u7 : Int, Blk W t 28 #[.int .i64 u0, .int .i64 u1, .int .i64 u2, .int .i64 u3, .int .i64 u4, .int .i64 u5, .int .i64 u6, .int .i64 u7]
section
variable {t g : Nat} {W W' : World}
theorem BoxI.chg {F : Nat → Prop} (h : BoxI t W) (c : Chg F W W') (n : ¬ F t) : BoxI t W' := by obtain ⟨u0, u1, h⟩ := h; exact ⟨u0, u1, h.chg c n⟩
theorem BoxN.chg {F : Nat → Prop} (h : BoxN t W) (c : Chg F W W') (n : ¬ F t) : BoxN t W' := by obtain ⟨u0, u1, u2, u3, u4, u5, u6, u7, h⟩ := h; exact ⟨u0, u1, u2, u3, u4, u5, u6, u7, h.chg c n⟩
theorem BoxI.grew (h : BoxI t W) (c : Grew W W') : BoxI t W' := h.chg (F := fun _ => False) (Chg.of_below c) (fun h => h)
theorem BoxN.grew (h : BoxN t W) (c : Grew W W') : BoxN t W' := h.chg (F := fun _ => False) (Chg.of_below c) (fun h => h)
theorem BoxI.al (h : BoxI t W) (o : Obj) : BoxI t (W.alloc o) := h.grew (grew_al (Below.refl _ _) o)
theorem BoxI.drew (h : BoxI t W) : BoxI t W.drew := h.grew (grew_d (Below.refl _ _))
theorem BoxI.ext {P : Nat} (x : Gd g P W) (h : BoxI t W) (n : ¬ t = g) : BoxI t (extg x) := h.chg x.chg n
theorem BoxI.set0 (h : BoxI t W) (v : Int) : BoxI t (W.setCell ⟨t, 0, none⟩ (.int .i64 v)) := by obtain ⟨u0, u1, h⟩ := h; exact ⟨v, u1, h.set_ 0 _⟩
theorem BoxI.set1 (h : BoxI t W) (v : Int) : BoxI t (W.setCell ⟨t, 1, none⟩ (.int .i64 v)) := by obtain ⟨u0, u1, h⟩ := h; exact ⟨u0, v, h.set_ 1 _⟩
theorem BoxI.far {p : Addr} (h : BoxI t W) (n : t < p.block) (u : Value) : BoxI t (W.setCell p u) := by obtain ⟨u0, u1, h⟩ := h; exact ⟨u0, u1, h.far (Nat.ne_of_lt n) u⟩
theorem BoxI.new (v0 v1 : Int) : BoxI W.heap.size (W.alloc (.cells #[.int .i64 v0, .int .i64 v1] 31)) := ⟨v0, v1, Blk.new _ _ _⟩
theorem BoxN.set0 (h : BoxN t W) (v : Int) : BoxN t (W.setCell ⟨t, 0, none⟩ (.int .i64 v)) := by obtain ⟨u0, u1, u2, u3, u4, u5, u6, u7, h⟩ := h; exact ⟨v, u1, u2, u3, u4, u5, u6, u7, h.set_ 0 _⟩
theorem BoxN.set1 (h : BoxN t W) (v : Int) : BoxN t (W.setCell ⟨t, 1, none⟩ (.int .i64 v)) := by obtain ⟨u0, u1, u2, u3, u4, u5, u6, u7, h⟩ := h; exact ⟨u0, v, u2, u3, u4, u5, u6, u7, h.set_ 1 _⟩
theorem BoxN.set2 (h : BoxN t W) (v : Int) : BoxN t (W.setCell ⟨t, 2, none⟩ (.int .i64 v)) := by obtain ⟨u0, u1, u2, u3, u4, u5, u6, u7, h⟩ := h; exact ⟨u0, u1, v, u3, u4, u5, u6, u7, h.set_ 2 _⟩
theorem BoxN.set3 (h : BoxN t W) (v : Int) : BoxN t (W.setCell ⟨t, 3, none⟩ (.int .i64 v)) := by obtain ⟨u0, u1, u2, u3, u4, u5, u6, u7, h⟩ := h; exact ⟨u0, u1, u2, v, u4, u5, u6, u7, h.set_ 3 _⟩
theorem BoxN.set4 (h : BoxN t W) (v : Int) : BoxN t (W.setCell ⟨t, 4, none⟩ (.int .i64 v)) := by obtain ⟨u0, u1, u2, u3, u4, u5, u6, u7, h⟩ := h; exact ⟨u0, u1, u2, u3, v, u5, u6, u7, h.set_ 4 _⟩
theorem BoxN.set5 (h : BoxN t W) (v : Int) : BoxN t (W.setCell ⟨t, 5, none⟩ (.int .i64 v)) := by obtain ⟨u0, u1, u2, u3, u4, u5, u6, u7, h⟩ := h; exact ⟨u0, u1, u2, u3, u4, v, u6, u7, h.set_ 5 _⟩
theorem BoxN.set6 (h : BoxN t W) (v : Int) : BoxN t (W.setCell ⟨t, 6, none⟩ (.int .i64 v)) := by obtain ⟨u0, u1, u2, u3, u4, u5, u6, u7, h⟩ := h; exact ⟨u0, u1, u2, u3, u4, u5, v, u7, h.set_ 6 _⟩
theorem BoxN.set7 (h : BoxN t W) (v : Int) : BoxN t (W.setCell ⟨t, 7, none⟩ (.int .i64 v)) := by obtain ⟨u0, u1, u2, u3, u4, u5, u6, u7, h⟩ := h; exact ⟨u0, u1, u2, u3, u4, u5, u6, v, h.set_ 7 _⟩
theorem BoxN.al (h : BoxN t W) (o : Obj) : BoxN t (W.alloc o) := h.grew (grew_al (Below.refl _ _) o)
theorem BoxN.drew (h : BoxN t W) : BoxN t W.drew := h.grew (grew_d (Below.refl _ _))
theorem BoxN.ext {P : Nat} (x : Gd g P W) (h : BoxN t W) (n : ¬ t = g) : BoxN t (extg x) := h.chg x.chg n
theorem BoxN.far {p : Addr} (h : BoxN t W) (n : ¬ t = p.block) (u : Value) : BoxN t (W.setCell p u) := by obtain ⟨u0, u1, u2, u3, u4, u5, u6, u7, h⟩ := h; exact ⟨u0, u1, u2, u3, u4, u5, u6, u7, h.far n u⟩
theorem BoxN.new (u0 u1 u2 u3 u4 u5 u6 u7 : Int) (h : t = W.heap.size) : BoxN t (W.alloc (.cells #[.int .i64 u0, .int .i64 u1, .int .i64 u2, .int .i64 u3, .int .i64 u4, .int .i64 u5, .int .i64 u6, .int .i64 u7] 28)) := by subst h; exact ⟨u0, u1, u2, u3, u4, u5, u6, u7, Blk.new _ _ _⟩
/-- A call met in whatever world of a kind. -/
theorem calls_gen {P : Program} {f : FuncId} {args : Array Value} {Rr : Ending → World → Prop} {w : World} {p : Nat} (t1 t2 : Nat) (hc : ChgG g w W) (hr : RdLe W g p) (h1 : BoxN t1 W) (h2 : BoxN t2 W)
    (h : ∀ E, ChgG g w E → RdLe E g p → BoxN t1 E → BoxN t2 E → Calls P f args E Rr) : Calls P f args W Rr := h W hc hr h1 h2
theorem BoxI.get0 (h : BoxI t W) : ∃ x : Int, W.cell? ⟨t, 0, none⟩ = some (.int .i64 x) := by obtain ⟨u0, u1, h⟩ := h; exact ⟨u0, h.cell 0⟩
theorem BoxI.get1 (h : BoxI t W) : ∃ x : Int, W.cell? ⟨t, 1, none⟩ = some (.int .i64 x) := by obtain ⟨u0, u1, h⟩ := h; exact ⟨u1, h.cell 1⟩
theorem BoxN.lt (h : BoxN t W) : t < W.heap.size := by obtain ⟨u0, u1, u2, u3, u4, u5, u6, u7, h⟩ := h; exact h.lt
theorem BoxI.lt (h : BoxI t W) : t < W.heap.size := by obtain ⟨u0, u1, h⟩ := h; exact h.lt
theorem BoxN.fz (h : BoxN t W) : ∀ j, W.frozen? ⟨t, j, none⟩ = false := by obtain ⟨u0, u1, u2, u3, u4, u5, u6, u7, h⟩ := h; exact fun j => h.frozen j
theorem BoxN.all (h : BoxN t W) : ∃ u0 u1 u2 u3 u4 u5 u6 u7 : Int, W.cell? ⟨t, 0, none⟩ = some (.int .i64 u0) ∧ W.cell? ⟨t, 1, none⟩ = some (.int .i64 u1) ∧ W.cell? ⟨t, 2, none⟩ = some (.int .i64 u2) ∧ W.cell? ⟨t, 3, none⟩ = some (.int .i64 u3) ∧ W.cell? ⟨t, 4, none⟩ = some (.int .i64 u4) ∧ W.cell? ⟨t, 5, none⟩ = some (.int .i64 u5) ∧ W.cell? ⟨t, 6, none⟩ = some (.int .i64 u6) ∧ W.cell? ⟨t, 7, none⟩ = some (.int .i64 u7) := by
  obtain ⟨u0, u1, u2, u3, u4, u5, u6, u7, h⟩ := h
  exact ⟨u0, u1, u2, u3, u4, u5, u6, u7, h.cell 0, h.cell 1, h.cell 2, h.cell 3, h.cell 4, h.cell 5, h.cell 6, h.cell 7⟩
theorem body_boxN {P : Program} {f : Func} {Q : Ending → World → Prop} {x : Exit} {a : Act} (hb : BoxN t W) (h : ∀ E, E = W → ∀ u0 u1 u2 u3 u4 u5 u6 u7 : Int, E.cell? ⟨t, 0, none⟩ = some (.int .i64 u0) → E.cell? ⟨t, 1, none⟩ = some (.int .i64 u1) → E.cell? ⟨t, 2, none⟩ = some (.int .i64 u2) → E.cell? ⟨t, 3, none⟩ = some (.int .i64 u3) → E.cell? ⟨t, 4, none⟩ = some (.int .i64 u4) → E.cell? ⟨t, 5, none⟩ = some (.int .i64 u5) → E.cell? ⟨t, 6, none⟩ = some (.int .i64 u6) → E.cell? ⟨t, 7, none⟩ = some (.int .i64 u7) → bodyPost P f Q x a E) : bodyPost P f Q x a W := by
  obtain ⟨u0, u1, u2, u3, u4, u5, u6, u7, hb⟩ := hb
  exact h W rfl u0 u1 u2 u3 u4 u5 u6 u7 (hb.cell 0) (hb.cell 1) (hb.cell 2) (hb.cell 3) (hb.cell 4) (hb.cell 5) (hb.cell 6) (hb.cell 7)
theorem body_boxI {P : Program} {f : Func} {Q : Ending → World → Prop} {x : Exit} {a : Act} (hb : BoxI t W) (h : ∀ E, E = W → ∀ u0 u1 : Int, E.cell? ⟨t, 0, none⟩ = some (.int .i64 u0) → E.cell? ⟨t, 1, none⟩ = some (.int .i64 u1) → bodyPost P f Q x a E) : bodyPost P f Q x a W := by
  obtain ⟨u0, u1, hb⟩ := hb
  exact h W rfl u0 u1 (hb.cell 0) (hb.cell 1)
end
theorem g_box {p : Prop} (h : p := by (repeat (first | with_reducible assumption | with_reducible exact BoxI.new _ _ | with_reducible apply BoxI.set0 | with_reducible apply BoxI.set1 | with_reducible apply BoxI.al | with_reducible apply BoxI.drew | (with_reducible apply BoxI.ext; rotate_left; assumption) | (with_reducible apply BoxI.far; rotate_left; (focus (first | ((repeat (first | with_reducible assumption | omega | with_reducible exact dg_gt _ | (simp only [World.size_alloc, World.size_setCell, World.size_drew]) | with_reducible apply Nat.lt_succ_of_lt | with_reducible apply dg_lt | with_reducible apply le_pl | with_reducible apply dg_le)); done) | assumption | omega | (simp only [World.size_alloc, World.size_setCell, World.size_drew]; first | done | omega | (repeat (first | with_reducible assumption | with_reducible exact dg_gt _ | with_reducible apply Nat.lt_succ_of_lt | with_reducible apply dg_lt | with_reducible apply le_pl | with_reducible apply Nat.le_trans ?_ (dg_size _)))))))))) : p := h
theorem g_boxN {p : Prop} (h : p := by (repeat (first | with_reducible assumption | with_reducible exact BoxN.new _ _ _ _ _ _ _ _ (by first | with_reducible rfl | (simp only [World.size_alloc]; done) | (simp only [World.size_alloc]; omega)) | with_reducible apply BoxN.set0 | with_reducible apply BoxN.set1 | with_reducible apply BoxN.set2 | with_reducible apply BoxN.set3 | with_reducible apply BoxN.set4 | with_reducible apply BoxN.set5 | with_reducible apply BoxN.set6 | with_reducible apply BoxN.set7 | with_reducible apply BoxN.al | with_reducible apply BoxN.drew | (with_reducible apply BoxN.ext; rotate_left; (first | assumption | omega)) | (with_reducible apply BoxN.far; rotate_left; (simp only; omega))))) : p := h
end Go.Proofs.YtpmfpgbpndobpaaGreat
