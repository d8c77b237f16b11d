/- Regions that draw: properties that stay, boxes. No condition. -/
import Derived.Test.YtcdfomoglkhboaaGreatDoorDrS
namespace Go.Proofs.YtcdfomoglkhboaaGreatDoor
open Go.RowKit
set_option linter.unusedVariables false

/-- A property of a slot that stays as long as only blocks in F change. -/
structure Pr (F : Nat → Prop) where
  p : World → Value → Prop
  st : ∀ w w' v, Chg F w w' → p w v → p w' v
def prSl {F : Nat → Prop} (n : Nat) : Pr F := ⟨SlI F n, fun _ _ _ c h => h.chg c⟩
def prPt {F : Nat → Prop} : Pr F := ⟨PtI F, fun _ _ _ c h => h.chg c⟩
def prV {F : Nat → Prop} (q : Value → Prop) : Pr F := ⟨fun _ v => q v, fun _ _ _ _ h => h⟩
def prT {F : Nat → Prop} : Pr F := prV fun _ => True
def Rof {F : Nat → Prop} (l : List (Pr F)) (i : Nat) (w : World) (v : Value) : Prop := (l.getD i prT).p w v
def cOf (l : List Nat) (i : Nat) : Nat := l.getD i 0
section
variable {P : Program} {ops : Array Oper} {Q : Exit → Act → World → Prop} {a0 : Act}
theorem region_drawL {id : Nat} {w : World} (g p0 tot n : Nat) (cl : List Nat) (J : World → Prop) (F : Nat → Prop) (Rl : List (Pr F)) (hm : P.follows .mixedOrders = true) (hn : a0.tmps.size = n) (hB : regB ops n = true) (ht : costAll (cOf cl) ops.size = tot)
    (hJ : J w.drew) (hr : RdLe w g p0) (hstep : AllSteps (DStep P ops Q a0 g (p0 + tot) (cOf cl) J F (Rof Rl)) 0 ops.toList)
    (hend : ∀ (vs : Nat → Value) (w' : World), J w' → RdLe w' g (p0 + tot) → (∀ i d, dstOf ops i = some d → Rof Rl i w' (vs i)) → Q .normal (putAll ops.toList vs 0 a0) w') : (Code.region id ops true).wp P Q a0 w := by
  subst ht hn
  exact region_draw g p0 (cOf cl) J F (Rof Rl) hm hB hJ hr (fun j w w' u hc h => (Rl.getD j prT).st w w' u hc h) hstep hend
theorem region_drawX {id : Nat} {W : World} {g p0 : Nat} {x : Gd g p0 W} (tot n : Nat) (cl : List Nat) (J : World → Prop) (F : Nat → Prop) (Rl : List (Pr F)) (hm : P.follows .mixedOrders = true) (hn : a0.tmps.size = n) (hB : regB ops n = true) (ht : costAll (cOf cl) ops.size = tot)
    (hJ : J (extg x).drew) (hstep : AllSteps (DStep P ops Q a0 g (p0 + tot) (cOf cl) J F (Rof Rl)) 0 ops.toList)
    (hend : ∀ (vs : Nat → Value) (w' : World), J w' → RdLe w' g (p0 + tot) → (∀ i d, dstOf ops i = some d → Rof Rl i w' (vs i)) → Q .normal (putAll ops.toList vs 0 a0) w') : (Code.region id ops true).wp P Q a0 (extg x) :=
  region_drawL g p0 tot n cl J F Rl hm hn hB ht hJ x.rd hstep hend
end
section
variable {ops : Array Oper} {Q : Exit → Act → World → Prop} {a0 : Act} {g PP : Nat} {c : Nat → Nat} {J : World → Prop} {F : Nat → Prop} {R : Nat → World → Value → Prop} {i : Nat} {o : Oper}
theorem eval_const (a : Act) (v : Value) : a.eval (.const v) = v := rfl
theorem ds_build (T : TypeId) (parts : Array (Nat × Operand)) (hop : o.op = .build T parts)
    (h : ∀ (a : Act) (w : World), (∀ d, (∀ i, dstOf ops i ≠ some d) → a.eval (.tmp d) = a0.eval (.tmp d)) → (∀ e, e ∈ o.after.toList → Region.binds .any e = true → ∀ d, dstOf ops e.on = some d → R e.on w (a.eval (.tmp d))) →
      ∃ vs : Array (Nat × Value), parts.map (fun x => (x.1, a.eval x.2)) = vs ∧ ∃ v, (∀ W, (Instr.build T vs).run Tryz.prog W = .ok v W) ∧ R i w v) : DStep Tryz.prog ops Q a0 g PP c J F R i o := by
  intro a w p hp hJ hr hf hd
  obtain ⟨vs, h1, v, h2, h3⟩ := h a w hf hd
  refine op_val (v := v) (w' := w) ?_ ⟨_, rfl, h3, hJ, hr.mono (by omega), Chg.refl _ _⟩
  simp only [execOp, hop]
  have h1' : (Array.map (fun x => match x with | (i, x) => (i, a.eval x)) parts) = vs := h1
  rw [h1']
  simp [h2, Result.andThen]
theorem isInt_of_nat {k : Int} {v : Value} (h : IsNat k v) : IsInt v := by obtain ⟨j, h, _⟩ := h; exact ⟨_, h⟩
theorem ds_field {T : TypeId} (d f : Nat) (x y : Value) (hop : o.op = .fieldAddr T (.tmp d) f) (hd : hasNo ops d = true) (hx : a0.eval (.tmp d) = x) (hrun : ∀ W, (Instr.fieldAt T x f).run Tryz.prog W = .ok y W) (hR : ∀ W, R i W y) : DStep Tryz.prog ops Q a0 g PP c J F R i o := by
  intro a w p hp hJ hr hf _
  have he : a.eval (.tmp d) = x := (hf d (hasNo_spec hd)).trans hx
  refine op_val (v := y) (w' := w) ?_ ⟨_, rfl, hR w, hJ, hr.mono (by omega), Chg.refl _ _⟩
  simp only [execOp, hop, he]
  simp [hrun, Result.andThen]
theorem ds_loadB (d1 k1 : Nat) (ad : Addr) (hop : o.op = .load 3 (.tmp d1)) (h1 : Dep ops o k1 d1) (hs : ∀ W v, R k1 W v → v = .pointer (some ad)) (hJ : ∀ W, J W → ∃ x : Int, W.cell? ad = some (.int .i64 x)) (hR : ∀ W v, IsInt v → R i W v) : DStep Tryz.prog ops Q a0 g PP c J F R i o := by
  intro a w p hp hJ1 hr hf hd
  have hb := hs _ _ (dep_of h1 hd)
  obtain ⟨x, hx⟩ := hJ w hJ1
  refine op_val (v := .int .i64 x) (w' := w) ?_ ⟨_, rfl, hR _ _ ⟨x, rfl⟩, hJ1, hr.mono (by omega), Chg.refl _ _⟩
  simp only [execOp, hop, hb]
  simp [go_sem, hx]
theorem ds_add (d : Tmp) (k n : Nat) (hop : o.op = .binOp .add 3 (.const (.int .i64 n)) (.tmp d) 3) (h1 : Dep ops o k d) (hs : ∀ W v, R k W v → IsInt v) (hR : ∀ W v, IsInt v → R i W v) : DStep Tryz.prog ops Q a0 g PP c J F R i o := by
  intro a w p hp hJ hr hf hd
  obtain ⟨x, hx⟩ := hs _ _ (dep_of h1 hd)
  refine op_val (v := .int .i64 (IntKind.i64.wrap ((n : Int) + x))) (w' := w) ?_ ⟨_, rfl, hR _ _ ⟨_, rfl⟩, hJ, hr.mono (by omega), Chg.refl _ _⟩
  simp only [execOp, hop, hx, eval_const]
  simp [go_sem]
  try rfl
end
/-- A box of bounds, of a step. -/
def BoxI (t : Nat) (W : World) : Prop := ∃ u0 u1 : Int, Blk W t 96 #[.int .i64 u0, .int .i64 u1]
def BoxN (t : Nat) (W : World) : Prop := ∃ u0 u1 u2 u3 u4 u5 u6 u7 : Int, Blk W t 38 #[.int .i64 u0, .int .i64 u1, .int .i64 u2, .int .i64 u3, .int .i64 u4, .int .i64 u5, .int .i64 u6, .int .i64 u7]
section
variable {t g : Nat} {W W' : World}
theorem BoxI.chg {F : Nat → Prop} (h : BoxI t W) (c : Chg F W W') (n : ¬ F t) : BoxI t W' := by obtain ⟨u0, u1, h⟩ := h; exact ⟨u0, u1, h.chg c n⟩
theorem BoxN.chg {F : Nat → Prop} (h : BoxN t W) (c : Chg F W W') (n : ¬ F t) : BoxN t W' := by obtain ⟨u0, u1, u2, u3, u4, u5, u6, u7, h⟩ := h; exact ⟨u0, u1, u2, u3, u4, u5, u6, u7, h.chg c n⟩
theorem BoxI.grew (h : BoxI t W) (c : Grew W W') : BoxI t W' := h.chg (F := fun _ => False) (Chg.of_below c) (fun h => h)
theorem BoxN.grew (h : BoxN t W) (c : Grew W W') : BoxN t W' := h.chg (F := fun _ => False) (Chg.of_below c) (fun h => h)
theorem BoxI.al (h : BoxI t W) (o : Obj) : BoxI t (W.alloc o) := h.grew (grew_al (Below.refl _ _) o)
theorem BoxI.drew (h : BoxI t W) : BoxI t W.drew := h.grew (grew_d (Below.refl _ _))
theorem BoxI.ext {P : Nat} (x : Gd g P W) (h : BoxI t W) (n : ¬ t = g) : BoxI t (extg x) := h.chg x.chg n
theorem BoxI.set0 (h : BoxI t W) (v : Int) : BoxI t (W.setCell ⟨t, 0, none⟩ (.int .i64 v)) := by obtain ⟨u0, u1, h⟩ := h; exact ⟨v, u1, h.set_ 0 _⟩
theorem BoxI.set1 (h : BoxI t W) (v : Int) : BoxI t (W.setCell ⟨t, 1, none⟩ (.int .i64 v)) := by obtain ⟨u0, u1, h⟩ := h; exact ⟨u0, v, h.set_ 1 _⟩
theorem BoxI.far {p : Addr} (h : BoxI t W) (n : t < p.block) (u : Value) : BoxI t (W.setCell p u) := by obtain ⟨u0, u1, h⟩ := h; exact ⟨u0, u1, h.far (Nat.ne_of_lt n) u⟩
theorem BoxI.new (v0 v1 : Int) : BoxI W.heap.size (W.alloc (.cells #[.int .i64 v0, .int .i64 v1] 96)) := ⟨v0, v1, Blk.new _ _ _⟩
theorem BoxN.set0 (h : BoxN t W) (v : Int) : BoxN t (W.setCell ⟨t, 0, none⟩ (.int .i64 v)) := by obtain ⟨u0, u1, u2, u3, u4, u5, u6, u7, h⟩ := h; exact ⟨v, u1, u2, u3, u4, u5, u6, u7, h.set_ 0 _⟩
theorem BoxN.set1 (h : BoxN t W) (v : Int) : BoxN t (W.setCell ⟨t, 1, none⟩ (.int .i64 v)) := by obtain ⟨u0, u1, u2, u3, u4, u5, u6, u7, h⟩ := h; exact ⟨u0, v, u2, u3, u4, u5, u6, u7, h.set_ 1 _⟩
theorem BoxN.set2 (h : BoxN t W) (v : Int) : BoxN t (W.setCell ⟨t, 2, none⟩ (.int .i64 v)) := by obtain ⟨u0, u1, u2, u3, u4, u5, u6, u7, h⟩ := h; exact ⟨u0, u1, v, u3, u4, u5, u6, u7, h.set_ 2 _⟩
theorem BoxN.set3 (h : BoxN t W) (v : Int) : BoxN t (W.setCell ⟨t, 3, none⟩ (.int .i64 v)) := by obtain ⟨u0, u1, u2, u3, u4, u5, u6, u7, h⟩ := h; exact ⟨u0, u1, u2, v, u4, u5, u6, u7, h.set_ 3 _⟩
theorem BoxN.set4 (h : BoxN t W) (v : Int) : BoxN t (W.setCell ⟨t, 4, none⟩ (.int .i64 v)) := by obtain ⟨u0, u1, u2, u3, u4, u5, u6, u7, h⟩ := h; exact ⟨u0, u1, u2, u3, v, u5, u6, u7, h.set_ 4 _⟩
theorem BoxN.set5 (h : BoxN t W) (v : Int) : BoxN t (W.setCell ⟨t, 5, none⟩ (.int .i64 v)) := by obtain ⟨u0, u1, u2, u3, u4, u5, u6, u7, h⟩ := h; exact ⟨u0, u1, u2, u3, u4, v, u6, u7, h.set_ 5 _⟩
theorem BoxN.set6 (h : BoxN t W) (v : Int) : BoxN t (W.setCell ⟨t, 6, none⟩ (.int .i64 v)) := by obtain ⟨u0, u1, u2, u3, u4, u5, u6, u7, h⟩ := h; exact ⟨u0, u1, u2, u3, u4, u5, v, u7, h.set_ 6 _⟩
theorem BoxN.set7 (h : BoxN t W) (v : Int) : BoxN t (W.setCell ⟨t, 7, none⟩ (.int .i64 v)) := by obtain ⟨u0, u1, u2, u3, u4, u5, u6, u7, h⟩ := h; exact ⟨u0, u1, u2, u3, u4, u5, u6, v, h.set_ 7 _⟩
theorem BoxN.al (h : BoxN t W) (o : Obj) : BoxN t (W.alloc o) := h.grew (grew_al (Below.refl _ _) o)
theorem BoxN.drew (h : BoxN t W) : BoxN t W.drew := h.grew (grew_d (Below.refl _ _))
theorem BoxN.ext {P : Nat} (x : Gd g P W) (h : BoxN t W) (n : ¬ t = g) : BoxN t (extg x) := h.chg x.chg n
theorem BoxN.far {p : Addr} (h : BoxN t W) (n : ¬ t = p.block) (u : Value) : BoxN t (W.setCell p u) := by obtain ⟨u0, u1, u2, u3, u4, u5, u6, u7, h⟩ := h; exact ⟨u0, u1, u2, u3, u4, u5, u6, u7, h.far n u⟩
theorem BoxN.new (u0 u1 u2 u3 u4 u5 u6 u7 : Int) (h : t = W.heap.size) : BoxN t (W.alloc (.cells #[.int .i64 u0, .int .i64 u1, .int .i64 u2, .int .i64 u3, .int .i64 u4, .int .i64 u5, .int .i64 u6, .int .i64 u7] 38)) := by subst h; exact ⟨u0, u1, u2, u3, u4, u5, u6, u7, Blk.new _ _ _⟩
/-- A call met in whatever world of a kind. -/
theorem calls_gen {P : Program} {f : FuncId} {args : Array Value} {Rr : Ending → World → Prop} {w : World} {p : Nat} (t1 t2 : Nat) (hc : ChgG g w W) (hr : RdLe W g p) (h1 : BoxN t1 W) (h2 : BoxN t2 W)
    (h : ∀ E, ChgG g w E → RdLe E g p → BoxN t1 E → BoxN t2 E → Calls P f args E Rr) : Calls P f args W Rr := h W hc hr h1 h2
theorem BoxI.get0 (h : BoxI t W) : ∃ x : Int, W.cell? ⟨t, 0, none⟩ = some (.int .i64 x) := by obtain ⟨u0, u1, h⟩ := h; exact ⟨u0, h.cell 0⟩
theorem BoxI.get1 (h : BoxI t W) : ∃ x : Int, W.cell? ⟨t, 1, none⟩ = some (.int .i64 x) := by obtain ⟨u0, u1, h⟩ := h; exact ⟨u1, h.cell 1⟩
theorem BoxN.lt (h : BoxN t W) : t < W.heap.size := by obtain ⟨u0, u1, u2, u3, u4, u5, u6, u7, h⟩ := h; exact h.lt
theorem BoxI.lt (h : BoxI t W) : t < W.heap.size := by obtain ⟨u0, u1, h⟩ := h; exact h.lt
theorem BoxN.fz (h : BoxN t W) : ∀ j, W.frozen? ⟨t, j, none⟩ = false := by obtain ⟨u0, u1, u2, u3, u4, u5, u6, u7, h⟩ := h; exact fun j => h.frozen j
theorem BoxN.all (h : BoxN t W) : ∃ u0 u1 u2 u3 u4 u5 u6 u7 : Int, W.cell? ⟨t, 0, none⟩ = some (.int .i64 u0) ∧ W.cell? ⟨t, 1, none⟩ = some (.int .i64 u1) ∧ W.cell? ⟨t, 2, none⟩ = some (.int .i64 u2) ∧ W.cell? ⟨t, 3, none⟩ = some (.int .i64 u3) ∧ W.cell? ⟨t, 4, none⟩ = some (.int .i64 u4) ∧ W.cell? ⟨t, 5, none⟩ = some (.int .i64 u5) ∧ W.cell? ⟨t, 6, none⟩ = some (.int .i64 u6) ∧ W.cell? ⟨t, 7, none⟩ = some (.int .i64 u7) := by
  obtain ⟨u0, u1, u2, u3, u4, u5, u6, u7, h⟩ := h
  exact ⟨u0, u1, u2, u3, u4, u5, u6, u7, h.cell 0, h.cell 1, h.cell 2, h.cell 3, h.cell 4, h.cell 5, h.cell 6, h.cell 7⟩
theorem body_boxN {P : Program} {f : Func} {Q : Ending → World → Prop} {x : Exit} {a : Act} (hb : BoxN t W) (h : ∀ E, E = W → ∀ u0 u1 u2 u3 u4 u5 u6 u7 : Int, E.cell? ⟨t, 0, none⟩ = some (.int .i64 u0) → E.cell? ⟨t, 1, none⟩ = some (.int .i64 u1) → E.cell? ⟨t, 2, none⟩ = some (.int .i64 u2) → E.cell? ⟨t, 3, none⟩ = some (.int .i64 u3) → E.cell? ⟨t, 4, none⟩ = some (.int .i64 u4) → E.cell? ⟨t, 5, none⟩ = some (.int .i64 u5) → E.cell? ⟨t, 6, none⟩ = some (.int .i64 u6) → E.cell? ⟨t, 7, none⟩ = some (.int .i64 u7) → bodyPost P f Q x a E) : bodyPost P f Q x a W := by
  obtain ⟨u0, u1, u2, u3, u4, u5, u6, u7, hb⟩ := hb
  exact h W rfl u0 u1 u2 u3 u4 u5 u6 u7 (hb.cell 0) (hb.cell 1) (hb.cell 2) (hb.cell 3) (hb.cell 4) (hb.cell 5) (hb.cell 6) (hb.cell 7)
theorem body_boxI {P : Program} {f : Func} {Q : Ending → World → Prop} {x : Exit} {a : Act} (hb : BoxI t W) (h : ∀ E, E = W → ∀ u0 u1 : Int, E.cell? ⟨t, 0, none⟩ = some (.int .i64 u0) → E.cell? ⟨t, 1, none⟩ = some (.int .i64 u1) → bodyPost P f Q x a E) : bodyPost P f Q x a W := by
  obtain ⟨u0, u1, hb⟩ := hb
  exact h W rfl u0 u1 (hb.cell 0) (hb.cell 1)
end
theorem g_box {p : Prop} (h : p := by (repeat (first | with_reducible assumption | with_reducible exact BoxI.new _ _ | with_reducible apply BoxI.set0 | with_reducible apply BoxI.set1 | with_reducible apply BoxI.al | with_reducible apply BoxI.drew | (with_reducible apply BoxI.ext; rotate_left; assumption) | (with_reducible apply BoxI.far; rotate_left; (focus (first | ((repeat (first | with_reducible assumption | omega | with_reducible exact dg_gt _ | (simp only [World.size_alloc, World.size_setCell, World.size_drew]) | with_reducible apply Nat.lt_succ_of_lt | with_reducible apply dg_lt | with_reducible apply le_pl | with_reducible apply dg_le)); done) | assumption | omega | (simp only [World.size_alloc, World.size_setCell, World.size_drew]; first | done | omega | (repeat (first | with_reducible assumption | with_reducible exact dg_gt _ | with_reducible apply Nat.lt_succ_of_lt | with_reducible apply dg_lt | with_reducible apply le_pl | with_reducible apply Nat.le_trans ?_ (dg_size _)))))))))) : p := h
theorem g_boxN {p : Prop} (h : p := by (repeat (first | with_reducible assumption | with_reducible exact BoxN.new _ _ _ _ _ _ _ _ (by first | with_reducible rfl | (simp only [World.size_alloc]; done) | (simp only [World.size_alloc]; omega)) | with_reducible apply BoxN.set0 | with_reducible apply BoxN.set1 | with_reducible apply BoxN.set2 | with_reducible apply BoxN.set3 | with_reducible apply BoxN.set4 | with_reducible apply BoxN.set5 | with_reducible apply BoxN.set6 | with_reducible apply BoxN.set7 | with_reducible apply BoxN.al | with_reducible apply BoxN.drew | (with_reducible apply BoxN.ext; rotate_left; (first | assumption | omega)) | (with_reducible apply BoxN.far; rotate_left; (simp only; omega))))) : p := h
end Go.Proofs.YtcdfomoglkhboaaGreatDoor
