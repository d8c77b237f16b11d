/- Regions that draw from a code: the rule, and its steps. No condition. -/
import Derived.Test.YtcdfomoglkhboaaGreatDoorDr
import Derived.Test.YtcdfomoglkhboaaGreatDoorRegion
import Derived.Test.YtcdfomoglkhboaaGreatDoorBlk
import Derived.Test.YtcdfomoglkhboaaGreatDoorDIns
namespace Go.Proofs.YtcdfomoglkhboaaGreatDoor
open Go.RowKit
set_option linter.unusedVariables false

section
variable {P : Program} {ops : Array Oper} {Q : Exit → Act → World → Prop} {a0 : Act}
/-- One operation of a region that draws from reader g. -/
def DStep (P : Program) (ops : Array Oper) (Q : Exit → Act → World → Prop) (a0 : Act) (g PP : Nat) (c : Nat → Nat) (J : World → Prop) (F : Nat → Prop) (R : Nat → World → Value → Prop) (i : Nat) (o : Oper) : Prop :=
  ∀ (a : Act) (w : World) (p : Nat), p + c i ≤ PP → J w → RdLe w g p → (∀ d, (∀ i, dstOf ops i ≠ some d) → a.eval (.tmp d) = a0.eval (.tmp d)) →
    (∀ e, e ∈ o.after.toList → Region.binds .any e = true → ∀ d, dstOf ops e.on = some d → R e.on w (a.eval (.tmp d))) →
    o.wp P a w (fun a' w' => ∃ v, a' = a.put o.dst v ∧ R i w' v ∧ J w' ∧ RdLe w' g (p + c i) ∧ Chg F w w') Q
theorem region_draw {id : Nat} {w : World} (g p0 : Nat) (c : Nat → Nat) (J : World → Prop) (F : Nat → Prop) (R : Nat → World → Value → Prop) (hm : P.follows .mixedOrders = true) (hB : regB ops a0.tmps.size = true)
    (hJ : J w.drew) (hr : RdLe w g p0) (hF : ∀ j w w' u, Chg F w w' → R j w u → R j w' u)
    (hstep : AllSteps (DStep P ops Q a0 g (p0 + costAll c ops.size) c J F R) 0 ops.toList)
    (hend : ∀ (vs : Nat → Value) (w' : World), J w' → RdLe w' g (p0 + costAll c ops.size) → (∀ i d, dstOf ops i = some d → R i w' (vs i)) → Q .normal (putAll ops.toList vs 0 a0) w') : (Code.region id ops true).wp P Q a0 w := by
  refine wp_region_inv (fun L w' => J w' ∧ L.size = ops.size ∧ RdLe w' g (p0 + costL c L)) R hm hB ⟨hJ, by simp, ?_⟩ ?_ ?_
  · exact (rd_drew hr).mono (by omega)
  · intro i o ho L a w1 hL hi hf _ hI hfr hd
    obtain ⟨hJ1, _, hr1⟩ := hI
    have hs := allSteps_get _ _ hstep i o (by simpa using ho)
    rw [Nat.zero_add] at hs
    have hc := costL_set c L (i := i) (by omega) hf
    have hle := costL_le c (L.setIfInBounds i true)
    rw [Array.size_setIfInBounds, hL] at hle
    refine Oper.wp_mono ?_ (hs a w1 (p0 + costL c L) (by omega) hJ1 hr1 hfr (fun e he hb => (hd e he hb).2))
    rintro a' w' ⟨v, h1, h2, h3, h4, h5⟩
    exact ⟨v, h1, h2, ⟨h3, by simp [hL], by rw [hc]; exact h4.mono (by omega)⟩, fun j u _ hu => hF j _ _ u h5 hu⟩
  · rintro vs w' ⟨L, ⟨hJ', hL, hr'⟩, _⟩ hR
    have hle := costL_le c L
    rw [hL] at hle
    exact hend vs w' hJ' (hr'.mono (by omega)) hR

theorem op_val {o : Oper} {a : Act} {w w' : World} {K : Act → World → Prop} {v : Value} (h : (execOp a.eval o).run P w = .ok (.value v) w') (hK : K (a.put o.dst v) w') : o.wp P a w K Q := by
  unfold Oper.wp
  rw [h]
  exact hK
theorem op_skip {o : Oper} {a : Act} {w w' : World} {K : Act → World → Prop} (h : (execOp a.eval o).run P w = .ok .skip w') (hK : K (a.put o.dst undef) w') : o.wp P a w K Q := by
  unfold Oper.wp
  rw [h]
  exact hK
end
/-- A slice of numbers, a pointer to a number: in blocks that do not change. -/
def SlI (F : Nat → Prop) (n : Nat) (w : World) (v : Value) : Prop := ∃ b, v = .slice (some ⟨b, 0, none⟩) n n ∧ b < w.heap.size ∧ ¬ F b ∧ ∀ j, j < n → ∃ x, w.cell? ⟨b, j, none⟩ = some (.int .i64 x)
def PtI (F : Nat → Prop) (w : World) (v : Value) : Prop := ∃ b j x, v = .pointer (some ⟨b, j, none⟩) ∧ b < w.heap.size ∧ ¬ F b ∧ w.cell? ⟨b, j, none⟩ = some (.int .i64 x)
theorem SlI.chg {F : Nat → Prop} {n : Nat} {w w' : World} {v : Value} (h : SlI F n w v) (c : Chg F w w') : SlI F n w' v := by
  obtain ⟨b, h1, h2, h3, h4⟩ := h
  exact ⟨b, h1, Nat.lt_of_lt_of_le h2 c.size, h3, fun j hj => by rw [World.cell?_of_block (w := w) (w' := w') (a := ⟨b, j, none⟩) (c.block b h2 h3)]; exact h4 j hj⟩
theorem PtI.chg {F : Nat → Prop} {w w' : World} {v : Value} (h : PtI F w v) (c : Chg F w w') : PtI F w' v := by
  obtain ⟨b, j, x, h1, h2, h3, h4⟩ := h
  exact ⟨b, j, x, h1, Nat.lt_of_lt_of_le h2 c.size, h3, by rw [World.cell?_of_block (w := w) (w' := w') (a := ⟨b, j, none⟩) (c.block b h2 h3)]; exact h4⟩
end Go.Proofs.YtcdfomoglkhboaaGreatDoor
