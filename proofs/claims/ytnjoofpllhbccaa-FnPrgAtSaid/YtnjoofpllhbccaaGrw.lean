/- Drawn regions in a world that only grows: each operation alone. No condition. -/
import Derived.Test.YtnjoofpllhbccaaDrL
namespace Go.Proofs.Ytnjoofpllhbccaa
open Go.RowKit
set_option linter.unusedVariables false
set_option linter.unusedSimpArgs false

section
variable {P : Program} {ops : Array Oper} {Q : Exit → Act → World → Prop} {a0 : Act} {wo : World} {R : Nat → World → Value → Prop} {i : Nat} {o : Oper}
/-- One operation of a region whose world grows from wo on. -/
def GStep (P : Program) (ops : Array Oper) (Q : Exit → Act → World → Prop) (a0 : Act) (wo : World) (R : Nat → World → Value → Prop) (i : Nat) (o : Oper) : Prop :=
  ∀ (a : Act) (w : World), Grew wo w → (∀ d, (∀ i, dstOf ops i ≠ some d) → a.eval (.tmp d) = a0.eval (.tmp d)) →
    (∀ e, e ∈ o.after.toList → Region.binds .any e = true → ∀ d, dstOf ops e.on = some d → R e.on w (a.eval (.tmp d))) →
    o.wp P a w (fun a' w' => ∃ v, a' = a.put o.dst v ∧ R i w' v ∧ Grew wo w' ∧ ∀ j u, j ≠ i → R j w u → R j w' u) Q
theorem region_grow {id : Nat} (n : Nat) (R : Nat → World → Value → Prop) (hm : P.follows .mixedOrders = true) (hn : a0.tmps.size = n) (hB : regB ops n = true) (hstep : AllSteps (GStep P ops Q a0 wo R) 0 ops.toList)
    (hend : ∀ (vs : Nat → Value) (w' : World), Grew wo w' → (∀ i d, dstOf ops i = some d → R i w' (vs i)) → Q .normal (putAll ops.toList vs 0 a0) w') : (Code.region id ops true).wp P Q a0 wo := by
  subst hn
  refine wp_region_inv (fun _ W => Grew wo W) R hm hB (grew_d (Below.refl _ _)) (fun i o ho => ?_) (fun vs w' h hR => hend vs w' (by obtain ⟨L, h1, _⟩ := h; exact h1) hR)
  have hs := allSteps_get _ _ hstep i o (by simpa using ho)
  rw [Nat.zero_add] at hs
  intro L a w1 hL hi hf _ hI hfr hd
  exact hs a w1 hI hfr (fun e he hb => (hd e he hb).2)
theorem gs_val (v : Value) (h : ∀ (a : Act) (w : World), Grew wo w → (∀ d, (∀ i, dstOf ops i ≠ some d) → a.eval (.tmp d) = a0.eval (.tmp d)) → (∀ e, e ∈ o.after.toList → Region.binds .any e = true → ∀ d, dstOf ops e.on = some d → R e.on w (a.eval (.tmp d))) → (execOp a.eval o).run P w = .ok (.value v) w) (hR : ∀ w, R i w v) : GStep P ops Q a0 wo R i o := by
  intro a w hg hf hd
  exact op_val (h a w hg hf hd) ⟨v, rfl, hR w, hg, fun _ _ _ h => h⟩
theorem gs_call {f : FuncId} {vals : Array Value} {v : Value} (h : ∀ (a : Act) (w : World), Grew wo w → (∀ d, (∀ i, dstOf ops i ≠ some d) → a.eval (.tmp d) = a0.eval (.tmp d)) → (∀ e, e ∈ o.after.toList → Region.binds .any e = true → ∀ d, dstOf ops e.on = some d → R e.on w (a.eval (.tmp d))) → (execOp a.eval o).run P w = .ok (.enter f vals) w)
    (C : ∀ w, Grew wo w → Calls P f vals w fun e w' => e = .returned v ∧ Grew w w') (hR : ∀ w, R i w v) (hS : ∀ w w', Grew w w' → ∀ j u, R j w u → R j w' u) : GStep P ops Q a0 wo R i o := by
  intro a w hg hf hd
  unfold Oper.wp
  rw [h a w hg hf hd]
  refine Calls.mono (C w hg) ?_
  rintro e w' ⟨rfl, g⟩
  exact ⟨v, rfl, hR _, grew_tr hg g, fun j u _ hu => hS _ _ g j u hu⟩
end
/-- A pointer to a new box of a step. -/
def prBx (B : Nat) : Pr (fun _ => False) := ⟨fun W v => ∃ t, v = .pointer (some ⟨t, 0, none⟩) ∧ BoxN t W ∧ B ≤ t, fun W W' v c ⟨t, h1, h2, h3⟩ => ⟨t, h1, h2.chg c (fun e => e), h3⟩⟩
theorem rof_grew (l : List (Pr (fun _ => False))) (w w' : World) (h : Grew w w') (j : Nat) (u : Value) (hu : Rof l j w u) : Rof l j w' u := (l.getD j prT).st w w' u (Chg.of_below h) hu
theorem rof_prv {F : Nat → Prop} {l : List (Pr F)} {j : Nat} {q : Value → Prop} {w w' : World} {u : Value} (h : l.getD j prT = prV q) (hu : Rof l j w u) : Rof l j w' u := by
  unfold Rof at hu ⊢
  rw [h] at hu ⊢
  exact hu
end Go.Proofs.Ytnjoofpllhbccaa
