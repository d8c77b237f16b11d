/- Drawn regions in a world that only grows, each operation alone: what each slot holds is said by a property that growth keeps. No condition. -/
import Derived.Test.YtcdfomoglkhboaaGreatDoorTwo
namespace Go.Proofs.YtcdfomoglkhboaaGreatDoor
open Go.RowKit
set_option linter.unusedVariables false
set_option linter.unusedSimpArgs false
attribute [local go_sem] ext_cell ext_frozen ext_lt ext_le ext_le1 lt_s2 lt_s3 lt_s4 lt_s5 lt_s6 ext_lt1 ext_lt2 ext_lt3

/-- A property of a slot that stays in a world that has grown. -/
structure Pg where
  p : World → Value → Prop
  st : ∀ w w' v, Grew w w' → p w v → p w' v
def pgQ (q : Value → Prop) : Pg := ⟨fun _ u => q u, fun _ _ _ _ h => h⟩
def pgV (v : Value) : Pg := ⟨fun _ u => u = v, fun _ _ _ _ h => h⟩
def pgT : Pg := pgQ fun _ => True
def Gof (l : List Pg) (i : Nat) (w : World) (v : Value) : Prop := (l.getD i pgT).p w v
theorem gk {w W : World} {p : Addr} {v : Value} (g : Grew w W) (hp : w.cell? p = some v) : W.cell? p = some v :=
  (World.cell?_of_block (g.block p.block (World.block_lt_of_cell? w p hp))).trans hp

/-- A row of strings that stands behind B. -/
def RowS (B n c : Nat) (xs : List (List UInt8)) (w : World) (v : Value) : Prop :=
  ∃ t, v = .slice (some ⟨t, 0, none⟩) n c ∧ B ≤ t ∧ t < w.heap.size ∧ ∀ (j : Nat) (x : List UInt8), xs[j]? = some x → w.cell? ⟨t, j, none⟩ = some (.string ⟨x.toArray⟩)
theorem RowS.grew {B n c : Nat} {xs : List (List UInt8)} {w w' : World} {v : Value} (h : RowS B n c xs w v) (g : Grew w w') : RowS B n c xs w' v := by
  obtain ⟨t, h1, h2, h3, h4⟩ := h
  exact ⟨t, h1, h2, Nat.lt_of_lt_of_le h3 g.size, fun j x hx => gk g (h4 j x hx)⟩
def pgS (B n c : Nat) (xs : List (List UInt8)) : Pg := ⟨RowS B n c xs, fun _ _ _ g h => h.grew g⟩
/-- A pointer to a string. -/
def PtS (x : List UInt8) (w : World) (v : Value) : Prop := ∃ p, v = .pointer (some p) ∧ w.cell? p = some (.string ⟨x.toArray⟩)
def pgP (x : List UInt8) : Pg := ⟨PtS x, fun _ _ _ g ⟨p, h1, h2⟩ => ⟨p, h1, gk g h2⟩⟩

section
variable {P : Program} {ops : Array Oper} {Q : Exit → Act → World → Prop} {a0 : Act} {wo : World} {l : List Pg} {i : Nat} {o : Oper}
/-- What an operation may lean on. -/
structure GAt (ops : Array Oper) (a0 : Act) (wo : World) (l : List Pg) (o : Oper) (a : Act) (W : World) : Prop where
  grew : Grew wo W
  fr : ∀ d, (∀ i, dstOf ops i ≠ some d) → a.eval (.tmp d) = a0.eval (.tmp d)
  dep : ∀ e, e ∈ o.after.toList → Region.binds .any e = true → ∀ d, dstOf ops e.on = some d → Gof l e.on W (a.eval (.tmp d))
theorem GAt.slot {a : Act} {W : World} (h : GAt ops a0 wo l o a W) (d : Tmp) (hd : hasNoT ops d = true := by kernel_rfl) : a.eval (.tmp d) = a0.eval (.tmp d) := h.fr d (hasNoT_spec hd)
def depW (ops : Array Oper) (o : Oper) (k : Nat) (d : Tmp) : Bool := (o.after.any fun e => e.on == k && Region.binds .any e) && dstOf ops k == some d
theorem GAt.vb {a : Act} {W : World} (h : GAt ops a0 wo l o a W) (k : Nat) (d : Tmp) (hd : depW ops o k d = true := by kernel_rfl) : Gof l k W (a.eval (.tmp d)) := by
  simp only [depW, Bool.and_eq_true, Array.any_eq_true', beq_iff_eq] at hd
  obtain ⟨⟨e, he, rfl, hb⟩, hk⟩ := hd
  exact h.dep e (by simpa using he) hb d hk
def WStep (P : Program) (ops : Array Oper) (Q : Exit → Act → World → Prop) (a0 : Act) (wo : World) (l : List Pg) (i : Nat) (o : Oper) : Prop :=
  ∀ (a : Act) (W : World), GAt ops a0 wo l o a W → o.wp P a W (fun a' w' => ∃ v, a' = a.put o.dst v ∧ Gof l i w' v ∧ Grew W w') Q
theorem region_w {id : Nat} (n : Nat) (l : List Pg) (hm : P.follows .mixedOrders = true) (hn : a0.tmps.size = n) (hB : regB ops n = true) (hstep : AllSteps (WStep P ops Q a0 wo l) 0 ops.toList)
    (hend : ∀ (vs : Nat → Value) (w' : World), Grew wo w' → (∀ i d, dstOf ops i = some d → Gof l i w' (vs i)) → Q .normal (putAll ops.toList vs 0 a0) w') : (Code.region id ops true).wp P Q a0 wo := by
  subst hn
  refine wp_region_inv (fun _ W => Grew wo W) (Gof l) hm hB (grew_d (Below.refl _ _)) (fun i o ho => ?_) (fun vs w' h hR => hend vs w' (by obtain ⟨L, h1, _⟩ := h; exact h1) hR)
  have hs := allSteps_get _ _ hstep i o (by simpa using ho)
  rw [Nat.zero_add] at hs
  intro L a w1 hL hi hf _ hI hfr hd
  refine Oper.wp_mono ?_ (hs a w1 ⟨hI, hfr, fun e he hb => (hd e he hb).2⟩)
  rintro a' w' ⟨v, h1, h2, h3⟩
  exact ⟨v, h1, h2, grew_tr hI h3, fun j u _ hu => (l.getD j pgT).st _ _ _ h3 hu⟩
theorem w_ex (h : ∀ (a : Act) (W : World), GAt ops a0 wo l o a W → ∃ v W', (execOp a.eval o).run P W = .ok (.value v) W' ∧ (l.getD i pgT).p W' v ∧ Grew W W') : WStep P ops Q a0 wo l i o := by
  intro a W ha
  obtain ⟨v, W', h1, h2, h3⟩ := h a W ha
  unfold Oper.wp
  rw [h1]
  exact ⟨v, rfl, h2, h3⟩
theorem w_vx {v : Value} (hv : l.getD i pgT = pgV v) (h : ∀ (a : Act) (W : World), GAt ops a0 wo l o a W → (execOp a.eval o).run P W = .ok (.value v) W) : WStep P ops Q a0 wo l i o :=
  w_ex fun a W ha => ⟨v, W, h a W ha, by rw [hv]; exact rfl, Below.refl _ _⟩
theorem w_callX {f : FuncId} {vals : Array Value} (h : ∀ (a : Act) (W : World), GAt ops a0 wo l o a W → (execOp a.eval o).run P W = .ok (.enter f vals) W)
    (C : ∀ W, Grew wo W → Calls P f vals W fun e w' => ∃ v, e = .returned v ∧ (l.getD i pgT).p w' v ∧ Grew W w') : WStep P ops Q a0 wo l i o := by
  intro a W ha
  unfold Oper.wp
  rw [h a W ha]
  refine Calls.mono (C W ha.grew) ?_
  rintro e w' ⟨v, rfl, h2, h3⟩
  exact ⟨v, rfl, h2, h3⟩
theorem w_call {f : FuncId} {vals : Array Value} {v : Value} (hv : l.getD i pgT = pgV v) (h : ∀ (a : Act) (W : World), GAt ops a0 wo l o a W → (execOp a.eval o).run P W = .ok (.enter f vals) W)
    (C : ∀ W, Grew wo W → Calls P f vals W fun e w' => e = .returned v ∧ Grew W w') : WStep P ops Q a0 wo l i o :=
  w_callX h fun W hW => (C W hW).mono fun e w' ⟨h1, h2⟩ => ⟨v, h1, by rw [hv]; exact rfl, h2⟩
/-- A cell of a row just laid. -/
theorem row_cell {W : World} {xs : List (List UInt8)} {cs : Array Value} {T : TypeId} {j : Nat} {x : List UInt8} (hx : xs[j]? = some x) (hcs : cs = (xs.map fun x => Value.string ⟨x.toArray⟩).toArray := by rfl) : (W.alloc (.cells cs T)).cell? ⟨W.heap.size, j, none⟩ = some (.string ⟨x.toArray⟩) := by
  subst hcs
  rw [(Blk.new W T _).cell]
  simp [hx]
theorem evalK (A : Act) (v : Value) : A.eval (.const v) = v := rfl
theorem str_add (T : TypeId) (x y : List UInt8) (h : x.length + y.length ≤ 9223372036854775807) (W : World) : (binOp .add T (.string ⟨x.toArray⟩) (.string ⟨y.toArray⟩)).run P W = .ok (.string ⟨(x ++ y).toArray⟩) W := by
  rw [binOp_string_add, run_string_add_sum W _ _ (by simpa [ByteArray.size] using h), ByteArray.mk_append_mk]
/-- A quiet call. -/
theorem same_grew {f : FuncId} {vals : Array Value} {v : Value} {W : World} (C : Calls P f vals W fun e w' => e = .returned v ∧ W = w') : Calls P f vals W fun e w' => e = .returned v ∧ Grew W w' :=
  C.mono fun e w' ⟨h1, h2⟩ => ⟨h1, h2 ▸ Below.refl _ _⟩
end
end Go.Proofs.YtcdfomoglkhboaaGreatDoor
