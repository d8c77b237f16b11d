/- A region that draws its order and writes two boxes, each once. No condition. -/
import Derived.Test.YtcdfomoglkhboaaGreatDoorRegion
import Derived.Test.YtcdfomoglkhboaaGreatDoorBlk
namespace Go.Proofs.YtcdfomoglkhboaaGreatDoor
open Go.RowKit
set_option linter.unusedVariables false
set_option linter.unusedSimpArgs false
attribute [local go_sem] ext_cell ext_frozen ext_lt ext_le ext_le1 lt_s2 lt_s3 lt_s4 lt_s5 lt_s6 ext_lt1 ext_lt2 ext_lt3

theorem Chg.alw {F : Nat → Prop} {w W : World} {p : Addr} (h : Chg F w W) (hp : F p.block) (u : Value) : Chg F w (W.setCell p u) :=
  ⟨h.os, h.tape, h.output, Nat.le_trans h.size (by simp), fun k hk hn => (Below.heap_setCell W p u k (fun e => hn (e ▸ hp))).trans (h.block k hk hn)⟩
theorem chg_gr {F : Nat → Prop} {w W W' : World} (h : Chg F w W) (g : Grew W W') : Chg F w W' := h.trans (Chg.of_below g : Chg F W W') (fun _ _ h => h) (fun _ _ h => h)
theorem chg_or {F : Nat → Prop} {w W W' : World} {z : Nat} (h : Chg F w W) (c : Chg (fun b => b = z) W W') (hz : F z) : Chg F w W' := h.trans c (fun _ _ h => h) (fun _ _ h => h ▸ hz)
theorem getD_ff {L : Array Bool} {i : Nat} (h : L.getD i true = false) : L.getD i false = false := by
  simp only [Array.getD_eq_getD_getElem?] at h ⊢
  cases e : L[i]? with
  | none => rfl
  | some b => rw [e] at h; exact h
theorem getD_rep {n i : Nat} : (Array.replicate n false).getD i false = false := by
  simp only [Array.getD_eq_getD_getElem?, Array.getElem?_replicate]
  split <;> rfl
def hasNoT (ops : Array Oper) (d : Tmp) : Bool := ops.all fun o => o.dst != some d
theorem hasNoT_spec {ops : Array Oper} {d : Tmp} (h : hasNoT ops d = true) (i : Nat) : dstOf ops i ≠ some d := by
  intro hi
  unfold dstOf at hi
  cases ho : ops[i]? with
  | none => simp [ho] at hi
  | some o =>
    rw [hasNoT, Array.all_eq_true'] at h
    have := h o (Array.mem_of_getElem? ho)
    simp [ho] at hi
    simp [hi] at this
def DepT (ops : Array Oper) (o : Oper) (k : Nat) (d : Tmp) : Prop := (∃ e, e ∈ o.after.toList ∧ e.on = k ∧ Region.binds .any e = true) ∧ dstOf ops k = some d
section
variable {P : Program} {ops : Array Oper} {Q : Exit → Act → World → Prop} {a0 : Act} {wo : World} {V : Nat → Value} {z1 z2 i1 i2 : Nat} {T1 T2 : TypeId} {o1 o2 n1 n2 : Array Value} {i : Nat} {o : Oper}
/-- The two boxes, as far as they were written. -/
def TwoI (wo : World) (z1 z2 i1 i2 : Nat) (T1 T2 : TypeId) (o1 o2 n1 n2 : Array Value) (L : Array Bool) (W : World) : Prop :=
  Chg (fun b => b = z1 ∨ b = z2) wo W ∧ Blk W z1 T1 (if L.getD i1 false then n1 else o1) ∧ Blk W z2 T2 (if L.getD i2 false then n2 else o2)
/-- What an operation may lean on. -/
structure TAt (ops : Array Oper) (a0 : Act) (V : Nat → Value) (wo : World) (z1 z2 : Nat) (o : Oper) (a : Act) (W : World) : Prop where
  chg : Chg (fun b => b = z1 ∨ b = z2) wo W
  fr : ∀ d, (∀ i, dstOf ops i ≠ some d) → a.eval (.tmp d) = a0.eval (.tmp d)
  dep : ∀ e, e ∈ o.after.toList → Region.binds .any e = true → ∀ d, dstOf ops e.on = some d → a.eval (.tmp d) = V e.on
theorem TAt.old {a : Act} {W : World} (h : TAt ops a0 V wo z1 z2 o a W) (d : Tmp) (hd : hasNoT ops d = true) : a.eval (.tmp d) = a0.eval (.tmp d) := h.fr d (hasNoT_spec hd)
theorem TAt.val {a : Act} {W : World} (h : TAt ops a0 V wo z1 z2 o a W) {k : Nat} {d : Tmp} (hd : DepT ops o k d) : a.eval (.tmp d) = V k := by
  obtain ⟨⟨e, he1, rfl, he3⟩, hdd⟩ := hd
  exact h.dep e he1 he3 d hdd
theorem TAt.cell {a : Act} {W : World} (h : TAt ops a0 V wo z1 z2 o a W) {p : Addr} {v : Value} (hp : wo.cell? p = some v) (n1 : p.block ≠ z1) (n2 : p.block ≠ z2) : W.cell? p = some v :=
  (World.cell?_of_block (h.chg.block p.block (World.block_lt_of_cell? wo p hp) (fun e => e.elim n1 n2))).trans hp
abbrev TStep (P : Program) (ops : Array Oper) (Q : Exit → Act → World → Prop) (a0 : Act) (wo : World) (V : Nat → Value) (z1 z2 i1 i2 : Nat) (T1 T2 : TypeId) (o1 o2 n1 n2 : Array Value) : Nat → Oper → Prop := StepOk P ops Q a0 (TwoI wo z1 z2 i1 i2 T1 T2 o1 o2 n1 n2) (fun i _ v => v = V i)
theorem t_val (h1 : i ≠ i1) (h2 : i ≠ i2) (h : ∀ (a : Act) (W : World), TAt ops a0 V wo z1 z2 o a W → (execOp a.eval o).run P W = .ok (.value (V i)) W) : TStep P ops Q a0 wo V z1 z2 i1 i2 T1 T2 o1 o2 n1 n2 i o := by
  intro L a W hLs hi hLi hC ⟨hI1, hI2, hI3⟩ hf hd
  unfold Oper.wp
  rw [h a W ⟨hI1, hf, fun e he hb => (hd e he hb).2⟩]
  refine ⟨_, rfl, rfl, ⟨hI1, ?_, ?_⟩, fun _ _ _ h => h⟩
  · rwa [getD_set h1]
  · rwa [getD_set h2]
theorem t_call (h1 : i ≠ i1) (h2 : i ≠ i2) (h12 : z1 < wo.heap.size ∧ z2 < wo.heap.size) {f : FuncId} {vals : Array Value} (h : ∀ (a : Act) (W : World), TAt ops a0 V wo z1 z2 o a W → (execOp a.eval o).run P W = .ok (.enter f vals) W)
    (C : ∀ W, Calls P f vals W fun e w' => e = .returned (V i) ∧ Grew W w') : TStep P ops Q a0 wo V z1 z2 i1 i2 T1 T2 o1 o2 n1 n2 i o := by
  intro L a W hLs hi hLi hC ⟨hI1, hI2, hI3⟩ hf hd
  unfold Oper.wp
  rw [h a W ⟨hI1, hf, fun e he hb => (hd e he hb).2⟩]
  refine Calls.mono (C W) ?_
  rintro e w' ⟨rfl, g⟩
  refine ⟨_, rfl, rfl, ⟨chg_gr hI1 g, ?_, ?_⟩, fun _ _ _ h => h⟩
  · rw [getD_set h1]
    exact hI2.grew g
  · rw [getD_set h2]
    exact hI3.grew g
theorem t_store1 (h2 : i1 ≠ i2) (hz : z1 ≠ z2) (hV : undef = V i1) (h : ∀ (a : Act) (W : World), TAt ops a0 V wo z1 z2 o a W → Blk W z1 T1 o1 → ∃ W', (execOp a.eval o).run P W = .ok .skip W' ∧ Blk W' z1 T1 n1 ∧ Chg (fun b => b = z1) W W') : TStep P ops Q a0 wo V z1 z2 i1 i2 T1 T2 o1 o2 n1 n2 i1 o := by
  intro L a W hLs hi hLi hC ⟨hI1, hI2, hI3⟩ hf hd
  rw [getD_ff hLi] at hI2
  obtain ⟨W', e, hb, hc⟩ := h a W ⟨hI1, hf, fun e he hb => (hd e he hb).2⟩ hI2
  unfold Oper.wp
  rw [e]
  refine ⟨undef, rfl, hV, ⟨chg_or hI1 hc (.inl rfl), ?_, ?_⟩, fun _ _ _ h => h⟩
  · rw [getD_set1 (by omega)]
    exact hb
  · rw [getD_set h2]
    exact hI3.chg hc (fun e => hz e.symm)
theorem t_store2 (h2 : i2 ≠ i1) (hz : z1 ≠ z2) (hV : undef = V i2) (h : ∀ (a : Act) (W : World), TAt ops a0 V wo z1 z2 o a W → Blk W z2 T2 o2 → ∃ W', (execOp a.eval o).run P W = .ok .skip W' ∧ Blk W' z2 T2 n2 ∧ Chg (fun b => b = z2) W W') : TStep P ops Q a0 wo V z1 z2 i1 i2 T1 T2 o1 o2 n1 n2 i2 o := by
  intro L a W hLs hi hLi hC ⟨hI1, hI2, hI3⟩ hf hd
  rw [getD_ff hLi] at hI3
  obtain ⟨W', e, hb, hc⟩ := h a W ⟨hI1, hf, fun e he hb => (hd e he hb).2⟩ hI3
  unfold Oper.wp
  rw [e]
  refine ⟨undef, rfl, hV, ⟨chg_or hI1 hc (.inr rfl), ?_, ?_⟩, fun _ _ _ h => h⟩
  · rw [getD_set h2]
    exact hI2.chg hc (fun e => hz e)
  · rw [getD_set1 (by omega)]
    exact hb
/-- A region that draws its order and writes two boxes. -/
theorem region_two {id : Nat} (n : Nat) (V : Nat → Value) (z1 z2 i1 i2 : Nat) (T1 T2 : TypeId) (o1 o2 n1 n2 : Array Value) (hm : P.follows .mixedOrders = true) (hn : a0.tmps.size = n) (hB : regB ops n = true) (hi : i1 < ops.size ∧ i2 < ops.size)
    (hb1 : Blk wo z1 T1 o1) (hb2 : Blk wo z2 T2 o2) (hstep : AllSteps (TStep P ops Q a0 wo V z1 z2 i1 i2 T1 T2 o1 o2 n1 n2) 0 ops.toList)
    (hend : ∀ (vs : Nat → Value) (w' : World), Chg (fun b => b = z1 ∨ b = z2) wo w' → Blk w' z1 T1 n1 → Blk w' z2 T2 n2 → (∀ i d, dstOf ops i = some d → vs i = V i) → Q .normal (putAll ops.toList vs 0 a0) w') : (Code.region id ops true).wp P Q a0 wo := by
  refine wp_region_invL n (TwoI wo z1 z2 i1 i2 T1 T2 o1 o2 n1 n2) (fun i _ v => v = V i) hm hn hB ⟨chg_gr (Chg.refl _ _) (grew_d (Below.refl _ _)), ?_, ?_⟩ hstep ?_
  · rw [getD_rep]
    exact hb1.grew (grew_d (Below.refl _ _))
  · rw [getD_rep]
    exact hb2.grew (grew_d (Below.refl _ _))
  · rintro vs w' ⟨L, ⟨h1, h2, h3⟩, hL⟩ hR
    rw [hL i1 hi.1] at h2
    rw [hL i2 hi.2] at h3
    exact hend vs w' h1 h2 h3 hR
end
end Go.Proofs.YtcdfomoglkhboaaGreatDoor
