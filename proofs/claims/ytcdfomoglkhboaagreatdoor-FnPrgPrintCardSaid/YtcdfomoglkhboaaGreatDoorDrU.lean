/- Regions that draw an element and put it behind a row that stands in a box. No condition. -/
import Derived.Test.YtcdfomoglkhboaaGreatDoorDrG
import Derived.Test.YtcdfomoglkhboaaGreatDoorDrO
namespace Go.Proofs.YtcdfomoglkhboaaGreatDoor
open Go.RowKit
set_option linter.unusedVariables false
set_option linter.unusedSimpArgs false

section
variable {α : Type} (E : TypeId) (C : Nat) (f : α → List Value) (X : World → α → Prop)
/-- A value that is one element's cells. -/
def IsX (W : World) (v : Value) : Prop := ∃ x : α, v = .agg (f x).toArray ∧ X W x
/-- A slice of one element, in a block that is none of F. -/
def OneX (F : Nat → Prop) (W : World) (v : Value) : Prop := ∃ (x : α) (b : Nat), v = .slice (some ⟨b, 0, none⟩) 1 1 ∧ Blk W b E (f x).toArray ∧ ¬ F b ∧ X W x
/-- The row with one element more. -/
def NewX (B : Nat) (F : Nat → Prop) (k : Nat) (xs : List α) (W : World) (v : Value) : Prop := ∃ (a : Option Addr) (cap : Nat) (x : α), v = .slice a (k + 1) cap ∧ W.ownsRow B E C (.slice a (k + 1) cap) (k + 1) ((xs ++ [x]).flatMap f) ∧ (∀ b, (Value.slice a (k + 1) cap).ownBlock = some b → ¬ F b) ∧ X W x
variable {E C f X}
theorem OneX.chg {F G : Nat → Prop} {W W' : World} {v : Value} (h : OneX E f X F W v) (c : Chg G W W') (hG : ∀ b, G b → F b) (hX : ∀ x, X W x → X W' x) : OneX E f X F W' v := by
  obtain ⟨x, b, h1, h2, h3, h4⟩ := h
  exact ⟨x, b, h1, h2.chg c (fun e => h3 (hG b e)), h3, hX x h4⟩
theorem NewX.chg {B : Nat} {F G : Nat → Prop} {k : Nat} {xs : List α} {W W' : World} {v : Value} (h : NewX E C f X B F k xs W v) (c : Chg G W W') (hG : ∀ b, B ≤ b → G b → F b) (hX : ∀ x, X W x → X W' x) : NewX E C f X B F k xs W' v := by
  obtain ⟨a, cap, x, h1, h2, h3, h4⟩ := h
  exact ⟨a, cap, x, h1, owns_chg h2 c (fun b hb e => h3 b hb (hG b (h2.lt b hb).1 e)), h3, hX x h4⟩
def prIsX (f : α → List Value) (X : World → α → Prop) {F : Nat → Prop} (hX : ∀ W W' x, Chg F W W' → X W x → X W' x) : Pr F := ⟨IsX f X, fun W W' v c ⟨x, h1, h2⟩ => ⟨x, h1, hX W W' x c h2⟩⟩
def prOneX (E : TypeId) (f : α → List Value) (X : World → α → Prop) {F : Nat → Prop} (F' : Nat → Prop) (hF : ∀ b, F b → F' b) (hX : ∀ W W' x, Chg F W W' → X W x → X W' x) : Pr F := ⟨OneX E f X F', fun W W' v c h => h.chg c hF (fun x => hX W W' x c)⟩
def prNewX (E : TypeId) (C : Nat) (f : α → List Value) (X : World → α → Prop) (B : Nat) (k : Nat) (xs : List α) {F : Nat → Prop} (hX : ∀ W W' x, Chg F W W' → X W x → X W' x) : Pr F := ⟨NewX E C f X B F k xs, fun W W' v c h => h.chg c (fun _ _ h => h) (fun x => hX W W' x c)⟩
end
section
variable {α : Type} {f : α → List Value} {X : World → α → Prop} {E T : TypeId} {z : Value} {C bytes : Nat}
variable {ops : Array Oper} {Q : Exit → Act → World → Prop} {a0 : Act} {g PP : Nat} {c : Nat → Nat} {J J' : World → Prop} {F : Nat → Prop} {R : Nat → World → Value → Prop} {i : Nat} {o : Oper}
/-- A slice of one drawn element is made. -/
theorem ds_oneX (F' : Nat → Prop) (d k : Nat) (hop : o.op = .buildSlice T 1 #[(0, .tmp d)]) (h1 : Dep ops o k d) (hs : ∀ W v, R k W v → IsX f X W v)
    (hrun : ∀ (x : α) (W : World), (Instr.buildSlice T 1 #[(0, .agg (f x).toArray)]).run Tryz.prog W = .ok (.slice (some ⟨W.heap.size, 0, none⟩) 1 1) (W.alloc (.cells (f x).toArray E)))
    (hXa : ∀ W o x, X W x → X (W.alloc o) x) (hR : ∀ W v, OneX E f X F' W v → R i W v) (hJ : ∀ W o, J W → J (W.alloc o)) (hF : ∀ W, J W → ∀ b, F' b → b < W.heap.size) : DStep Tryz.prog ops Q a0 g PP c J F R i o := by
  intro a w p hp hJ1 hr hf hd
  obtain ⟨x, e, hx⟩ := hs _ _ (dep_of h1 hd)
  refine op_val (v := .slice (some ⟨w.heap.size, 0, none⟩) 1 1) (w' := w.alloc (.cells (f x).toArray E)) ?_ ⟨_, rfl, hR _ _ ⟨x, w.heap.size, rfl, Blk.new _ _ _, fun hb => absurd (hF w hJ1 _ hb) (by omega), hXa _ _ _ hx⟩, hJ _ _ hJ1, (rd_al hr _).mono (by omega), Chg.of_below (grew_al (Below.refl _ _) _)⟩
  simp only [execOp, hop, List.map_toArray, List.map_cons, List.map_nil, e]
  simp [hrun, Result.andThen]
/-- It is put behind the row. -/
theorem ds_appendX {B k : Nat} {xs : List α} {a1 : Option Addr} {cap : Nat} (F' : Nat → Prop) (d1 k1 d2 k2 : Nat) (el : El Tryz.prog T E z C bytes) (hfl : ∀ x, (f x).length = C) (hone : ∀ W x, X W x → ∀ u ∈ f x, u.oneCell' = true)
    (ho : o.op = .call { callee := .builtin .append, args := #[.tmp d1, .tmp d2], argTypes := #[T, T] }) (hty : o.type = T) (hc0 : c i = 0) (h1 : Dep ops o k1 d1) (h2 : Dep ops o k2 d2)
    (hs1 : ∀ W v, R k1 W v → v = .slice a1 k cap) (hs2 : ∀ W v, R k2 W v → OneX E f X F' W v) (hk : k ≤ 1000) (hby : bytes ≤ 1000) (hXF : ∀ W W' x, Chg (fun b => (Value.slice a1 k cap).ownBlock = some b) W W' → X W x → X W' x)
    (hJ : ∀ W, J W → W.ownsRow B E C (.slice a1 k cap) k (xs.flatMap f) ∧ B ≤ W.heap.size) (hFJ : ∀ W, J W → ∀ b, F b → b < W.heap.size ∧ (Value.slice a1 k cap).ownBlock ≠ some b) (hg : g < B)
    (hR : ∀ W v, NewX E C f X B F k xs W v → R i W v) (hJ2 : ∀ W W', J W → Chg (fun b => (Value.slice a1 k cap).ownBlock = some b) W W' → J' W') :
    DStp Tryz.prog ops Q a0 g PP c J J' (fun b => (Value.slice a1 k cap).ownBlock = some b) R i o := by
  intro a w p hp hJ1 hr hf hd
  have e1 := hs1 _ _ (dep_of h1 hd)
  obtain ⟨x, b, e2, hb, hF', hx⟩ := hs2 _ _ (dep_of h2 hd)
  obtain ⟨hown, hB⟩ := hJ w hJ1
  have hrd : Rd w (some ⟨b, 0, none⟩) 1 C (f x) := ⟨by rw [Nat.one_mul]; exact hfl x, .inr ⟨b, 0, rfl, fun j u hu => by rw [Nat.zero_add]; exact (hb.cell j).trans (by simpa using hu)⟩⟩
  obtain ⟨v', W', hrun, hown2, hgr, hv'⟩ := owns_append (P := Tryz.prog) w el hown (some ⟨b, 0, none⟩) 1 1 (f x) hrd (hone _ x hx) (by omega) (by
    have := Nat.mul_le_mul (show k + 1 ≤ 1001 by omega) hby
    omega) hB
  obtain ⟨a5, cap5, rfl⟩ := owns_slice hown2
  have hch := Chg.of_grownBy hgr
  refine op_append (.tmp d1) (.tmp d2) ho hty e1 e2 hrun ⟨_, rfl, hR _ _ ⟨a5, cap5, x, rfl, ?_, ?_, hXF _ _ _ hch hx⟩, hJ2 _ _ hJ1 hch, ?_, hch⟩
  · rw [List.flatMap_append, List.flatMap_cons, List.flatMap_nil, List.append_nil]
    exact hown2
  · intro b0 hb0 hb1
    obtain ⟨hl, hn⟩ := hFJ w hJ1 b0 hb1
    rcases hv' with h | h
    · rw [h] at hb0
      exact hn hb0
    · rw [h, Option.some.injEq] at hb0
      omega
  · rw [hc0]
    exact rd_own hr hch (fun b hb => (hown.lt b hb).1) hg
/-- The new row is put into the box. -/
theorem ds_storeX {B k : Nat} {xs : List α} (b6 fi : Nat) (TB : TypeId) (cs : Array Value) (d1 k1 d2 k2 : Nat) (hop : o.op = .store T (.tmp d1) (.tmp d2)) (h1 : Dep ops o k1 d1) (h2 : Dep ops o k2 d2) (hst : ∀ (A : Act) (W : World) (a : Option Addr) (n cp : Nat) (y : Value), A.eval (.tmp d1) = .pointer (some ⟨b6, fi, none⟩) → A.eval (.tmp d2) = .slice a n cp → (∃ a' n' cp', y = .slice a' n' cp') → W.cell? ⟨b6, fi, none⟩ = some y → W.frozen? ⟨b6, fi, none⟩ = false → (execOp A.eval o).run Tryz.prog W = .ok .skip (W.setCell ⟨b6, fi, none⟩ (.slice a n cp)))
    (hs1 : ∀ W v, R k1 W v → v = .pointer (some ⟨b6, fi, none⟩)) (hs2 : ∀ W v, R k2 W v → NewX E C f X B F k xs W v) (hJ : ∀ W, J W → Blk W b6 TB cs) (hcs : ∃ a' n' cp', cs[fi]? = some (.slice a' n' cp'))
    (hJ2 : ∀ W v, J W → NewX E C f X B F k xs W v → Blk (W.setCell ⟨b6, fi, none⟩ v) b6 TB (cs.setIfInBounds fi v) → (v.ownBlock ≠ some b6) → J' (W.setCell ⟨b6, fi, none⟩ v)) (hg : g < b6) (hF : F b6) (hR : ∀ W v, R i W v) : DStp Tryz.prog ops Q a0 g PP c J J' F R i o := by
  intro a w p hp hJ1 hr hf hd
  have e1 := hs1 _ _ (dep_of h1 hd)
  have hn := hs2 _ _ (dep_of h2 hd)
  obtain ⟨a5, cap5, x, e2, hown, hn5, hx⟩ := hn
  obtain ⟨a', n', cp', hcs⟩ := hcs
  have hb := hJ w hJ1
  have cc : w.cell? ⟨b6, fi, none⟩ = some (.slice a' n' cp') := (hb.cell fi).trans hcs
  have ff : w.frozen? ⟨b6, fi, none⟩ = false := hb.frozen fi
  have hch : Chg (fun b => b = b6) w (w.setCell ⟨b6, fi, none⟩ (.slice a5 (k + 1) cap5)) := chg1 (Chg.refl _ _) _
  refine op_skip (w' := w.setCell ⟨b6, fi, none⟩ (.slice a5 (k + 1) cap5)) ?_ ⟨_, rfl, hR _ _, hJ2 _ _ hJ1 ⟨a5, cap5, x, rfl, hown, hn5, hx⟩ (hb.set_ fi _) (fun e => hn5 b6 e hF), (hr.chg hch (fun k hk e => by omega)).mono (by omega), ⟨hch.os, hch.tape, hch.output, hch.size, fun k hk hn => hch.block k hk (fun e => hn (e ▸ hF))⟩⟩
  exact hst a w a5 (k + 1) cap5 _ e1 e2 ⟨_, _, _, rfl⟩ cc ff
end
section
variable {ops : Array Oper} {Q : Exit → Act → World → Prop} {a0 : Act} {g PP : Nat} {c : Nat → Nat} {J J' : World → Prop} {F : Nat → Prop} {R : Nat → World → Value → Prop} {i : Nat} {o : Oper}
/-- An operation whose value is known. -/
theorem ds_run (v : Value) (h : ∀ (a : Act) (W : World), J W → (∀ d, (∀ i, dstOf ops i ≠ some d) → a.eval (.tmp d) = a0.eval (.tmp d)) → (∀ e, e ∈ o.after.toList → Region.binds .any e = true → ∀ d, dstOf ops e.on = some d → R e.on W (a.eval (.tmp d))) → (execOp a.eval o).run Tryz.prog W = .ok (.value v) W) (hR : ∀ W, R i W v) : DStep Tryz.prog ops Q a0 g PP c J F R i o := by
  intro a w p hp hJ1 hr hf hd
  exact op_val (h a w hJ1 hf hd) ⟨_, rfl, hR w, hJ1, hr.mono (by omega), Chg.refl _ _⟩
theorem ds_pickV (d d2 : Tmp) (kd k2 : Nat) (k : Int) (h : ∀ (a : Act) (W : World), (execOp a.eval o).run Tryz.prog W = .ok (.enter 40 #[a.eval (.tmp d), a.eval (.tmp d2)]) W) (hdep : Dep ops o kd d) (hdep2 : Dep ops o k2 d2)
    (hq : ∀ W v, R kd W v → v = .pointer (some ⟨g, 0, none⟩)) (hq2 : ∀ W v, R k2 W v → v = .int .i64 k) (hc : c i = 1) (hPP : PP ≤ 1099511627776) (hk : k ≤ 1099511627776) (hR : ∀ W v, IsNat k v → R i W v) (hJ : ∀ W W', J W → ChgG g W W' → J W') (hF : F g) : DStep Tryz.prog ops Q a0 g PP c J F R i o :=
  ds_call (vals := fun ρ => #[ρ (.tmp d), ρ (.tmp d2)]) (good := fun ρ w => ρ (.tmp d) = .pointer (some ⟨g, 0, none⟩) ∧ ρ (.tmp d2) = .int .i64 k) h (fun a w hf hd => ⟨hq _ _ (dep_of hdep hd), hq2 _ _ (dep_of hdep2 hd)⟩) (fun ρ p w hg hr hp => by rw [hg.1, hg.2, hc]; exact pickG hr (by omega) hk) hR hJ hF
end
theorem wp_let_c {P : Program} {c : Code} {Q : Exit → Act → World → Prop} {a : Act} {W : World} (h : ∀ E, E = W → c.wp P Q a E) : c.wp P Q a W := h W rfl
end Go.Proofs.YtcdfomoglkhboaaGreatDoor
