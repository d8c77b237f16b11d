/- Lemmas and walks of this proof, some texts one behind the other. No condition. -/
import Derived.Test.YtcdfomoglkhboaaGreatDoorDr
import Derived.Deep.Slices
import Derived.Deep.Fields
import Derived.ChangeSame
import Derived.ChangeArms
set_option linter.unusedSimpArgs false
set_option linter.unusedVariables false
/- A block that is known whole. No condition. -/
namespace Go.Proofs.YtcdfomoglkhboaaGreatDoor
open Go.RowKit
set_option linter.unusedVariables false

/-! A block that is known whole. -/
def Blk (w : World) (g : Nat) (t : TypeId) (cs : Array Value) : Prop := w.heap[g]? = some (.cells cs t (0, 0))
section
variable {w w' : World} {g : Nat} {t : TypeId} {cs : Array Value}
theorem Blk.lt (h : Blk w g t cs) : g < w.heap.size := by
  rcases Nat.lt_or_ge g w.heap.size with hlt | hge
  · exact hlt
  · unfold Blk at h; rw [Array.getElem?_eq_none hge] at h; cases h
theorem Blk.cell (h : Blk w g t cs) (i : Nat) : w.cell? ⟨g, i, none⟩ = cs[i]? := cell_of_row w g i cs t (0, 0) h
theorem Blk.frozen (h : Blk w g t cs) (i : Nat) : w.frozen? ⟨g, i, none⟩ = false := by
  unfold Blk at h
  simp [World.frozen?, h]
theorem Blk.new (w : World) (t : TypeId) (cs : Array Value) : Blk (w.alloc (.cells cs t)) w.heap.size t cs := heap_alloc_new w _
theorem Blk.grew (h : Blk w g t cs) (hb : Grew w w') : Blk w' g t cs := (hb.block g h.lt).trans h
theorem Blk.alloc (h : Blk w g t cs) (o : Obj) : Blk (w.alloc o) g t cs := (Below.heap_alloc w o g h.lt).trans h
theorem Blk.set_ (h : Blk w g t cs) (i : Nat) (u : Value) : Blk (w.setCell ⟨g, i, none⟩ u) g t (cs.setIfInBounds i u) := by
  unfold Blk at h ⊢
  simp [World.setCell, Array.getElem?_modify, h]
theorem Blk.far (h : Blk w g t cs) {p : Addr} (hp : g ≠ p.block) (u : Value) : Blk (w.setCell p u) g t cs := (Below.heap_setCell w p u g hp).trans h
theorem Blk.chg {F : Nat → Prop} (h : Blk w g t cs) (hb : Chg F w w') (hF : ¬ F g) : Blk w' g t cs := (hb.block g h.lt hF).trans h
end
theorem blk_row_ne {w : World} {g base size n : Nat} {t e : TypeId} {cs : Array Value} {v : Value} {xs : List Value} (h : Blk w g t cs) (ho : w.ownsRow base e size v n xs) (hne : t ≠ e) : v.ownBlock ≠ some g := by
  intro hb
  rcases ho.2 with ⟨rfl, _⟩ | ⟨g', cap, cur, rfl, _, h3, _⟩
  · cases hb
  simp only [Value.ownBlock, Option.some.injEq] at hb
  subst hb
  have h1 : w.heap[g']? = _ := h
  rw [h1] at h3
  simp only [Option.some.injEq, Obj.cells.injEq] at h3
  exact hne h3.2.1
/-- Rows of two types lie in two blocks. -/
theorem row_row_ne {w : World} {B B' size size' n n' : Nat} {e e' : TypeId} {v v' : Value} {xs xs' : List Value} (h : w.ownsRow B e size v n xs) (h' : w.ownsRow B' e' size' v' n' xs') (hne : e ≠ e') {b : Nat} (hb : v.ownBlock = some b) : v'.ownBlock ≠ some b := by
  rcases h.2 with ⟨rfl, _⟩ | ⟨g, cap, cur, rfl, _, h3, _⟩
  · cases hb
  · simp only [Value.ownBlock, Option.some.injEq] at hb
    subst hb
    exact blk_row_ne (h := h3) h' hne
end Go.Proofs.YtcdfomoglkhboaaGreatDoor

/- Data with depth: slices of structs that read as lists; how arguments are opened to them. No condition. -/
namespace Go.Proofs.YtcdfomoglkhboaaGreatDoor
open Go.RowKit Go.ChangeShapes Go.WideShapes Go.Deep
set_option linter.unusedVariables false

/-- A slice of `n` elements of `C` cells each reads as the list `xs`, each element's cells as 'E' says. -/
def RdL {α : Type} (E : World → List Value → α → Prop) (C : Nat) (w : World) (a : Option Addr) (n : Nat) (xs : List α) : Prop :=
  xs.length = n ∧ (n = 0 ∨ ∃ b off, a = some ⟨b, off, none⟩ ∧ ∀ k x, xs[k]? = some x → ∃ cs, cs.length = C ∧ (∀ j u, cs[j]? = some u → w.cell? ⟨b, off + k * C + j, none⟩ = some u) ∧ E w cs x)
/-- What is said of an element stays when the world grows. -/
def Stays {α : Type} (E : World → List Value → α → Prop) : Prop := ∀ w w' cs x, Grew w w' → E w cs x → E w' cs x

section
variable {α : Type} {E : World → List Value → α → Prop} {C : Nat} {w w' : World} {a : Option Addr} {n : Nat} {xs : List α}
theorem RdL.len (h : RdL E C w a n xs) : xs.length = n := h.1
theorem RdL.nil (E : World → List Value → α → Prop) (C : Nat) (w : World) (a : Option Addr) : RdL E C w a 0 [] := ⟨rfl, .inl rfl⟩
theorem RdL.at_ (h : RdL E C w a n xs) {k : Nat} (hk : k < n) : ∃ b off x cs, a = some ⟨b, off, none⟩ ∧ xs[k]? = some x ∧ cs.length = C ∧ (∀ j u, cs[j]? = some u → w.cell? ⟨b, off + k * C + j, none⟩ = some u) ∧ E w cs x := by
  obtain ⟨hl, h0 | ⟨b, off, rfl, hc⟩⟩ := h
  · omega
  · have hx : xs[k]? = some (xs[k]'(by omega)) := List.getElem?_eq_getElem (by omega)
    obtain ⟨cs, h1, h2, h3⟩ := hc k _ hx
    exact ⟨b, off, _, cs, rfl, hx, h1, h2, h3⟩
theorem RdL.mono (hE : ∀ cs x, E w cs x → E w' cs x) (hk : ∀ b o u, w.cell? ⟨b, o, none⟩ = some u → (∃ o', a = some ⟨b, o', none⟩) → w'.cell? ⟨b, o, none⟩ = some u) (h : RdL E C w a n xs) : RdL E C w' a n xs := by
  refine ⟨h.1, ?_⟩
  rcases h.2 with h0 | ⟨b, off, rfl, hc⟩
  · exact .inl h0
  · refine .inr ⟨b, off, rfl, fun k x hx => ?_⟩
    obtain ⟨cs, h1, h2, h3⟩ := hc k x hx
    exact ⟨cs, h1, fun j u hu => hk _ _ _ (h2 j u hu) ⟨_, rfl⟩, hE _ _ h3⟩
theorem RdL.grew (hE : Stays E) (h : RdL E C w a n xs) (hg : Grew w w') : RdL E C w' a n xs :=
  h.mono (fun cs x => hE _ _ _ _ hg) fun b o u hu _ => (hg.cell (p := ⟨b, o, none⟩) (World.block_lt_of_cell? w _ hu)).trans hu
/-- The block of a slice that is not empty is there. -/
theorem RdL.lt (h : RdL E (C + 1) w a n xs) (hn : 0 < n) {x : Addr} (hx : a = some x) : x.block < w.heap.size := by
  obtain ⟨b, off, y, cs, rfl, _, hl, hc, _⟩ := h.at_ hn
  obtain rfl := Option.some.inj hx
  have hu : cs[0]? = some (cs[0]'(by omega)) := List.getElem?_eq_getElem (by omega)
  exact World.block_lt_of_cell? w ⟨b, off + 0 * (C + 1) + 0, none⟩ (hc 0 _ hu)
end

/-- The cells of a list of elements, one behind the other. -/
theorem flat_get {α : Type} (f : α → List Value) (C : Nat) (hf : ∀ x, (f x).length = C) : ∀ (xs : List α) (k : Nat) (x : α) (j : Nat) (u : Value), xs[k]? = some x → (f x)[j]? = some u → (xs.flatMap f)[k * C + j]? = some u
  | [], k, x, j, u, h, _ => by simp at h
  | y :: ys, 0, x, j, u, h, hu => by
    simp only [List.getElem?_cons_zero, Option.some.injEq] at h
    subst h
    have := (List.getElem?_eq_some_iff.1 hu).1
    rw [List.flatMap_cons, Nat.zero_mul, Nat.zero_add, List.getElem?_append_left this]
    exact hu
  | y :: ys, k + 1, x, j, u, h, hu => by
    rw [List.flatMap_cons, List.getElem?_append_right (by rw [hf, Nat.succ_mul]; omega), hf, show (k + 1) * C + j - C = k * C + j from by rw [Nat.succ_mul]; omega]
    exact flat_get f C hf ys k x j u (by simpa using h) hu
theorem flat_len {α : Type} (f : α → List Value) (C : Nat) (hf : ∀ x, (f x).length = C) (xs : List α) : (xs.flatMap f).length = xs.length * C := by
  induction xs with
  | nil => simp
  | cons y ys ih => rw [List.flatMap_cons, List.length_append, hf, ih, List.length_cons, Nat.succ_mul]; omega

/-- A slice whose cells are known reads as the list. -/
theorem rdl_of_rd {α : Type} {E : World → List Value → α → Prop} {C : Nat} {w : World} {a : Option Addr} {n : Nat} {xs : List α} (f : α → List Value) (hC : 0 < C) (hf : ∀ x, (f x).length = C) (hn : xs.length = n)
    (h : Rd w a n C (xs.flatMap f)) (hE : ∀ x, x ∈ xs → E w (f x) x) : RdL E C w a n xs := by
  refine ⟨hn, ?_⟩
  rcases h.2 with h0 | ⟨b, off, rfl, hc⟩
  · left
    have := h.1
    rw [h0, List.length_nil] at this
    rcases Nat.mul_eq_zero.1 this.symm with h | h <;> omega
  · exact .inr ⟨b, off, rfl, fun k x hx => ⟨f x, hf x, fun j u hu => by rw [Nat.add_assoc]; exact hc _ _ (flat_get f C hf xs k x j u hx hu), hE x (List.mem_of_getElem? hx)⟩⟩

/-! ### How arguments are opened -/
section
variable {H : Type} {enc : TypeId × Value → H} {P : Program} {w : World} {base : Nat} {spare : Nat → Bool} {held : Bool}

end
end Go.Proofs.YtcdfomoglkhboaaGreatDoor
