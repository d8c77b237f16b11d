/- Data with depth: slices of structs that read as lists; how arguments are opened to them. No condition. -/
import Derived.Test.YtcdfomoglkhboaaGreatDoorExt
import Derived.Deep.Slices
import Derived.Deep.Fields
import Derived.ChangeSame
import Derived.ChangeArms
namespace Go.Proofs.YtcdfomoglkhboaaGreatDoor
open Go.RowKit Go.ChangeShapes Go.WideShapes Go.Deep
set_option linter.unusedVariables false

/-- A slice of `n` elements of `C` cells each reads as the list `xs`, each element's cells as 'E' says. -/
def RdL {α : Type} (E : World → List Value → α → Prop) (C : Nat) (w : World) (a : Option Addr) (n : Nat) (xs : List α) : Prop :=
  xs.length = n ∧ (n = 0 ∨ ∃ b off, a = some ⟨b, off, none⟩ ∧ ∀ k x, xs[k]? = some x → ∃ cs, cs.length = C ∧ (∀ j u, cs[j]? = some u → w.cell? ⟨b, off + k * C + j, none⟩ = some u) ∧ E w cs x)
/-- What is said of an element stays when the world grows. -/
def Stays {α : Type} (E : World → List Value → α → Prop) : Prop := ∀ w w' cs x, Grew w w' → E w cs x → E w' cs x

section
variable {α : Type} {E : World → List Value → α → Prop} {C : Nat} {w w' : World} {a : Option Addr} {n : Nat} {xs : List α}
theorem RdL.len (h : RdL E C w a n xs) : xs.length = n := h.1
theorem RdL.nil (E : World → List Value → α → Prop) (C : Nat) (w : World) (a : Option Addr) : RdL E C w a 0 [] := ⟨rfl, .inl rfl⟩
theorem RdL.at_ (h : RdL E C w a n xs) {k : Nat} (hk : k < n) : ∃ b off x cs, a = some ⟨b, off, none⟩ ∧ xs[k]? = some x ∧ cs.length = C ∧ (∀ j u, cs[j]? = some u → w.cell? ⟨b, off + k * C + j, none⟩ = some u) ∧ E w cs x := by
  obtain ⟨hl, h0 | ⟨b, off, rfl, hc⟩⟩ := h
  · omega
  · have hx : xs[k]? = some (xs[k]'(by omega)) := List.getElem?_eq_getElem (by omega)
    obtain ⟨cs, h1, h2, h3⟩ := hc k _ hx
    exact ⟨b, off, _, cs, rfl, hx, h1, h2, h3⟩
theorem RdL.mono (hE : ∀ cs x, E w cs x → E w' cs x) (hk : ∀ b o u, w.cell? ⟨b, o, none⟩ = some u → (∃ o', a = some ⟨b, o', none⟩) → w'.cell? ⟨b, o, none⟩ = some u) (h : RdL E C w a n xs) : RdL E C w' a n xs := by
  refine ⟨h.1, ?_⟩
  rcases h.2 with h0 | ⟨b, off, rfl, hc⟩
  · exact .inl h0
  · refine .inr ⟨b, off, rfl, fun k x hx => ?_⟩
    obtain ⟨cs, h1, h2, h3⟩ := hc k x hx
    exact ⟨cs, h1, fun j u hu => hk _ _ _ (h2 j u hu) ⟨_, rfl⟩, hE _ _ h3⟩
theorem RdL.grew (hE : Stays E) (h : RdL E C w a n xs) (hg : Grew w w') : RdL E C w' a n xs :=
  h.mono (fun cs x => hE _ _ _ _ hg) fun b o u hu _ => (hg.cell (p := ⟨b, o, none⟩) (World.block_lt_of_cell? w _ hu)).trans hu
/-- The block of a slice that is not empty is there. -/
theorem RdL.lt (h : RdL E (C + 1) w a n xs) (hn : 0 < n) {x : Addr} (hx : a = some x) : x.block < w.heap.size := by
  obtain ⟨b, off, y, cs, rfl, _, hl, hc, _⟩ := h.at_ hn
  obtain rfl := Option.some.inj hx
  have hu : cs[0]? = some (cs[0]'(by omega)) := List.getElem?_eq_getElem (by omega)
  exact World.block_lt_of_cell? w ⟨b, off + 0 * (C + 1) + 0, none⟩ (hc 0 _ hu)
theorem stays_rdl {α β : Type} {E : World → List Value → α → Prop} {C : Nat} (hE : Stays E) : ∀ w w' (a : Option Addr) (n : Nat) (xs : List α), Grew w w' → RdL E C w a n xs → RdL E C w' a n xs :=
  fun w w' a n xs hg h => h.grew hE hg
end

/-- The cells of a list of elements, one behind the other. -/
theorem flat_get {α : Type} (f : α → List Value) (C : Nat) (hf : ∀ x, (f x).length = C) : ∀ (xs : List α) (k : Nat) (x : α) (j : Nat) (u : Value), xs[k]? = some x → (f x)[j]? = some u → (xs.flatMap f)[k * C + j]? = some u
  | [], k, x, j, u, h, _ => by simp at h
  | y :: ys, 0, x, j, u, h, hu => by
    simp only [List.getElem?_cons_zero, Option.some.injEq] at h
    subst h
    have := (List.getElem?_eq_some_iff.1 hu).1
    rw [List.flatMap_cons, Nat.zero_mul, Nat.zero_add, List.getElem?_append_left this]
    exact hu
  | y :: ys, k + 1, x, j, u, h, hu => by
    rw [List.flatMap_cons, List.getElem?_append_right (by rw [hf, Nat.succ_mul]; omega), hf, show (k + 1) * C + j - C = k * C + j from by rw [Nat.succ_mul]; omega]
    exact flat_get f C hf ys k x j u (by simpa using h) hu
theorem flat_len {α : Type} (f : α → List Value) (C : Nat) (hf : ∀ x, (f x).length = C) (xs : List α) : (xs.flatMap f).length = xs.length * C := by
  induction xs with
  | nil => simp
  | cons y ys ih => rw [List.flatMap_cons, List.length_append, hf, ih, List.length_cons, Nat.succ_mul]; omega

/-- A slice whose cells are known reads as the list. -/
theorem rdl_of_rd {α : Type} {E : World → List Value → α → Prop} {C : Nat} {w : World} {a : Option Addr} {n : Nat} {xs : List α} (f : α → List Value) (hC : 0 < C) (hf : ∀ x, (f x).length = C) (hn : xs.length = n)
    (h : Rd w a n C (xs.flatMap f)) (hE : ∀ x, x ∈ xs → E w (f x) x) : RdL E C w a n xs := by
  refine ⟨hn, ?_⟩
  rcases h.2 with h0 | ⟨b, off, rfl, hc⟩
  · left
    have := h.1
    rw [h0, List.length_nil] at this
    rcases Nat.mul_eq_zero.1 this.symm with h | h <;> omega
  · exact .inr ⟨b, off, rfl, fun k x hx => ⟨f x, hf x, fun j u hu => by rw [Nat.add_assoc]; exact hc _ _ (flat_get f C hf xs k x j u hx hu), hE x (List.mem_of_getElem? hx)⟩⟩

/-! ### How arguments are opened -/
section
variable {H : Type} {enc : TypeId × Value → H} {P : Program} {w : World} {base : Nat} {spare : Nat → Bool} {held : Bool}

/-- A struct of one-cell fields: each cell with its field's reading. -/
theorem trod_fields {t : TypeId} {fs : Array Field} {fuel : Nat} {cs : List Value} {x : DataW H × List MemPlace} (hs : P.underlying t = some (.struct fs)) (hone : oneCellFields P fs = true) (hC : P.cellsOf t = fs.size)
    (h : DataW.trod enc P w base spare held fuel t cs = some x) : cs.length = fs.size ∧ ∃ n, ∀ (j : Nat) (f : Field), fs[j]? = some f → ∃ (u : Value) (y : DataW H × List MemPlace), cs[j]? = some u ∧ DataW.trod enc P w base spare held n f.type [u] = some y := by
  obtain ⟨ys, n, _, _, hlen, hyl, hf⟩ := DataW.trod_struct hs h
  rw [hC] at hlen
  refine ⟨hlen, n, fun j f hj => ?_⟩
  obtain ⟨ho, hk⟩ := hone_of hone j f hj
  have hjl : j < fs.size := (Array.getElem?_eq_some_iff.1 hj).1
  have h1 := hf j f hj
  rw [ho, hk] at h1
  have hone' : (cs.drop j).take 1 = [cs[j]'(by omega)] := by
    rw [List.drop_eq_getElem_cons (by omega)]
    rfl
  rw [hone'] at h1
  have hys : ys[j]? = some (ys[j]'(by omega)) := List.getElem?_eq_getElem (by omega)
  exact ⟨_, _, List.getElem?_eq_getElem (by omega), h1.trans hys⟩

theorem trod_of_value {t : TypeId} {v : Value} {d : DataW H} {p : List MemPlace} (h : DataW.Trod enc P w base spare held t v d p) : ∃ fuel, DataW.trod enc P w base spare held fuel t v.cells.toList = some (d, p) := h

/-- A struct by value: its cells, and that they read. -/
theorem open_struct_cells {r : Reach} {b0 : Nat} {t : TypeId} {fs : Array Field} {v : Value} {d : DataW H} {p : List MemPlace} (hs : P.underlying t = some (.struct fs)) (hv : Value.okWide P w r b0 t v) (h : DataW.Trod enc P w base spare held t v d p) :
    ∃ (cs : List Value) (fuel : Nat), v = .agg cs.toArray ∧ DataW.trod enc P w base spare held fuel t cs = some (d, p) := by
  obtain ⟨cs, rfl, _⟩ := okWide_struct hs hv
  obtain ⟨fuel, hf⟩ := trod_of_value h
  exact ⟨cs.toList, fuel, by simp, by simpa [Value.cells] using hf⟩

/-- A slice: its elements by 'E', if each element's cells are. -/
theorem trod_rdl {α : Type} {E : World → List Value → α → Prop} {C : Nat} (W : α → Prop) {t e : TypeId} {fuel : Nat} {v : Value} {x : DataW H × List MemPlace} (ht : P.underlying t = some (.slice e)) (hC : P.cellsOf e = C) (hC0 : 0 < C)
    (hE : ∀ n cs y, DataW.trod enc P w base spare held n e cs = some y → ∃ z, E w cs z ∧ W z) (h : DataW.trod enc P w base spare held fuel t [v] = some x) :
    ∃ a n cap xs, v = .slice a n cap ∧ RdL E C w a n xs ∧ (∀ z, z ∈ xs → W z) ∧ n ≤ cap ∧ cap ≤ maxLen := by
  rcases open_slice ht h with ⟨h0, _⟩ | ⟨a, len, cap, m, n, D, Pl, hcs, _, hl, hm, hmm, _, hi⟩
  · exact ⟨none, 0, 0, [], by simpa using h0, RdL.nil _ _ _ _, fun z hz => by simp at hz, Nat.le_refl _, Nat.zero_le _⟩
  · have hlm : len ≤ m := by rw [hmm]; split <;> omega
    have key : ∀ i, i < len → ∃ cs' z, w.cells? base (a.add (i * C)) C = some cs' ∧ E w cs' z ∧ W z := fun i hil => by
      obtain ⟨cs', hc, htr⟩ := hi i (by omega)
      obtain ⟨z, h1, h2⟩ := hE _ _ _ htr
      rw [hC] at hc
      exact ⟨cs', z, hc, h1, h2⟩
    by_cases hn : len = 0
    · exact ⟨some a, len, cap, [], by simpa using hcs, ⟨by simp; omega, .inl hn⟩, fun z hz => by simp at hz, hl, hm⟩
    obtain ⟨g, hg⟩ : ∃ g : Nat → α, ∀ i, i < len → ∃ cs', w.cells? base (a.add (i * C)) C = some cs' ∧ E w cs' (g i) ∧ W (g i) := by
      obtain ⟨cs0, z0, _⟩ := key 0 (by omega)
      refine ⟨fun i => if h : i < len then Classical.choose (Classical.choose_spec (key i h)) else z0, fun i hi => ?_⟩
      simp only [dif_pos hi]
      exact ⟨_, Classical.choose_spec (Classical.choose_spec (key i hi))⟩
    refine ⟨some a, len, cap, (List.range len).map g, by simpa using hcs, ⟨by simp, .inr ?_⟩, fun z hz => ?_, hl, hm⟩
    · obtain ⟨b, off, spot⟩ := a
      have hs : spot = none := by
        obtain ⟨cs', hc, _, _⟩ := hg 0 (by omega)
        obtain ⟨_, hlen, hcell⟩ := World.cells?_some hc
        have hu : cs'[0]? = some (cs'[0]'(by omega)) := List.getElem?_eq_getElem (by omega)
        have h1 := hcell 0 (by omega)
        rw [hu] at h1
        have := World.cell?_spot h1
        simpa [Addr.add] using this
      subst hs
      refine ⟨b, off, rfl, fun k x hx => ?_⟩
      have hk : k < len := by
        have := (List.getElem?_eq_some_iff.1 hx).1
        simpa using this
      have hx' : x = g k := by
        rw [List.getElem?_map, List.getElem?_range hk] at hx
        simpa using hx.symm
      subst hx'
      obtain ⟨cs', hc, hEz, _⟩ := hg k hk
      obtain ⟨_, hlen, hcell⟩ := World.cells?_some hc
      refine ⟨_, hlen, fun j u hu => ?_, hEz⟩
      have hj : j < C := by have := (List.getElem?_eq_some_iff.1 hu).1; omega
      have h1 := hcell j hj
      rw [hu] at h1
      have hadd : ((⟨b, off, none⟩ : Addr).add (k * C)).add j = ⟨b, off + k * C + j, none⟩ := by
        have h1 : ∀ (o n : Nat), (⟨b, o, none⟩ : Addr).add n = ⟨b, o + n, none⟩ := fun o n => by unfold Addr.add; split <;> simp_all
        rw [h1, h1]
      rw [hadd] at h1
      exact h1
    · obtain ⟨i, hi, rfl⟩ := List.mem_map.1 hz
      obtain ⟨_, _, _, h2⟩ := hg i (by simpa using hi)
      exact h2
end
end Go.Proofs.YtcdfomoglkhboaaGreatDoor
