/- Lemmas and walks of this proof, some texts one behind the other. No condition. -/
import Derived.Test.YtdddhnepanjmfaaGreatBase
import Derived.Deep.RegionHeld3
import Derived.Deep.Slices
import Derived.Deep.Fields
import Derived.ChangeSame
import Derived.ChangeArms
set_option linter.unusedSimpArgs false
set_option linter.unusedVariables false
/-
  PLACES IN ORDER, plain: places that are put into a row one by one are the row sorted. For VrdOf.
-/
namespace Go.Proofs.YtdddhnepanjmfaaGreat

structure Site where
  proc : Int
  pc : Int
  deriving DecidableEq, Inhabited

def lessB (a b : Site) : Bool := decide (a.proc < b.proc) || (decide (a.proc = b.proc) && decide (a.pc < b.pc))
/-- The first does not stand behind the second. -/
def LeS (a b : Site) : Prop := lessB b a = false

theorem lessB_iff {a b : Site} : lessB a b = true ↔ a.proc < b.proc ∨ a.proc = b.proc ∧ a.pc < b.pc := by simp [lessB]
theorem leS_iff {a b : Site} : LeS a b ↔ ¬ (b.proc < a.proc ∨ b.proc = a.proc ∧ b.pc < a.pc) := by
  unfold LeS
  rw [← Bool.not_eq_true, lessB_iff]
theorem leS_antisymm {a b : Site} (h1 : LeS a b) (h2 : LeS b a) : a = b := by
  obtain ⟨p, q⟩ := a
  obtain ⟨r, s⟩ := b
  rw [leS_iff] at h1 h2
  simp only at h1 h2
  simp only [Site.mk.injEq]
  omega
theorem leS_trans {a b c : Site} (h1 : LeS a b) (h2 : LeS b c) : LeS a c := by
  rw [leS_iff] at h1 h2 ⊢
  omega
theorem leS_of_less {a b : Site} (h : lessB a b = true) : LeS a b := by
  rw [lessB_iff] at h
  rw [leS_iff]
  omega

/-- A place put into a row. -/
def putL : List Site → Site → List Site
  | [], s => [s]
  | x :: r, s => if lessB s x then s :: x :: r else x :: putL r s

theorem putL_perm (s : Site) : ∀ l, (putL l s).Perm (s :: l)
  | [] => List.Perm.refl _
  | x :: r => by
    unfold putL
    split
    · exact List.Perm.refl _
    · exact ((putL_perm s r).cons x).trans (List.Perm.swap s x r)

theorem putL_sorted (s : Site) : ∀ l, l.Pairwise LeS → (putL l s).Pairwise LeS
  | [], _ => by simp [putL]
  | x :: r, h => by
    have hx := List.pairwise_cons.1 h
    unfold putL
    split
    · rename_i hs
      refine List.pairwise_cons.2 ⟨fun y hy => ?_, h⟩
      rcases List.mem_cons.1 hy with rfl | hy
      · exact leS_of_less hs
      · exact leS_trans (leS_of_less hs) (hx.1 y hy)
    · rename_i hs
      refine List.pairwise_cons.2 ⟨fun y hy => ?_, putL_sorted s r hx.2⟩
      rcases List.mem_cons.1 ((putL_perm s r).mem_iff.1 hy) with rfl | hy
      · unfold LeS
        simpa using hs
      · exact hx.1 y hy

def putsL (l ys : List Site) : List Site := ys.foldl putL l
theorem putsL_perm (ys : List Site) : ∀ l, (putsL l ys).Perm (l ++ ys) := by
  induction ys with
  | nil => intro l; simp [putsL]
  | cons y ys ih =>
    intro l
    have h := ih (putL l y)
    refine List.Perm.trans h ?_
    exact ((putL_perm y l).append_right ys).trans (by simpa using (List.perm_middle (a := y) (l₁ := l) (l₂ := ys)).symm)
theorem putsL_sorted (ys : List Site) : ∀ l, l.Pairwise LeS → (putsL l ys).Pairwise LeS := by
  induction ys with
  | nil => intro l h; exact h
  | cons y ys ih => intro l h; exact ih _ (putL_sorted y l h)

/-- Two rows of the same places in order are the same. -/
theorem sorted_unique : ∀ {a b : List Site}, a.Perm b → a.Pairwise LeS → b.Pairwise LeS → a = b
  | [], b, h, _, _ => (List.nil_perm.1 h).symm
  | x :: r, [], h, _, _ => absurd h.length_eq (by simp)
  | x :: r, y :: s, h, ha, hb => by
    have h1 := List.pairwise_cons.1 ha
    have h2 := List.pairwise_cons.1 hb
    have e : x = y := by
      have hx : x ∈ y :: s := h.mem_iff.1 (by simp)
      have hy : y ∈ x :: r := h.mem_iff.2 (by simp)
      rcases List.mem_cons.1 hx with e | hx
      · exact e
      · rcases List.mem_cons.1 hy with e | hy
        · exact e.symm
        · exact leS_antisymm (h1.1 y hy) (h2.1 x hx)
    subst e
    rw [sorted_unique (h.cons_inv) h1.2 h2.2]

end Go.Proofs.YtdddhnepanjmfaaGreat

/- A class of worlds for regions that draw their order: what has grown out of a world. No condition. -/
namespace Go.Proofs.YtdddhnepanjmfaaGreat
open Go.RowKit
set_option linter.unusedVariables false

/-- What a world has grown into. -/
structure Gw (w : World) where
  val : World
  grew : Grew w val
instance (w : World) : Nonempty (Gw w) := ⟨⟨w, Below.refl _ _⟩⟩
/-- A world that has grown out of another one. -/
def ext (w : World) (x : Gw w) : World := x.val
theorem ext_grew (w : World) (x : Gw w) : Grew w (ext w x) := x.grew
theorem ext_cell (w : World) (x : Gw w) (a : Addr) (h : a.block < w.heap.size) : (ext w x).cell? a = w.cell? a := (ext_grew w x).cell h
theorem ext_cellD (w : World) (x : Gw w.drew) (a : Addr) (h : a.block < w.heap.size) : (ext w.drew x).cell? a = w.cell? a := ext_cell w.drew x a h
theorem ext_frozen (w : World) (x : Gw w) (a : Addr) (h : a.block < w.heap.size) : (ext w x).frozen? a = w.frozen? a := (ext_grew w x).frozen h

theorem ext_of {w w' : World} (h : Grew w w') : ∃ x, w' = ext w x := ⟨⟨w', h⟩, rfl⟩
theorem ext_size (w : World) (x : Gw w) : w.heap.size ≤ (ext w x).heap.size := (ext_grew w x).size
theorem ext_lt (w : World) (x : Gw w) (b : Nat) (h : b < w.heap.size) : b < (ext w x).heap.size := Nat.lt_of_lt_of_le h (ext_size w x)
theorem ext_le (w : World) (x : Gw w) (b : Nat) (h : b < w.heap.size) : b ≤ (ext w x).heap.size := Nat.le_of_lt (ext_lt w x b h)
theorem ext_le1 (w : World) (x : Gw w) (b k : Nat) (h : b < w.heap.size) : b ≤ (ext w x).heap.size + k := Nat.le_trans (ext_le w x b h) (Nat.le_add_right _ _)

theorem lt_s2 (n : Nat) : n < n + 1 + 1 := by omega
theorem lt_s3 (n : Nat) : n < n + 1 + 1 + 1 := by omega
theorem lt_s4 (n : Nat) : n < n + 1 + 1 + 1 + 1 := by omega
theorem lt_s5 (n : Nat) : n < n + 1 + 1 + 1 + 1 + 1 := by omega
theorem lt_s6 (n : Nat) : n < n + 1 + 1 + 1 + 1 + 1 + 1 := by omega
theorem ext_lt1 (w : World) (x : Gw w) (b i : Nat) (h : b < w.heap.size) : b < (ext w x).heap.size + i := Nat.lt_of_lt_of_le (ext_lt w x b h) (Nat.le_add_right _ _)
theorem ext_lt2 (w : World) (x : Gw w) (b i j : Nat) (h : b < w.heap.size) : b < (ext w x).heap.size + i + j := Nat.lt_of_lt_of_le (ext_lt1 w x b i h) (Nat.le_add_right _ _)
theorem ext_lt3 (w : World) (x : Gw w) (b i j k : Nat) (h : b < w.heap.size) : b < (ext w x).heap.size + i + j + k := Nat.lt_of_lt_of_le (ext_lt2 w x b i j h) (Nat.le_add_right _ _)
/-- What grows out of a grown world has grown out of the first. -/
theorem ext_col {w w' : World} {x : Gw w} (h : Grew (ext w x) w') : ∃ y, w' = ext w y := ⟨⟨w', x.grew.trans (h.mono x.grew.size)⟩, rfl⟩
theorem ext_cold {w w' : World} {x : Gw w} (h : Grew (ext w x).drew w') : ∃ y, w' = ext w y :=
  ext_col (w := w) (x := ⟨(ext w x).drew, x.grew.trans ((grew_drewN (ext w x) 1).mono x.grew.size)⟩) h
/-- A block that is there is there when blocks are added. -/
theorem lt3 {b n : Nat} (h : b < n) : b < n + 1 ∧ b < n + 1 + 1 ∧ b < n + 1 + 1 + 1 := by omega
/-! What has grown: goals 'Grew w W', W written out, close by 'grew_ext', 'grew_al', 'grew_dn', 'grew_set'. -/
theorem grew_ext {w W : World} (h : Grew w W) (x : Gw W) : Grew w (ext W x) := h.trans ((ext_grew W x).mono h.size)
theorem grew_al {w W : World} (h : Grew w W) (o : Obj) : Grew w (W.alloc o) := h.alloc h.size o
theorem grew_dn {w W : World} (h : Grew w W) (n : Nat) : Grew w (W.drewN n) := h.trans ((grew_drewN W n).mono h.size)
theorem grew_d {w W : World} (h : Grew w W) : Grew w W.drew := grew_dn h 1
theorem grew_set {w W : World} {b o : Nat} {s : Option Nat} (h : Grew w W) (hp : w.heap.size ≤ b) (u : Value) : Grew w (W.setCell ⟨b, o, s⟩ u) := h.setCell (p := ⟨b, o, s⟩) hp u
theorem grew_tr {w W W' : World} (h : Grew w W) (k : Grew W W') : Grew w W' := h.trans (k.mono h.size)
theorem owns_set {w : World} {B : Nat} {e : TypeId} {size n : Nat} {v : Value} {xs : List Value} (h : w.ownsRow B e size v n xs) {p : Addr} (hp : p.block < B) (u : Value) : (w.setCell p u).ownsRow B e size v n xs := by
  refine ⟨h.1, ?_⟩
  rcases h.2 with hn | ⟨g, cap, cur, rfl, hb, hg, r⟩
  · exact .inl hn
  · refine .inr ⟨g, cap, cur, rfl, hb, ?_, r⟩
    rw [Below.heap_setCell w p u g (by omega)]
    exact hg
theorem le_ext {n : Nat} {W : World} (x : Gw W) (h : n ≤ W.heap.size) : n ≤ (ext W x).heap.size := Nat.le_trans h (ext_size W x)
theorem le_al {n : Nat} {W : World} (o : Obj) (h : n ≤ W.heap.size) : n ≤ (W.alloc o).heap.size := by simp; omega
theorem le_pl {n m k : Nat} (h : n ≤ m) : n ≤ m + k := Nat.le_trans h (Nat.le_add_right _ _)

section
variable {P : Program} {f : FuncId} {args : Array Value} {w : World} {x : Gw w} {v : Value}
theorem ext_same (h : Calls P f args (ext w x) fun e w' => e = .returned v ∧ ext w x = w') : Calls P f args (ext w x) fun e w'' => e = .returned v ∧ ∃ y, w'' = ext w y :=
  h.mono fun _ _ ⟨he, hw⟩ => ⟨he, x, hw.symm⟩
theorem ext_grow (h : Calls P f args (ext w x) fun e w' => e = .returned v ∧ Grew (ext w x) w') : Calls P f args (ext w x) fun e w'' => e = .returned v ∧ ∃ y, w'' = ext w y :=
  h.mono fun _ w' ⟨he, hg⟩ => ⟨he, ⟨w', x.grew.trans (hg.mono x.grew.size)⟩, rfl⟩
end

/-- A region that draws its order, whose operations read and whose calls make new memory at most: one walk, in the order of the text. -/
theorem wp_region_ext {P : Program} {id : Nat} {Q : Exit → Act → World → Prop} {a : Act} {w : World} {l : List Oper} (hm : P.follows .mixedOrders = true) (hB : Region.lexB .any l.toArray = true)
    (h : wpQuiet P l.toArray (fun w' => ∃ x, w' = ext w x) (fun a' => ∀ w', (∃ x, w' = ext w x) → Q .normal a' w') l a) : (Code.region id l.toArray true).wp P Q a w :=
  wp_region_quiet (C := fun w' => ∃ x, w' = ext w x) hm hB ⟨⟨w.drewN 1, grew_drewN w 1⟩, rfl⟩ (by simpa using h)
/-- The same in a world that has grown already. -/
theorem wp_region_ext2 {P : Program} {id : Nat} {Q : Exit → Act → World → Prop} {a : Act} {w : World} {x : Gw w} {l : List Oper} (hm : P.follows .mixedOrders = true) (hB : Region.lexB .any l.toArray = true)
    (h : wpQuiet P l.toArray (fun w' => ∃ y, w' = ext w y) (fun a' => ∀ w', (∃ y, w' = ext w y) → Q .normal a' w') l a) : (Code.region id l.toArray true).wp P Q a (ext w x) :=
  wp_region_quiet (C := fun w' => ∃ y, w' = ext w y) hm hB ⟨⟨(ext w x).drewN 1, grew_dn (ext_grew w x) 1⟩, rfl⟩ (by simpa using h)
/-- What has grown, by the words above. -/
theorem gr {w W : World} (h : Grew w W := by repeat (first | with_reducible exact Below.refl _ _ | with_reducible assumption | with_reducible apply grew_ext | with_reducible apply grew_al | with_reducible apply grew_dn | with_reducible apply grew_d | (with_reducible refine grew_set ?_ (by first | omega | (repeat (first | with_reducible exact Nat.le_refl _ | with_reducible apply le_pl | with_reducible apply le_ext | with_reducible apply le_al))) _))) : Grew w W := h
end Go.Proofs.YtdddhnepanjmfaaGreat

/- Data with depth: slices of structs that read as lists; how arguments are opened to them. No condition. -/
namespace Go.Proofs.YtdddhnepanjmfaaGreat
open Go.RowKit Go.ChangeShapes Go.WideShapes Go.Deep
set_option linter.unusedVariables false

/-- A slice of `n` elements of `C` cells each reads as the list `xs`, each element's cells as 'E' says. -/
def RdL {α : Type} (E : World → List Value → α → Prop) (C : Nat) (w : World) (a : Option Addr) (n : Nat) (xs : List α) : Prop :=
  xs.length = n ∧ (n = 0 ∨ ∃ b off, a = some ⟨b, off, none⟩ ∧ ∀ k x, xs[k]? = some x → ∃ cs, cs.length = C ∧ (∀ j u, cs[j]? = some u → w.cell? ⟨b, off + k * C + j, none⟩ = some u) ∧ E w cs x)
/-- What is said of an element stays when the world grows. -/
def Stays {α : Type} (E : World → List Value → α → Prop) : Prop := ∀ w w' cs x, Grew w w' → E w cs x → E w' cs x

section
variable {α : Type} {E : World → List Value → α → Prop} {C : Nat} {w w' : World} {a : Option Addr} {n : Nat} {xs : List α}
theorem RdL.len (h : RdL E C w a n xs) : xs.length = n := h.1
theorem RdL.nil (E : World → List Value → α → Prop) (C : Nat) (w : World) (a : Option Addr) : RdL E C w a 0 [] := ⟨rfl, .inl rfl⟩
theorem RdL.at_ (h : RdL E C w a n xs) {k : Nat} (hk : k < n) : ∃ b off x cs, a = some ⟨b, off, none⟩ ∧ xs[k]? = some x ∧ cs.length = C ∧ (∀ j u, cs[j]? = some u → w.cell? ⟨b, off + k * C + j, none⟩ = some u) ∧ E w cs x := by
  obtain ⟨hl, h0 | ⟨b, off, rfl, hc⟩⟩ := h
  · omega
  · have hx : xs[k]? = some (xs[k]'(by omega)) := List.getElem?_eq_getElem (by omega)
    obtain ⟨cs, h1, h2, h3⟩ := hc k _ hx
    exact ⟨b, off, _, cs, rfl, hx, h1, h2, h3⟩
theorem RdL.mono (hE : ∀ cs x, E w cs x → E w' cs x) (hk : ∀ b o u, w.cell? ⟨b, o, none⟩ = some u → (∃ o', a = some ⟨b, o', none⟩) → w'.cell? ⟨b, o, none⟩ = some u) (h : RdL E C w a n xs) : RdL E C w' a n xs := by
  refine ⟨h.1, ?_⟩
  rcases h.2 with h0 | ⟨b, off, rfl, hc⟩
  · exact .inl h0
  · refine .inr ⟨b, off, rfl, fun k x hx => ?_⟩
    obtain ⟨cs, h1, h2, h3⟩ := hc k x hx
    exact ⟨cs, h1, fun j u hu => hk _ _ _ (h2 j u hu) ⟨_, rfl⟩, hE _ _ h3⟩
theorem RdL.grew (hE : Stays E) (h : RdL E C w a n xs) (hg : Grew w w') : RdL E C w' a n xs :=
  h.mono (fun cs x => hE _ _ _ _ hg) fun b o u hu _ => (hg.cell (p := ⟨b, o, none⟩) (World.block_lt_of_cell? w _ hu)).trans hu
/-- The block of a slice that is not empty is there. -/
theorem RdL.lt (h : RdL E (C + 1) w a n xs) (hn : 0 < n) {x : Addr} (hx : a = some x) : x.block < w.heap.size := by
  obtain ⟨b, off, y, cs, rfl, _, hl, hc, _⟩ := h.at_ hn
  obtain rfl := Option.some.inj hx
  have hu : cs[0]? = some (cs[0]'(by omega)) := List.getElem?_eq_getElem (by omega)
  exact World.block_lt_of_cell? w ⟨b, off + 0 * (C + 1) + 0, none⟩ (hc 0 _ hu)
end

/-- The cells of a list of elements, one behind the other. -/
theorem flat_get {α : Type} (f : α → List Value) (C : Nat) (hf : ∀ x, (f x).length = C) : ∀ (xs : List α) (k : Nat) (x : α) (j : Nat) (u : Value), xs[k]? = some x → (f x)[j]? = some u → (xs.flatMap f)[k * C + j]? = some u
  | [], k, x, j, u, h, _ => by simp at h
  | y :: ys, 0, x, j, u, h, hu => by
    simp only [List.getElem?_cons_zero, Option.some.injEq] at h
    subst h
    have := (List.getElem?_eq_some_iff.1 hu).1
    rw [List.flatMap_cons, Nat.zero_mul, Nat.zero_add, List.getElem?_append_left this]
    exact hu
  | y :: ys, k + 1, x, j, u, h, hu => by
    rw [List.flatMap_cons, List.getElem?_append_right (by rw [hf, Nat.succ_mul]; omega), hf, show (k + 1) * C + j - C = k * C + j from by rw [Nat.succ_mul]; omega]
    exact flat_get f C hf ys k x j u (by simpa using h) hu
theorem flat_len {α : Type} (f : α → List Value) (C : Nat) (hf : ∀ x, (f x).length = C) (xs : List α) : (xs.flatMap f).length = xs.length * C := by
  induction xs with
  | nil => simp
  | cons y ys ih => rw [List.flatMap_cons, List.length_append, hf, ih, List.length_cons, Nat.succ_mul]; omega

/-- A slice whose cells are known reads as the list. -/
theorem rdl_of_rd {α : Type} {E : World → List Value → α → Prop} {C : Nat} {w : World} {a : Option Addr} {n : Nat} {xs : List α} (f : α → List Value) (hC : 0 < C) (hf : ∀ x, (f x).length = C) (hn : xs.length = n)
    (h : Rd w a n C (xs.flatMap f)) (hE : ∀ x, x ∈ xs → E w (f x) x) : RdL E C w a n xs := by
  refine ⟨hn, ?_⟩
  rcases h.2 with h0 | ⟨b, off, rfl, hc⟩
  · left
    have := h.1
    rw [h0, List.length_nil] at this
    rcases Nat.mul_eq_zero.1 this.symm with h | h <;> omega
  · exact .inr ⟨b, off, rfl, fun k x hx => ⟨f x, hf x, fun j u hu => by rw [Nat.add_assoc]; exact hc _ _ (flat_get f C hf xs k x j u hx hu), hE x (List.mem_of_getElem? hx)⟩⟩

/-! ### How arguments are opened -/
section
variable {H : Type} {enc : TypeId × Value → H} {P : Program} {w : World} {base : Nat} {spare : Nat → Bool} {held : Bool}

/-- A struct of one-cell fields: each cell with its field's reading. -/
theorem trod_fields {t : TypeId} {fs : Array Field} {fuel : Nat} {cs : List Value} {x : DataW H × List MemPlace} (hs : P.underlying t = some (.struct fs)) (hone : oneCellFields P fs = true) (hC : P.cellsOf t = fs.size)
    (h : DataW.trod enc P w base spare held fuel t cs = some x) : cs.length = fs.size ∧ ∃ n, ∀ (j : Nat) (f : Field), fs[j]? = some f → ∃ (u : Value) (y : DataW H × List MemPlace), cs[j]? = some u ∧ DataW.trod enc P w base spare held n f.type [u] = some y := by
  obtain ⟨ys, n, _, _, hlen, hyl, hf⟩ := DataW.trod_struct hs h
  rw [hC] at hlen
  refine ⟨hlen, n, fun j f hj => ?_⟩
  obtain ⟨ho, hk⟩ := hone_of hone j f hj
  have hjl : j < fs.size := (Array.getElem?_eq_some_iff.1 hj).1
  have h1 := hf j f hj
  rw [ho, hk] at h1
  have hone' : (cs.drop j).take 1 = [cs[j]'(by omega)] := by
    rw [List.drop_eq_getElem_cons (by omega)]
    rfl
  rw [hone'] at h1
  have hys : ys[j]? = some (ys[j]'(by omega)) := List.getElem?_eq_getElem (by omega)
  exact ⟨_, _, List.getElem?_eq_getElem (by omega), h1.trans hys⟩

theorem trod_of_value {t : TypeId} {v : Value} {d : DataW H} {p : List MemPlace} (h : DataW.Trod enc P w base spare held t v d p) : ∃ fuel, DataW.trod enc P w base spare held fuel t v.cells.toList = some (d, p) := h

/-- A struct by value: its cells, and that they read. -/
theorem open_struct_cells {r : Reach} {b0 : Nat} {t : TypeId} {fs : Array Field} {v : Value} {d : DataW H} {p : List MemPlace} (hs : P.underlying t = some (.struct fs)) (hv : Value.okWide P w r b0 t v) (h : DataW.Trod enc P w base spare held t v d p) :
    ∃ (cs : List Value) (fuel : Nat), v = .agg cs.toArray ∧ DataW.trod enc P w base spare held fuel t cs = some (d, p) := by
  obtain ⟨cs, rfl, _⟩ := okWide_struct hs hv
  obtain ⟨fuel, hf⟩ := trod_of_value h
  exact ⟨cs.toList, fuel, by simp, by simpa [Value.cells] using hf⟩

/-- A slice: its elements by 'E', if each element's cells are. -/
theorem trod_rdl {α : Type} {E : World → List Value → α → Prop} {C : Nat} (W : α → Prop) {t e : TypeId} {fuel : Nat} {v : Value} {x : DataW H × List MemPlace} (ht : P.underlying t = some (.slice e)) (hC : P.cellsOf e = C) (hC0 : 0 < C)
    (hE : ∀ n cs y, DataW.trod enc P w base spare held n e cs = some y → ∃ z, E w cs z ∧ W z) (h : DataW.trod enc P w base spare held fuel t [v] = some x) :
    ∃ a n cap xs, v = .slice a n cap ∧ RdL E C w a n xs ∧ (∀ z, z ∈ xs → W z) ∧ n ≤ cap ∧ cap ≤ maxLen := by
  rcases open_slice ht h with ⟨h0, _⟩ | ⟨a, len, cap, m, n, D, Pl, hcs, _, hl, hm, hmm, _, hi⟩
  · exact ⟨none, 0, 0, [], by simpa using h0, RdL.nil _ _ _ _, fun z hz => by simp at hz, Nat.le_refl _, Nat.zero_le _⟩
  · have hlm : len ≤ m := by rw [hmm]; split <;> omega
    have key : ∀ i, i < len → ∃ cs' z, w.cells? base (a.add (i * C)) C = some cs' ∧ E w cs' z ∧ W z := fun i hil => by
      obtain ⟨cs', hc, htr⟩ := hi i (by omega)
      obtain ⟨z, h1, h2⟩ := hE _ _ _ htr
      rw [hC] at hc
      exact ⟨cs', z, hc, h1, h2⟩
    by_cases hn : len = 0
    · exact ⟨some a, len, cap, [], by simpa using hcs, ⟨by simp; omega, .inl hn⟩, fun z hz => by simp at hz, hl, hm⟩
    obtain ⟨g, hg⟩ : ∃ g : Nat → α, ∀ i, i < len → ∃ cs', w.cells? base (a.add (i * C)) C = some cs' ∧ E w cs' (g i) ∧ W (g i) := by
      obtain ⟨cs0, z0, _⟩ := key 0 (by omega)
      refine ⟨fun i => if h : i < len then Classical.choose (Classical.choose_spec (key i h)) else z0, fun i hi => ?_⟩
      simp only [dif_pos hi]
      exact ⟨_, Classical.choose_spec (Classical.choose_spec (key i hi))⟩
    refine ⟨some a, len, cap, (List.range len).map g, by simpa using hcs, ⟨by simp, .inr ?_⟩, fun z hz => ?_, hl, hm⟩
    · obtain ⟨b, off, spot⟩ := a
      have hs : spot = none := by
        obtain ⟨cs', hc, _, _⟩ := hg 0 (by omega)
        obtain ⟨_, hlen, hcell⟩ := World.cells?_some hc
        have hu : cs'[0]? = some (cs'[0]'(by omega)) := List.getElem?_eq_getElem (by omega)
        have h1 := hcell 0 (by omega)
        rw [hu] at h1
        have := World.cell?_spot h1
        simpa [Addr.add] using this
      subst hs
      refine ⟨b, off, rfl, fun k x hx => ?_⟩
      have hk : k < len := by
        have := (List.getElem?_eq_some_iff.1 hx).1
        simpa using this
      have hx' : x = g k := by
        rw [List.getElem?_map, List.getElem?_range hk] at hx
        simpa using hx.symm
      subst hx'
      obtain ⟨cs', hc, hEz, _⟩ := hg k hk
      obtain ⟨_, hlen, hcell⟩ := World.cells?_some hc
      refine ⟨_, hlen, fun j u hu => ?_, hEz⟩
      have hj : j < C := by have := (List.getElem?_eq_some_iff.1 hu).1; omega
      have h1 := hcell j hj
      rw [hu] at h1
      have hadd : ((⟨b, off, none⟩ : Addr).add (k * C)).add j = ⟨b, off + k * C + j, none⟩ := by
        have h1 : ∀ (o n : Nat), (⟨b, o, none⟩ : Addr).add n = ⟨b, o + n, none⟩ := fun o n => by unfold Addr.add; split <;> simp_all
        rw [h1, h1]
      rw [hadd] at h1
      exact h1
    · obtain ⟨i, hi, rfl⟩ := List.mem_map.1 hz
      obtain ⟨_, _, _, h2⟩ := hg i (by simpa using hi)
      exact h2
end
end Go.Proofs.YtdddhnepanjmfaaGreat

/- A block that is known whole. No condition. -/
namespace Go.Proofs.YtdddhnepanjmfaaGreat
open Go.RowKit
set_option linter.unusedVariables false

/-! A block that is known whole. -/
def Blk (w : World) (g : Nat) (t : TypeId) (cs : Array Value) : Prop := w.heap[g]? = some (.cells cs t (0, 0))
section
variable {w w' : World} {g : Nat} {t : TypeId} {cs : Array Value}
theorem Blk.lt (h : Blk w g t cs) : g < w.heap.size := by
  rcases Nat.lt_or_ge g w.heap.size with hlt | hge
  · exact hlt
  · unfold Blk at h; rw [Array.getElem?_eq_none hge] at h; cases h
theorem Blk.cell (h : Blk w g t cs) (i : Nat) : w.cell? ⟨g, i, none⟩ = cs[i]? := cell_of_row w g i cs t (0, 0) h
theorem Blk.frozen (h : Blk w g t cs) (i : Nat) : w.frozen? ⟨g, i, none⟩ = false := by
  unfold Blk at h
  simp [World.frozen?, h]
theorem Blk.new (w : World) (t : TypeId) (cs : Array Value) : Blk (w.alloc (.cells cs t)) w.heap.size t cs := heap_alloc_new w _
theorem Blk.grew (h : Blk w g t cs) (hb : Grew w w') : Blk w' g t cs := (hb.block g h.lt).trans h
theorem Blk.alloc (h : Blk w g t cs) (o : Obj) : Blk (w.alloc o) g t cs := (Below.heap_alloc w o g h.lt).trans h
theorem Blk.set_ (h : Blk w g t cs) (i : Nat) (u : Value) : Blk (w.setCell ⟨g, i, none⟩ u) g t (cs.setIfInBounds i u) := by
  unfold Blk at h ⊢
  simp [World.setCell, Array.getElem?_modify, h]
theorem Blk.far (h : Blk w g t cs) {p : Addr} (hp : g ≠ p.block) (u : Value) : Blk (w.setCell p u) g t cs := (Below.heap_setCell w p u g hp).trans h
theorem Blk.chg {F : Nat → Prop} (h : Blk w g t cs) (hb : Chg F w w') (hF : ¬ F g) : Blk w' g t cs := (hb.block g h.lt hF).trans h
end
theorem blk_row_ne {w : World} {g base size n : Nat} {t e : TypeId} {cs : Array Value} {v : Value} {xs : List Value} (h : Blk w g t cs) (ho : w.ownsRow base e size v n xs) (hne : t ≠ e) : v.ownBlock ≠ some g := by
  intro hb
  rcases ho.2 with ⟨rfl, _⟩ | ⟨g', cap, cur, rfl, _, h3, _⟩
  · cases hb
  simp only [Value.ownBlock, Option.some.injEq] at hb
  subst hb
  have h1 : w.heap[g']? = _ := h
  rw [h1] at h3
  simp only [Option.some.injEq, Obj.cells.injEq] at h3
  exact hne h3.2.1
/-- Rows of two types lie in two blocks. -/
theorem row_row_ne {w : World} {B B' size size' n n' : Nat} {e e' : TypeId} {v v' : Value} {xs xs' : List Value} (h : w.ownsRow B e size v n xs) (h' : w.ownsRow B' e' size' v' n' xs') (hne : e ≠ e') {b : Nat} (hb : v.ownBlock = some b) : v'.ownBlock ≠ some b := by
  rcases h.2 with ⟨rfl, _⟩ | ⟨g, cap, cur, rfl, _, h3, _⟩
  · cases hb
  · simp only [Value.ownBlock, Option.some.injEq] at hb
    subst hb
    exact blk_row_ne (h := h3) h' hne
end Go.Proofs.YtdddhnepanjmfaaGreat
