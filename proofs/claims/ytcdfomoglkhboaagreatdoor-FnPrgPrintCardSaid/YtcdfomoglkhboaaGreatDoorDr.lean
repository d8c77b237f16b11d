/- Lemmas and walks of this proof, some texts one behind the other. No condition. -/
import Derived.Test.YtcdfomoglkhboaaGreatDoorBase
import Derived.Deep.RegionHeld3
import Derived.Test.YtcdfomoglkhboaaGreatDoorDraw
set_option linter.unusedSimpArgs false
set_option linter.unusedVariables false
/- A class of worlds for regions that draw their order: what has grown out of a world. No condition. -/
namespace Go.Proofs.YtcdfomoglkhboaaGreatDoor
open Go.RowKit
set_option linter.unusedVariables false

/-- What a world has grown into. -/
structure Gw (w : World) where
  val : World
  grew : Grew w val
instance (w : World) : Nonempty (Gw w) := ⟨⟨w, Below.refl _ _⟩⟩
/-- A world that has grown out of another one. -/
def ext (w : World) (x : Gw w) : World := x.val
theorem ext_grew (w : World) (x : Gw w) : Grew w (ext w x) := x.grew
theorem ext_cell (w : World) (x : Gw w) (a : Addr) (h : a.block < w.heap.size) : (ext w x).cell? a = w.cell? a := (ext_grew w x).cell h
theorem ext_frozen (w : World) (x : Gw w) (a : Addr) (h : a.block < w.heap.size) : (ext w x).frozen? a = w.frozen? a := (ext_grew w x).frozen h

theorem ext_of {w w' : World} (h : Grew w w') : ∃ x, w' = ext w x := ⟨⟨w', h⟩, rfl⟩
theorem ext_size (w : World) (x : Gw w) : w.heap.size ≤ (ext w x).heap.size := (ext_grew w x).size
theorem ext_lt (w : World) (x : Gw w) (b : Nat) (h : b < w.heap.size) : b < (ext w x).heap.size := Nat.lt_of_lt_of_le h (ext_size w x)
theorem ext_le (w : World) (x : Gw w) (b : Nat) (h : b < w.heap.size) : b ≤ (ext w x).heap.size := Nat.le_of_lt (ext_lt w x b h)
theorem ext_le1 (w : World) (x : Gw w) (b k : Nat) (h : b < w.heap.size) : b ≤ (ext w x).heap.size + k := Nat.le_trans (ext_le w x b h) (Nat.le_add_right _ _)

theorem lt_s2 (n : Nat) : n < n + 1 + 1 := by omega
theorem lt_s3 (n : Nat) : n < n + 1 + 1 + 1 := by omega
theorem lt_s4 (n : Nat) : n < n + 1 + 1 + 1 + 1 := by omega
theorem lt_s5 (n : Nat) : n < n + 1 + 1 + 1 + 1 + 1 := by omega
theorem lt_s6 (n : Nat) : n < n + 1 + 1 + 1 + 1 + 1 + 1 := by omega
theorem ext_lt1 (w : World) (x : Gw w) (b i : Nat) (h : b < w.heap.size) : b < (ext w x).heap.size + i := Nat.lt_of_lt_of_le (ext_lt w x b h) (Nat.le_add_right _ _)
theorem ext_lt2 (w : World) (x : Gw w) (b i j : Nat) (h : b < w.heap.size) : b < (ext w x).heap.size + i + j := Nat.lt_of_lt_of_le (ext_lt1 w x b i h) (Nat.le_add_right _ _)
theorem ext_lt3 (w : World) (x : Gw w) (b i j k : Nat) (h : b < w.heap.size) : b < (ext w x).heap.size + i + j + k := Nat.lt_of_lt_of_le (ext_lt2 w x b i j h) (Nat.le_add_right _ _)
/-- What grows out of a grown world has grown out of the first. -/
theorem ext_col {w w' : World} {x : Gw w} (h : Grew (ext w x) w') : ∃ y, w' = ext w y := ⟨⟨w', x.grew.trans (h.mono x.grew.size)⟩, rfl⟩
theorem ext_cold {w w' : World} {x : Gw w} (h : Grew (ext w x).drew w') : ∃ y, w' = ext w y :=
  ext_col (w := w) (x := ⟨(ext w x).drew, x.grew.trans ((grew_drewN (ext w x) 1).mono x.grew.size)⟩) h
/-- A block that is there is there when blocks are added. -/
theorem lt3 {b n : Nat} (h : b < n) : b < n + 1 ∧ b < n + 1 + 1 ∧ b < n + 1 + 1 + 1 := by omega
/-! What has grown: goals 'Grew w W', W written out, close by 'grew_ext', 'grew_al', 'grew_dn', 'grew_set'. -/
theorem grew_ext {w W : World} (h : Grew w W) (x : Gw W) : Grew w (ext W x) := h.trans ((ext_grew W x).mono h.size)
theorem grew_al {w W : World} (h : Grew w W) (o : Obj) : Grew w (W.alloc o) := h.alloc h.size o
theorem grew_dn {w W : World} (h : Grew w W) (n : Nat) : Grew w (W.drewN n) := h.trans ((grew_drewN W n).mono h.size)
theorem grew_d {w W : World} (h : Grew w W) : Grew w W.drew := grew_dn h 1
theorem grew_set {w W : World} {b o : Nat} {s : Option Nat} (h : Grew w W) (hp : w.heap.size ≤ b) (u : Value) : Grew w (W.setCell ⟨b, o, s⟩ u) := h.setCell (p := ⟨b, o, s⟩) hp u
theorem grew_tr {w W W' : World} (h : Grew w W) (k : Grew W W') : Grew w W' := h.trans (k.mono h.size)
theorem le_ext {n : Nat} {W : World} (x : Gw W) (h : n ≤ W.heap.size) : n ≤ (ext W x).heap.size := Nat.le_trans h (ext_size W x)
theorem le_al {n : Nat} {W : World} (o : Obj) (h : n ≤ W.heap.size) : n ≤ (W.alloc o).heap.size := by simp; omega
theorem le_pl {n m k : Nat} (h : n ≤ m) : n ≤ m + k := Nat.le_trans h (Nat.le_add_right _ _)

section
variable {P : Program} {f : FuncId} {args : Array Value} {w : World} {x : Gw w} {v : Value}
theorem ext_same (h : Calls P f args (ext w x) fun e w' => e = .returned v ∧ ext w x = w') : Calls P f args (ext w x) fun e w'' => e = .returned v ∧ ∃ y, w'' = ext w y :=
  h.mono fun _ _ ⟨he, hw⟩ => ⟨he, x, hw.symm⟩
theorem ext_grow (h : Calls P f args (ext w x) fun e w' => e = .returned v ∧ Grew (ext w x) w') : Calls P f args (ext w x) fun e w'' => e = .returned v ∧ ∃ y, w'' = ext w y :=
  h.mono fun _ w' ⟨he, hg⟩ => ⟨he, ⟨w', x.grew.trans (hg.mono x.grew.size)⟩, rfl⟩
end

/-- A region that draws its order, whose operations read and whose calls make new memory at most: one walk, in the order of the text. -/
theorem wp_region_ext {P : Program} {id : Nat} {Q : Exit → Act → World → Prop} {a : Act} {w : World} {l : List Oper} (hm : P.follows .mixedOrders = true) (hB : Region.lexB .any l.toArray = true)
    (h : wpQuiet P l.toArray (fun w' => ∃ x, w' = ext w x) (fun a' => ∀ w', (∃ x, w' = ext w x) → Q .normal a' w') l a) : (Code.region id l.toArray true).wp P Q a w :=
  wp_region_quiet (C := fun w' => ∃ x, w' = ext w x) hm hB ⟨⟨w.drewN 1, grew_drewN w 1⟩, rfl⟩ (by simpa using h)
/-- The same in a world that has grown already. -/
theorem wp_region_ext2 {P : Program} {id : Nat} {Q : Exit → Act → World → Prop} {a : Act} {w : World} {x : Gw w} {l : List Oper} (hm : P.follows .mixedOrders = true) (hB : Region.lexB .any l.toArray = true)
    (h : wpQuiet P l.toArray (fun w' => ∃ y, w' = ext w y) (fun a' => ∀ w', (∃ y, w' = ext w y) → Q .normal a' w') l a) : (Code.region id l.toArray true).wp P Q a (ext w x) :=
  wp_region_quiet (C := fun w' => ∃ y, w' = ext w y) hm hB ⟨⟨(ext w x).drewN 1, grew_dn (ext_grew w x) 1⟩, rfl⟩ (by simpa using h)
/-- What has grown, by the words above. -/
theorem gr {w W : World} (h : Grew w W := by repeat (first | with_reducible exact Below.refl _ _ | with_reducible assumption | with_reducible apply grew_ext | with_reducible apply grew_al | with_reducible apply grew_dn | with_reducible apply grew_d | (with_reducible refine grew_set ?_ (by first | omega | (repeat (first | with_reducible exact Nat.le_refl _ | with_reducible apply le_pl | with_reducible apply le_ext | with_reducible apply le_al))) _))) : Grew w W := h
end Go.Proofs.YtcdfomoglkhboaaGreatDoor

/- A class of worlds for what draws: all old stands but the reader's block. No condition. -/
namespace Go.Proofs.YtcdfomoglkhboaaGreatDoor
open Go.RowKit
set_option linter.unusedVariables false

/-- What a world has become behind reading on in block g, up to place P. -/
structure Gd (g P : Nat) (W : World) where
  val : World
  chg : ChgG g W val
  rd : RdLe val g P
  lt : g < W.heap.size
section
variable {g P : Nat} {W : World}
def extg (x : Gd g P W) : World := x.val
theorem dg_cell (x : Gd g P W) (a : Addr) (h : a.block < W.heap.size) (hg : a.block ≠ g) : (extg x).cell? a = W.cell? a := World.cell?_of_block (w := W) (w' := x.val) (a := a) (x.chg.block _ h hg)
theorem dg_frozen (x : Gd g P W) (a : Addr) (h : a.block < W.heap.size) (hg : a.block ≠ g) : (extg x).frozen? a = W.frozen? a := by
  have := x.chg.block _ h hg
  unfold World.frozen? extg
  rw [this]
theorem dg_size (x : Gd g P W) : W.heap.size ≤ (extg x).heap.size := x.chg.size
theorem dg_lt (x : Gd g P W) (b : Nat) (h : b < W.heap.size) : b < (extg x).heap.size := Nat.lt_of_lt_of_le h (dg_size x)
theorem dg_lt1 (x : Gd g P W) (b i : Nat) (h : b < W.heap.size) : b < (extg x).heap.size + i := Nat.lt_of_lt_of_le (dg_lt x b h) (Nat.le_add_right _ _)
theorem dg_lt2 (x : Gd g P W) (b i j : Nat) (h : b < W.heap.size) : b < (extg x).heap.size + i + j := Nat.lt_of_lt_of_le (dg_lt1 x b i h) (Nat.le_add_right _ _)
theorem dg_gt (x : Gd g P W) : g < (extg x).heap.size := dg_lt x g x.lt
theorem dg_ne (x : Gd g P W) : ¬ (extg x).heap.size = g := by have := dg_gt x; omega
theorem dg_ne1 (x : Gd g P W) (i : Nat) : ¬ (extg x).heap.size + i = g := by have := dg_gt x; omega
theorem dg_ne2 (x : Gd g P W) (i j : Nat) : ¬ (extg x).heap.size + i + j = g := by have := dg_gt x; omega
theorem dg_new (x : Gd g P W) (b : Nat) (h : b < W.heap.size) : ¬ b = (extg x).heap.size := by have := dg_lt x b h; omega
theorem dg_wen (x : Gd g P W) (b : Nat) (h : b < W.heap.size) : ¬ (extg x).heap.size = b := by have := dg_lt x b h; omega
theorem extg_of {w' : World} (h : ChgG g W w') (r : RdLe w' g P) (l : g < W.heap.size) : ∃ x : Gd g P W, w' = extg x := ⟨⟨w', h, r, l⟩, rfl⟩
theorem extg_col {P' : Nat} {x : Gd g P' W} {w' : World} (h : ChgG g (extg x) w') (r : RdLe w' g P) (l : g < (extg x).heap.size) : ∃ x : Gd g P W, w' = extg x := ⟨⟨w', ChgG.trans x.chg h, r, x.lt⟩, rfl⟩
theorem rd_ext (x : Gd g P W) : RdLe (extg x) g P := x.rd
theorem rd_al (h : RdLe W g P) (o : Obj) : RdLe (W.alloc o) g P := h.grew (grew_al (Below.refl _ _) o)
theorem rd_drew (h : RdLe W g P) : RdLe W.drew g P := h.grew (grew_d (Below.refl _ _))
theorem rd_set {p : Addr} (h : RdLe W g P) (hp : g < p.block) (u : Value) : RdLe (W.setCell p u) g P :=
  h.chg (F := fun b => b = p.block) ⟨rfl, rfl, rfl, by simp, fun k hk hn => Below.heap_setCell W p u k hn⟩ (fun b hb e => by omega)
theorem chg_ext {w : World} (h : ChgG g w W) (x : Gd g P W) : ChgG g w (extg x) := ChgG.trans h x.chg
theorem chg_al {w : World} (h : ChgG g w W) (o : Obj) : ChgG g w (W.alloc o) := h.grew (grew_al (Below.refl _ _) o)
theorem chg_drew {w : World} (h : ChgG g w W) : ChgG g w W.drew := h.grew (grew_d (Below.refl _ _))
theorem chg_set {w : World} {p : Addr} (h : ChgG g w W) (hp : w.heap.size ≤ p.block) (u : Value) : ChgG g w (W.setCell p u) :=
  Chg.trans h (⟨rfl, rfl, rfl, by simp, fun k hk hn => Below.heap_setCell W p u k hn⟩ : Chg (fun b => b = p.block) W (W.setCell p u)) (fun _ _ h => h) (fun i hi e => by omega)
end
theorem dg_le {g P n : Nat} {W : World} (x : Gd g P W) (h : n ≤ W.heap.size) : n ≤ (extg x).heap.size := Nat.le_trans h (dg_size x)

theorem lit_get (zs : List Int) {j : Nat} (h : j < zs.length) : ∃ y ∈ zs, (ints .i64 zs)[j]? = some (.int .i64 y) := ⟨zs[j], List.getElem_mem h, by simp [ints, h]⟩
/-- A draw: what it returns has a property; the code was read on by c at most. -/
def RetG (p : Value → Prop) (g P : Nat) (w : World) (e : Ending) (w' : World) : Prop := ∃ v, e = .returned v ∧ p v ∧ RdLe w' g P ∧ ChgG g w w'
def IsNat (k : Int) (v : Value) : Prop := ∃ j : Nat, v = .int .i64 j ∧ (1 ≤ k → (j : Int) < k)
def IsInt (v : Value) : Prop := ∃ n : Int, v = .int .i64 n
def IsN16 (v : Value) : Prop := ∃ n : Int, v = .int .i64 n ∧ N16 n
def IsBool (v : Value) : Prop := ∃ b : Bool, v = .bool b
def IsItv (v : Value) : Prop := ∃ lo hi : Int, v = .agg #[.int .i64 lo, .int .i64 hi]
theorem pickG {g P : Nat} {k : Int} {w : World} (h : RdLe w g P) (hp : P ≤ 1099511627776) (hk : k ≤ 1099511627776) :
    Calls Tryz.prog 40 #[.pointer (some ⟨g, 0, none⟩), .int .i64 k] w (RetG (IsNat k) g (P + 1) w) := by
  refine (pickLe g P k w h hp hk).mono ?_
  rintro e w' ⟨v, rfl, ⟨h0, h1⟩, h2, h3⟩
  exact ⟨_, rfl, ⟨v.toNat, by rw [Int.toNat_of_nonneg h0], by rw [Int.toNat_of_nonneg h0]; exact h1⟩, h2, h3⟩
theorem numG {g P : Nat} {w : World} (h : RdLe w g P) (hp : P + 3 ≤ 1099511627776) :
    Calls Tryz.prog 110 #[.pointer (some ⟨g, 0, none⟩)] w (RetG IsN16 g (P + 3) w) :=
  (l20Num g P w h hp).mono fun e w' ⟨v, he, hv, h2, h3⟩ => ⟨_, he, ⟨v, rfl, hv⟩, h2, h3⟩
theorem oddG {g P : Nat} {k : Int} {w : World} (h : RdLe w g P) (hp : P ≤ 1099511627776) (hk : -1099511627776 ≤ k ∧ k ≤ 1099511627776) :
    Calls Tryz.prog 55 #[.pointer (some ⟨g, 0, none⟩), .int .i64 k] w (RetG IsBool g (P + 1) w) :=
  (odd g P k w h hp hk).mono fun e w' ⟨b, he, h2, h3⟩ => ⟨_, he, ⟨b, rfl⟩, h2, h3⟩
theorem g_sz {p : Prop} (h : p := by (focus (first | ((repeat (first | with_reducible assumption | omega | with_reducible exact dg_gt _ | (simp only [World.size_alloc, World.size_setCell, World.size_drew]) | with_reducible apply Nat.lt_succ_of_lt | with_reducible apply dg_lt | with_reducible apply le_pl | with_reducible apply dg_le)); done) | assumption | omega | (simp only [World.size_alloc, World.size_setCell, World.size_drew]; first | done | omega | (repeat (first | with_reducible assumption | with_reducible exact dg_gt _ | with_reducible apply Nat.lt_succ_of_lt | with_reducible apply dg_lt | with_reducible apply le_pl | with_reducible apply Nat.le_trans ?_ (dg_size _))))))) : p := h
theorem g_rd {p : Prop} (h : p := by (repeat (first | with_reducible assumption | with_reducible exact rd_ext _ | with_reducible exact Hid.out (by assumption) | with_reducible apply rd_al | with_reducible apply rd_drew | (with_reducible apply rd_set; rotate_left; (focus (first | ((repeat (first | with_reducible assumption | omega | with_reducible exact dg_gt _ | (simp only [World.size_alloc, World.size_setCell, World.size_drew]) | with_reducible apply Nat.lt_succ_of_lt | with_reducible apply dg_lt | with_reducible apply le_pl | with_reducible apply dg_le)); done) | assumption | omega | (simp only [World.size_alloc, World.size_setCell, World.size_drew]; first | done | omega | (repeat (first | with_reducible assumption | with_reducible exact dg_gt _ | with_reducible apply Nat.lt_succ_of_lt | with_reducible apply dg_lt | with_reducible apply le_pl | with_reducible apply Nat.le_trans ?_ (dg_size _)))))))))) : p := h
theorem g_chg {p : Prop} (h : p := by (repeat (first | with_reducible exact ChgG.refl _ _ | with_reducible assumption | with_reducible refine chg_ext ?_ _ | with_reducible refine chg_al ?_ _ | with_reducible refine chg_drew ?_ | with_reducible refine chg_set ?_ (by (focus (first | ((repeat (first | with_reducible assumption | omega | with_reducible exact dg_gt _ | (simp only [World.size_alloc, World.size_setCell, World.size_drew]) | with_reducible apply Nat.lt_succ_of_lt | with_reducible apply dg_lt | with_reducible apply le_pl | with_reducible apply dg_le)); done) | assumption | omega | (simp only [World.size_alloc, World.size_setCell, World.size_drew]; first | done | omega | (repeat (first | with_reducible assumption | with_reducible exact dg_gt _ | with_reducible apply Nat.lt_succ_of_lt | with_reducible apply dg_lt | with_reducible apply le_pl | with_reducible apply Nat.le_trans ?_ (dg_size _))))))) _))) : p := h
end Go.Proofs.YtcdfomoglkhboaaGreatDoor
