/- Lemmas and walks of this proof, some texts one behind the other. No condition. -/
import Derived.Shelf.SlSortCmp.NoneTotal
import Derived.Ground.SlsfProg
import Derived.Test.YtdddhnepanjmfaaGreatProg
import Derived.Test.YtdddhnepanjmfaaGreatRows
import Derived.WalkKit
import Derived.ProofKit
import Derived.OpenShut
import Derived.Below
import Derived.IntWalk
import Derived.Lib.Hide
import Derived.BigQuiet
import Derived.Deep.QuietTactic
import Derived.Handy
import Derived.WalkLawsBesides
import Derived.WalkSpells
import Derived.Maps.AppendAt
import Derived.Laws.BitsAllLaws
set_option linter.unusedSimpArgs false
set_option linter.unusedVariables false
/- slices.SortFunc at sites, laid (what the kit's lay-plain writes for this seat). No condition. -/
namespace Go.Proofs
open Go.Shelf
def Tryz.sortSites_ren : Go.Shelf.Ren := ⟨fun | 6 => 59 | 15 => 104 | 14 => 103 | 28 => 140 | 29 => 141 | 20 => 132 | 21 => 133 | 22 => 134 | 23 => 135 | 24 => 136 | 25 => 137 | 26 => 138 | 27 => 139 | 46 => 163 | 47 => 164 | 48 => 165 | 49 => 166 | 50 => 167 | 57 => 175 | n => n, fun | 22 => 28 | 24 => 62 | 25 => 125 | 3 => 3 | 39 => 170 | 0 => 0 | 53 => 219 | 55 => 221 | 4 => 4 | 46 => 212 | 45 => 211 | 50 => 216 | 5 => 5 | 9 => 9 | 66 => 236 | 70 => 240 | 76 => 258 | 77 => 259 | n => n, fun | n => n⟩
theorem Tryz.sortSites : Go.Proofs.SlLaysF0.n6 Tryz.prog Tryz.sortSites_ren := {
  mixed := by kernel_rfl
  f6 := ⟨Tryz.f59.name, by decide, Tryz.func59.trans (congrArg some (by kernel_rfl))⟩
  f14 := ⟨Tryz.f103.name, by decide, Tryz.func103.trans (congrArg some (by kernel_rfl))⟩
  f15 := Tryz.func104.trans (congrArg some (by kernel_rfl))
  f20 := ⟨Tryz.f132.name, by decide, Tryz.func132.trans (congrArg some (by kernel_rfl))⟩
  f21 := ⟨Tryz.f133.name, by decide, Tryz.func133.trans (congrArg some (by kernel_rfl))⟩
  f22 := ⟨Tryz.f134.name, by decide, Tryz.func134.trans (congrArg some (by kernel_rfl))⟩
  f23 := ⟨Tryz.f135.name, by decide, Tryz.func135.trans (congrArg some (by kernel_rfl))⟩
  f24 := ⟨Tryz.f136.name, by decide, Tryz.func136.trans (congrArg some (by kernel_rfl))⟩
  f25 := ⟨Tryz.f137.name, by decide, Tryz.func137.trans (congrArg some (by kernel_rfl))⟩
  f26 := ⟨Tryz.f138.name, by decide, Tryz.func138.trans (congrArg some (by kernel_rfl))⟩
  f27 := ⟨Tryz.f139.name, by decide, Tryz.func139.trans (congrArg some (by kernel_rfl))⟩
  f28 := Tryz.func140.trans (congrArg some (by kernel_rfl))
  f29 := Tryz.func141.trans (congrArg some (by kernel_rfl))
  f46 := ⟨Tryz.f163.name, by decide, Tryz.func163.trans (congrArg some (by kernel_rfl))⟩
  f47 := Tryz.func164.trans (congrArg some (by kernel_rfl))
  f48 := Tryz.func165.trans (congrArg some (by kernel_rfl))
  f49 := ⟨Tryz.f166.name, by decide, Tryz.func166.trans (congrArg some (by kernel_rfl))⟩
  f50 := ⟨Tryz.f167.name, by decide, Tryz.func167.trans (congrArg some (by kernel_rfl))⟩
  f57 := ⟨Tryz.f175.name, by decide, Tryz.func175.trans (congrArg some (by kernel_rfl))⟩
  t0 := Tryz.underlying0
  a0 := Tryz.isAgg0
  z0 := Tryz.sizeOf0
  v0 := Tryz.zeroValue0
  t3 := Tryz.underlying3
  a3 := Tryz.isAgg3
  z3 := Tryz.sizeOf3
  v3 := Tryz.zeroValue3
  t4 := Tryz.underlying4
  a4 := Tryz.isAgg4
  z4 := Tryz.sizeOf4
  v4 := Tryz.zeroValue4
  t5 := Tryz.underlying5
  a5 := Tryz.isAgg5
  z5 := Tryz.sizeOf5
  v5 := Tryz.zeroValue5
  t9 := Tryz.underlying9
  a9 := Tryz.isAgg9
  z9 := Tryz.sizeOf9
  v9 := Tryz.zeroValue9
  t22 := Tryz.underlying28
  a22 := Tryz.isAgg28
  z22 := Tryz.sizeOf28
  v22 := Tryz.zeroValue28
  t25 := Tryz.underlying125
  a25 := Tryz.isAgg125
  z25 := Tryz.sizeOf125
  v25 := Tryz.zeroValue125
  t39 := Tryz.underlying170
  a39 := Tryz.isAgg170
  z39 := Tryz.sizeOf170
  v39 := Tryz.zeroValue170
  t45 := Tryz.underlying211
  a45 := Tryz.isAgg211
  z45 := Tryz.sizeOf211
  v45 := Tryz.zeroValue211
  t46 := Tryz.underlying212
  a46 := Tryz.isAgg212
  z46 := Tryz.sizeOf212
  v46 := Tryz.zeroValue212
  t50 := Tryz.underlying216
  a50 := Tryz.isAgg216
  z50 := Tryz.sizeOf216
  v50 := Tryz.zeroValue216
  t53 := Tryz.underlying219
  a53 := Tryz.isAgg219
  z53 := Tryz.sizeOf219
  v53 := Tryz.zeroValue219
  t55 := Tryz.underlying221
  a55 := Tryz.isAgg221
  z55 := Tryz.sizeOf221
  v55 := Tryz.zeroValue221
  t66 := Tryz.underlying236
  a66 := Tryz.isAgg236
  z66 := Tryz.sizeOf236
  v66 := Tryz.zeroValue236
  t70 := Tryz.underlying240
  a70 := Tryz.isAgg240
  z70 := Tryz.sizeOf240
  v70 := Tryz.zeroValue240
  t76 := Tryz.underlying258
  a76 := Tryz.isAgg258
  z76 := Tryz.sizeOf258
  v76 := Tryz.zeroValue258
  t77 := Tryz.underlying259
  a77 := Tryz.isAgg259
  z77 := Tryz.sizeOf259
  v77 := Tryz.zeroValue259 }
end Go.Proofs

/- Base predicates and small lemmas of this seat: slices that read as lists of cells, rows that the call owns, worlds that grew. No condition. -/
namespace Go.Proofs.YtdddhnepanjmfaaGreat
open Go.RowKit
set_option linter.unusedVariables false

/-- The cells of a list of integers of one kind. -/
def ints (k : IntKind) (zs : List Int) : List Value := zs.map (Value.int k)

/-- A slice value of `n` elements of `size` cells each that reads in a world as the cells `cs`. -/
def Rd (w : World) (a : Option Addr) (n size : Nat) (cs : List Value) : Prop :=
  cs.length = n * size ∧ (cs = [] ∨ ∃ b off, a = some ⟨b, off, none⟩ ∧ ∀ j u, cs[j]? = some u → w.cell? ⟨b, off + j, none⟩ = some u)

/-- What a call may have done to a world: nothing but new blocks, draws, and a change of the blocks in `F`. -/
structure Chg (F : Nat → Prop) (w w' : World) : Prop where
  os : w'.os = w.os
  tape : w'.tape = w.tape
  output : w'.output = w.output
  size : w.heap.size ≤ w'.heap.size
  block : ∀ k, k < w.heap.size → ¬ F k → w'.heap[k]? = w.heap[k]?

/-- Nothing old has changed. -/
abbrev Grew (w w' : World) : Prop := Below w.heap.size w w'

theorem Chg.of_below {F : Nat → Prop} {w w' : World} (h : Grew w w') : Chg F w w' :=
  ⟨h.os, h.tape, h.output, h.size, fun k hk _ => h.block k hk⟩
theorem Chg.below {w w' : World} (h : Chg (fun _ => False) w w') : Grew w w' :=
  ⟨h.os, h.tape, h.output, h.size, fun k hk => h.block k hk (fun e => e)⟩
theorem Chg.belowB {F : Nat → Prop} {w w' : World} {B : Nat} (h : Chg F w w') (hB : B ≤ w.heap.size) (hF : ∀ k, F k → B ≤ k) : Below B w w' :=
  ⟨h.os, h.tape, h.output, h.size, fun k hk => h.block k (by omega) (fun e => by have := hF k e; omega)⟩
theorem Chg.refl (F : Nat → Prop) (w : World) : Chg F w w := ⟨rfl, rfl, rfl, Nat.le_refl _, fun _ _ _ => rfl⟩
theorem Chg.trans {F G H : Nat → Prop} {a b c : World} (h : Chg F a b) (k : Chg G b c) (hF : ∀ i, i < a.heap.size → F i → H i) (hG : ∀ i, i < a.heap.size → G i → H i) : Chg H a c :=
  ⟨k.os.trans h.os, k.tape.trans h.tape, k.output.trans h.output, Nat.le_trans h.size k.size,
    fun i hi hn => (k.block i (Nat.lt_of_lt_of_le hi h.size) (fun e => hn (hG i hi e))).trans (h.block i hi (fun e => hn (hF i hi e)))⟩
theorem Chg.of_grownBy {w w' : World} {row : Option Nat} (h : w.grownBy w' row) : Chg (fun k => row = some k) w w' :=
  ⟨h.os, h.tape, h.output, h.size, fun k hk hn => h.block k hk (fun e => hn e.symm)⟩
theorem Below.of_grownBy {w w' : World} {row : Option Nat} (h : w.grownBy w' row) {B : Nat} (hB : B ≤ w.heap.size) (hr : ∀ k, row = some k → B ≤ k) : Below B w w' :=
  ⟨h.os, h.tape, h.output, h.size, fun k hk => h.block k (by omega) (fun e => by have := hr k e.symm; omega)⟩
theorem _root_.Go.World.grownBy.of_below {w w' : World} (h : Grew w w') : w.grownBy w' none := ⟨h.os, h.tape, h.output, h.size, fun k hk _ => h.block k hk⟩
theorem grew_drewN (w : World) (n : Nat) : Grew w (w.drewN n) := ⟨rfl, rfl, rfl, Nat.le_refl _, fun _ _ => rfl⟩

theorem Rd.mono {w w' : World} {a : Option Addr} {n size : Nat} {cs : List Value} (h : Rd w a n size cs)
    (hk : ∀ b o u, w.cell? ⟨b, o, none⟩ = some u → (∃ o', a = some ⟨b, o', none⟩) → w'.cell? ⟨b, o, none⟩ = some u) : Rd w' a n size cs := by
  refine ⟨h.1, ?_⟩
  rcases h.2 with h2 | ⟨b, off, rfl, hc⟩
  · exact .inl h2
  · exact .inr ⟨b, off, rfl, fun j u hu => hk _ _ _ (hc j u hu) ⟨off, rfl⟩⟩
theorem Rd.grew {w w' : World} {a : Option Addr} {n size : Nat} {cs : List Value} (h : Rd w a n size cs) (hb : Grew w w') : Rd w' a n size cs :=
  h.mono fun b o u hu _ => (hb.cell (p := ⟨b, o, none⟩) (World.block_lt_of_cell? w _ hu)).trans hu
theorem Rd.below {w w' : World} {a : Option Addr} {n size : Nat} {cs : List Value} {B : Nat} (h : Rd w a n size cs) (hb : Below B w w') (hB : ∀ x, a = some x → x.block < B) : Rd w' a n size cs :=
  h.mono fun b o u hu ⟨o', e⟩ => (hb.cell (p := ⟨b, o, none⟩) (show b < B from hB _ e)).trans hu
theorem Rd.chg {w w' : World} {F : Nat → Prop} {a : Option Addr} {n size : Nat} {cs : List Value} (h : Rd w a n size cs) (hb : Chg F w w') (hF : ∀ x, a = some x → ¬ F x.block) : Rd w' a n size cs :=
  h.mono fun b o u hu ⟨o', e⟩ => (World.cell?_of_block (w := w) (w' := w') (a := ⟨b, o, none⟩) (hb.block b (World.block_lt_of_cell? w _ hu) (hF _ e))).trans hu
theorem Rd.drewN {w : World} {a : Option Addr} {n size : Nat} {cs : List Value} (h : Rd w a n size cs) (k : Nat) : Rd (w.drewN k) a n size cs := h.grew (grew_drewN w k)
theorem Rd.nil (w : World) (a : Option Addr) (size : Nat) : Rd w a 0 size [] := ⟨by simp, .inl rfl⟩

theorem owns_form {w : World} {base : Nat} {e : TypeId} {size : Nat} {v : Value} {n : Nat} {xs : List Value} (h : w.ownsRow base e size v n xs) :
    ∃ a cap, v = .slice a n cap ∧ Rd w a n size xs ∧ n ≤ cap ∧ cap ≤ maxLen ∧ (∀ x, a = some x → base ≤ x.block ∧ x.block < w.heap.size ∧ x.off = 0 ∧ x.spot = none ∧ v.ownBlock = some x.block) ∧ (a = none → n = 0 ∧ cap = 0) := by
  have hlt := h.lt
  obtain ⟨hl, ⟨rfl, rfl⟩ | ⟨g, cap, cur, rfl, hb, hg, hnc, hcm, hcs, ht⟩⟩ := h
  · refine ⟨none, 0, rfl, ⟨hl, .inl ?_⟩, Nat.le_refl _, Nat.zero_le _, fun x e => (nomatch e), fun _ => ⟨rfl, rfl⟩⟩
    simpa using hl
  · refine ⟨some ⟨g, 0, none⟩, cap, rfl, ⟨hl, .inr ⟨g, 0, rfl, ?_⟩⟩, hnc, hcm, ?_, fun e => (nomatch e)⟩
    · intro j u hu
      have hc : w.ownsRow base e size (.slice (some ⟨g, 0, none⟩) n cap) n xs := ⟨hl, .inr ⟨g, cap, cur, rfl, hb, hg, hnc, hcm, hcs, ht⟩⟩
      have := hc.cells (g := g) rfl j u hu
      have hadd : (⟨g, 0, none⟩ : Addr).add j = ⟨g, 0 + j, none⟩ := by unfold Addr.add; split <;> simp_all
      rw [hadd] at this
      exact this
    · intro x e
      obtain rfl := Option.some.inj e
      exact ⟨hb, (hlt g rfl).2, rfl, rfl, rfl⟩

theorem ints_get {k : IntKind} {zs : List Int} {i : Nat} {x : Int} (h : zs[i]? = some x) : (ints k zs)[i]? = some (.int k x) := by simp [ints, h]
theorem ints_length (k : IntKind) (zs : List Int) : (ints k zs).length = zs.length := by simp [ints]
theorem ints_append (k : IntKind) (xs ys : List Int) : ints k (xs ++ ys) = ints k xs ++ ints k ys := by simp [ints]
theorem Rd.len1 {w : World} {a : Option Addr} {n : Nat} {k : IntKind} {zs : List Int} (h : Rd w a n 1 (ints k zs)) : zs.length = n := by
  have := h.1; simpa [ints] using this
/-- One integer of a slice that is read. -/
theorem Rd.at1 {w : World} {a : Option Addr} {n : Nat} {k : IntKind} {zs : List Int} {i : Nat} (h : Rd w a n 1 (ints k zs)) (hi : i < n) :
    ∃ b off x, a = some ⟨b, off, none⟩ ∧ zs[i]? = some x ∧ w.cell? ⟨b, off + i, none⟩ = some (.int k x) := by
  have hl := h.len1
  obtain ⟨x, hx⟩ : ∃ x, zs[i]? = some x := ⟨zs[i]'(by omega), List.getElem?_eq_getElem (by omega)⟩
  rcases h.2 with h2 | ⟨b, off, rfl, hc⟩
  · have : zs.length = 0 := by rw [← ints_length k zs, h2]; rfl
    omega
  · exact ⟨b, off, x, rfl, hx, hc i _ (ints_get hx)⟩
theorem take_get {α : Type} {l : List α} {i : Nat} {x : α} (h : l[i]? = some x) : l.take (i + 1) = l.take i ++ [x] := by
  rw [List.take_add_one, h]; rfl
/-- What is known of a slice type `t` with elements of type `e`. -/
structure El (P : Program) (t e : TypeId) (z : Value) (size bytes : Nat) : Prop where
  ex : ∃ i, P.info? e = some i ∧ i.zero = some z ∧ i.size = size ∧ i.bytes = bytes
  und : P.underlying t = some (.slice e)
  zs : z.cells.size = size
  pos : 0 < size

theorem El.mk' {P : Program} {t e : TypeId} {z : Value} {size bytes : Nat} (h : (P.info? e).map (fun i => (i.zero, i.size, i.bytes)) = some (some z, size, bytes))
    (hu : P.underlying t = some (.slice e)) (hz : z.cells.size = size) (hp : 0 < size) : El P t e z size bytes := by
  obtain ⟨i, hi, h0, h1, h2⟩ := info_parts h
  exact ⟨⟨i, hi, h0, h1, h2⟩, hu, hz, hp⟩

theorem owns_append_nil {P : Program} (w : World) {base : Nat} {t e : TypeId} {z : Value} {size bytes : Nat} (el : El P t e z size bytes) {v : Value} {n : Nat} {xs : List Value}
    (hown : w.ownsRow base e size v n xs) (c : Nat) : (Builtin.append_ #[t, t] t #[v, .slice none 0 c]).run P w = .ok v w := by
  obtain ⟨i, hi, h0, h1, h2⟩ := el.ex
  have ht := el.und
  rcases hown.2 with ⟨rfl, rfl⟩ | ⟨g, cap, cur, rfl, _, _, hnc, _⟩
  · simp [Builtin.append_, run_underlying ht, sizeOf, typeInfo, hi, Builtin.lenOf, Builtin.firstCells]
  · simp [Builtin.append_, run_underlying ht, sizeOf, typeInfo, hi, Builtin.lenOf, Builtin.firstCells, hnc, storeCells]

/-- append onto a row that the call owns, from whatever slice that reads. -/
theorem owns_append {P : Program} (w : World) {base : Nat} {t e : TypeId} {z : Value} {size bytes : Nat} (el : El P t e z size bytes) {v : Value} {n : Nat} {xs : List Value}
    (hown : w.ownsRow base e size v n xs) (A : Option Addr) (m c : Nat) (news : List Value) (hr : Rd w A m size news) (h1 : ∀ u ∈ news, u.oneCell' = true)
    (h63 : n + m ≤ 140737488355328) (hbytes : (n + m) * bytes ≤ 140737488355328) (hbase : base ≤ w.heap.size) :
    ∃ v' w', (Builtin.append_ #[t, t] t #[v, .slice A m c]).run P w = .ok v' w' ∧ w'.ownsRow base e size v' (n + m) (xs ++ news) ∧ w.grownBy w' v.ownBlock ∧
      (v'.ownBlock = v.ownBlock ∨ v'.ownBlock = some w.heap.size) := by
  obtain ⟨i, hi, hz, hs, hb⟩ := el.ex
  have hp := el.pos
  rcases A with _ | ad
  · have hm : m = 0 ∧ news = [] := by
      rcases hr.2 with e0 | ⟨b, off, e0, _⟩
      · have := hr.1
        rw [e0] at this
        simp only [List.length_nil] at this
        rcases Nat.mul_eq_zero.1 this.symm with h | h
        · exact ⟨h, e0⟩
        · omega
      · cases e0
    obtain ⟨rfl, rfl⟩ := hm
    exact ⟨v, w, owns_append_nil w el hown c, by simpa using hown, World.grownBy.refl w _, .inl rfl⟩
  · have hcells : ∀ j u, news[j]? = some u → w.cell? (ad.add j) = some u := by
      intro j u hu
      rcases hr.2 with e0 | ⟨b, off, e0, hc⟩
      · rw [e0] at hu; simp at hu
      · obtain rfl := Option.some.inj e0
        have hadd : (⟨b, off, none⟩ : Addr).add j = ⟨b, off + j, none⟩ := by unfold Addr.add; split <;> simp_all
        rw [hadd]
        exact hc j u hu
    obtain ⟨v', w', hrun, h2, h3, _, h5⟩ := run_append_own_at (P := P) w base t t e i z size bytes el.und hi hz hs hb el.zs hp v n xs hown ad m c news hr.1 hcells h1 (by unfold maxLen; omega) hbytes hbase
    exact ⟨v', w', hrun, h2, h3, h5⟩

theorem rd_lit (w : World) (e : TypeId) (cs : Array Value) (n size : Nat) (h : cs.size = n * size) : Rd (w.alloc (.cells cs e)) (some ⟨w.heap.size, 0, none⟩) n size cs.toList := by
  refine ⟨by simpa using h, .inr ⟨_, _, rfl, fun j u hu => ?_⟩⟩
  rw [Nat.zero_add, World.cell?_alloc_new]
  simpa using hu

theorem grownBy_trans {a b c : World} {r : Option Nat} (h : a.grownBy b r) (k : b.grownBy c r) : a.grownBy c r :=
  ⟨k.os.trans h.os, k.tape.trans h.tape, k.output.trans h.output, Nat.le_trans h.size k.size, fun i hi hn => (k.block i (Nat.lt_of_lt_of_le hi h.size) hn).trans (h.block i hi hn)⟩

/-- append of elements that are written out: the model lays them into a new block first. -/
theorem owns_append_lit {P : Program} (w : World) {base : Nat} {t e : TypeId} {z : Value} {size bytes : Nat} (el : El P t e z size bytes) {v : Value} {n : Nat} {xs : List Value}
    (hown : w.ownsRow base e size v n xs) (m : Nat) (news : List Value) (hl : news.length = m * size) (h1 : ∀ u ∈ news, u.oneCell' = true)
    (h63 : n + m ≤ 140737488355328) (hbytes : (n + m) * bytes ≤ 140737488355328) (hbase : base ≤ w.heap.size) :
    ∃ v' w', (Builtin.append_ #[t, t] t #[v, .slice (some ⟨w.heap.size, 0, none⟩) m m]).run P (w.alloc (.cells news.toArray e)) = .ok v' w' ∧ w'.ownsRow base e size v' (n + m) (xs ++ news) ∧
      w.grownBy w' v.ownBlock ∧ (v'.ownBlock = v.ownBlock ∨ v'.ownBlock = some (w.heap.size + 1)) := by
  obtain ⟨v', w', h2, h3, h4, h5⟩ := owns_append (P := P) _ el (hown.alloc (.cells news.toArray e)) (some ⟨w.heap.size, 0, none⟩) m m news
    (by simpa using rd_lit w e news.toArray m size (by simpa using hl)) h1 h63 hbytes (by simp; omega)
  refine ⟨v', w', h2, h3, grownBy_trans (World.grownBy_alloc w _ _) h4, ?_⟩
  simpa using h5

/-- append, its run known beforehand: for the walk. -/
theorem wpList_append_run {P : Program} {ops : Array Oper} {rest : List Oper} {o : Oper} {a : Act} {w w' : World} {Q : Exit → Act → World → Prop} {v y v' : Value} {t : TypeId} (hgd : o.guard = none) (s x : Operand)
    (ho : o.op = .call { callee := .builtin .append, args := #[s, x], argTypes := #[t, t] }) (hty : o.type = t) (hs : a.eval s = v) (hx : a.eval x = y)
    (hrun : (Builtin.append_ #[t, t] t #[v, y]).run P w = .ok v' w') (h : wpList P ops Q rest (a.put o.dst v') w') : wpList P ops Q (o :: rest) a w := by
  refine wpList_plain hgd fun K hK => ?_
  unfold Oper.wp execOp
  simp only [ho, hty, resolve, invoke, builtin, Sem.run_bind, Sem.run_pure, Result.andThen_ok, List.map_toArray, List.map_cons, List.map_nil, hs, hx, hrun]
  exact hK _ _ h
/-- All numbers are bytes. -/
def Bs (zs : List Int) : Prop := ∀ (i : Nat) (x : Int), zs[i]? = some x → 0 ≤ x ∧ x ≤ 255

theorem i64_of_wf {x : Int} (h : (Lit.int .i64 x).wf = true) : -9223372036854775808 ≤ x ∧ x ≤ 9223372036854775807 := by
  simpa [Lit.wf, IntKind.min, IntKind.max, IntKind.signed, IntKind.bits] using h

theorem owns_rd {w : World} {base : Nat} {e : TypeId} {size n cap : Nat} {a : Option Addr} {xs : List Value} (h : w.ownsRow base e size (.slice a n cap) n xs) : Rd w a n size xs := by
  obtain ⟨a', cap', he, hr, _⟩ := owns_form h
  simp only [Value.slice.injEq] at he
  obtain ⟨rfl, _, rfl⟩ := he
  exact hr
theorem owns_chg {F : Nat → Prop} {w w' : World} {base : Nat} {e : TypeId} {size n : Nat} {v : Value} {xs : List Value} (h : w.ownsRow base e size v n xs) (hc : Chg F w w') (hF : ∀ b, v.ownBlock = some b → ¬ F b) :
    w'.ownsRow base e size v n xs := by
  refine ⟨h.1, ?_⟩
  rcases h.2 with hn | ⟨g, cap, cur, rfl, hb, hg, r⟩
  · exact .inl hn
  · refine .inr ⟨g, cap, cur, rfl, hb, ?_, r⟩
    rw [hc.block g (Array.getElem?_eq_some_iff.1 hg).1 (hF g rfl)]
    exact hg
theorem owns_grew {w w' : World} {base : Nat} {e : TypeId} {size n : Nat} {v : Value} {xs : List Value} (h : w.ownsRow base e size v n xs) (hc : Grew w w') : w'.ownsRow base e size v n xs :=
  owns_chg h (Chg.of_below (F := fun _ => False) hc) (fun _ _ hf => hf)
theorem owns_slice {w : World} {base : Nat} {e : TypeId} {size n : Nat} {v : Value} {xs : List Value} (h : w.ownsRow base e size v n xs) : ∃ a cap, v = .slice a n cap := by
  obtain ⟨a, cap, rfl, _⟩ := owns_form h
  exact ⟨a, cap, rfl⟩

theorem owns_mono {w : World} {base base' : Nat} {e : TypeId} {size : Nat} {v : Value} {n : Nat} {xs : List Value} (h : w.ownsRow base e size v n xs) (hb : base' ≤ base) : w.ownsRow base' e size v n xs := by
  refine ⟨h.1, ?_⟩
  rcases h.2 with hn | ⟨g, cap, cur, hv, hg, r⟩
  · exact .inl hn
  · exact .inr ⟨g, cap, cur, hv, Nat.le_trans hb hg, r⟩

theorem owns_cap {w : World} {base : Nat} {e : TypeId} {size n cap : Nat} {a : Option Addr} {xs : List Value} (h : w.ownsRow base e size (.slice a n cap) n xs) : n ≤ cap ∧ cap ≤ maxLen := by
  obtain ⟨a', cap', he, _, h1, h2, _⟩ := owns_form h
  simp only [Value.slice.injEq] at he
  obtain ⟨rfl, _, rfl⟩ := he
  exact ⟨h1, h2⟩

end Go.Proofs.YtdddhnepanjmfaaGreat
