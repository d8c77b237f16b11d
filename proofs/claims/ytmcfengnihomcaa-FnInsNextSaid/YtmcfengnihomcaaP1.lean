/- Lemmas and walks of this proof, several texts one behind the other. No condition. -/
import Derived.Test.YtmcfengnihomcaaRows
import Derived.WalkKit
import Derived.ProofKit
import Derived.OpenShut
import Derived.Below
import Derived.IntWalk
import Derived.Lib.Hide
import Derived.BigQuiet
import Derived.Deep.QuietTactic
import Derived.Handy
import Derived.WalkLawsBesides
import Derived.WalkSpells
import Derived.Maps.AppendAt
import Derived.Laws.BitsAllLaws
import Derived.Outline
import Derived.Deep.RegionHeld3
import Derived.Deep.Slices
import Derived.Deep.Fields
import Derived.ChangeSame
import Derived.ChangeArms
set_option linter.unusedSimpArgs false
set_option linter.unusedVariables false
/- Base predicates and small lemmas of this seat: slices that read as lists of cells, rows that the call owns, worlds that grew. No condition. -/
namespace Go.Proofs.Ytmcfengnihomcaa
open Go.RowKit
set_option linter.unusedVariables false

/-- The cells of a list of integers of one kind. -/
def ints (k : IntKind) (zs : List Int) : List Value := zs.map (Value.int k)

/-- A slice value of `n` elements of `size` cells each that reads in a world as the cells `cs`. -/
def Rd (w : World) (a : Option Addr) (n size : Nat) (cs : List Value) : Prop :=
  cs.length = n * size ∧ (cs = [] ∨ ∃ b off, a = some ⟨b, off, none⟩ ∧ ∀ j u, cs[j]? = some u → w.cell? ⟨b, off + j, none⟩ = some u)

/-- What a call may have done to a world: nothing but new blocks, draws, and a change of the blocks in `F`. -/
structure Chg (F : Nat → Prop) (w w' : World) : Prop where
  os : w'.os = w.os
  tape : w'.tape = w.tape
  output : w'.output = w.output
  size : w.heap.size ≤ w'.heap.size
  block : ∀ k, k < w.heap.size → ¬ F k → w'.heap[k]? = w.heap[k]?

/-- Nothing old has changed. -/
abbrev Grew (w w' : World) : Prop := Below w.heap.size w w'

theorem Chg.of_below {F : Nat → Prop} {w w' : World} (h : Grew w w') : Chg F w w' :=
  ⟨h.os, h.tape, h.output, h.size, fun k hk _ => h.block k hk⟩
theorem Chg.below {w w' : World} (h : Chg (fun _ => False) w w') : Grew w w' :=
  ⟨h.os, h.tape, h.output, h.size, fun k hk => h.block k hk (fun e => e)⟩
theorem Chg.belowB {F : Nat → Prop} {w w' : World} {B : Nat} (h : Chg F w w') (hB : B ≤ w.heap.size) (hF : ∀ k, F k → B ≤ k) : Below B w w' :=
  ⟨h.os, h.tape, h.output, h.size, fun k hk => h.block k (by omega) (fun e => by have := hF k e; omega)⟩
theorem Chg.refl (F : Nat → Prop) (w : World) : Chg F w w := ⟨rfl, rfl, rfl, Nat.le_refl _, fun _ _ _ => rfl⟩
theorem Chg.trans {F G H : Nat → Prop} {a b c : World} (h : Chg F a b) (k : Chg G b c) (hF : ∀ i, i < a.heap.size → F i → H i) (hG : ∀ i, i < a.heap.size → G i → H i) : Chg H a c :=
  ⟨k.os.trans h.os, k.tape.trans h.tape, k.output.trans h.output, Nat.le_trans h.size k.size,
    fun i hi hn => (k.block i (Nat.lt_of_lt_of_le hi h.size) (fun e => hn (hG i hi e))).trans (h.block i hi (fun e => hn (hF i hi e)))⟩
theorem Chg.of_grownBy {w w' : World} {row : Option Nat} (h : w.grownBy w' row) : Chg (fun k => row = some k) w w' :=
  ⟨h.os, h.tape, h.output, h.size, fun k hk hn => h.block k hk (fun e => hn e.symm)⟩
theorem Below.of_grownBy {w w' : World} {row : Option Nat} (h : w.grownBy w' row) {B : Nat} (hB : B ≤ w.heap.size) (hr : ∀ k, row = some k → B ≤ k) : Below B w w' :=
  ⟨h.os, h.tape, h.output, h.size, fun k hk => h.block k (by omega) (fun e => by have := hr k e.symm; omega)⟩
theorem _root_.Go.World.grownBy.of_below {w w' : World} (h : Grew w w') : w.grownBy w' none := ⟨h.os, h.tape, h.output, h.size, fun k hk _ => h.block k hk⟩
theorem grew_drewN (w : World) (n : Nat) : Grew w (w.drewN n) := ⟨rfl, rfl, rfl, Nat.le_refl _, fun _ _ => rfl⟩

theorem Rd.mono {w w' : World} {a : Option Addr} {n size : Nat} {cs : List Value} (h : Rd w a n size cs)
    (hk : ∀ b o u, w.cell? ⟨b, o, none⟩ = some u → (∃ o', a = some ⟨b, o', none⟩) → w'.cell? ⟨b, o, none⟩ = some u) : Rd w' a n size cs := by
  refine ⟨h.1, ?_⟩
  rcases h.2 with h2 | ⟨b, off, rfl, hc⟩
  · exact .inl h2
  · exact .inr ⟨b, off, rfl, fun j u hu => hk _ _ _ (hc j u hu) ⟨off, rfl⟩⟩
theorem Rd.grew {w w' : World} {a : Option Addr} {n size : Nat} {cs : List Value} (h : Rd w a n size cs) (hb : Grew w w') : Rd w' a n size cs :=
  h.mono fun b o u hu _ => (hb.cell (p := ⟨b, o, none⟩) (World.block_lt_of_cell? w _ hu)).trans hu
theorem Rd.below {w w' : World} {a : Option Addr} {n size : Nat} {cs : List Value} {B : Nat} (h : Rd w a n size cs) (hb : Below B w w') (hB : ∀ x, a = some x → x.block < B) : Rd w' a n size cs :=
  h.mono fun b o u hu ⟨o', e⟩ => (hb.cell (p := ⟨b, o, none⟩) (show b < B from hB _ e)).trans hu
theorem Rd.chg {w w' : World} {F : Nat → Prop} {a : Option Addr} {n size : Nat} {cs : List Value} (h : Rd w a n size cs) (hb : Chg F w w') (hF : ∀ x, a = some x → ¬ F x.block) : Rd w' a n size cs :=
  h.mono fun b o u hu ⟨o', e⟩ => (World.cell?_of_block (w := w) (w' := w') (a := ⟨b, o, none⟩) (hb.block b (World.block_lt_of_cell? w _ hu) (hF _ e))).trans hu
theorem Rd.drewN {w : World} {a : Option Addr} {n size : Nat} {cs : List Value} (h : Rd w a n size cs) (k : Nat) : Rd (w.drewN k) a n size cs := h.grew (grew_drewN w k)
theorem Rd.nil (w : World) (a : Option Addr) (size : Nat) : Rd w a 0 size [] := ⟨by simp, .inl rfl⟩

theorem owns_form {w : World} {base : Nat} {e : TypeId} {size : Nat} {v : Value} {n : Nat} {xs : List Value} (h : w.ownsRow base e size v n xs) :
    ∃ a cap, v = .slice a n cap ∧ Rd w a n size xs ∧ n ≤ cap ∧ cap ≤ maxLen ∧ (∀ x, a = some x → base ≤ x.block ∧ x.block < w.heap.size ∧ x.off = 0 ∧ x.spot = none ∧ v.ownBlock = some x.block) ∧ (a = none → n = 0 ∧ cap = 0) := by
  have hlt := h.lt
  obtain ⟨hl, ⟨rfl, rfl⟩ | ⟨g, cap, cur, rfl, hb, hg, hnc, hcm, hcs, ht⟩⟩ := h
  · refine ⟨none, 0, rfl, ⟨hl, .inl ?_⟩, Nat.le_refl _, Nat.zero_le _, fun x e => (nomatch e), fun _ => ⟨rfl, rfl⟩⟩
    simpa using hl
  · refine ⟨some ⟨g, 0, none⟩, cap, rfl, ⟨hl, .inr ⟨g, 0, rfl, ?_⟩⟩, hnc, hcm, ?_, fun e => (nomatch e)⟩
    · intro j u hu
      have hc : w.ownsRow base e size (.slice (some ⟨g, 0, none⟩) n cap) n xs := ⟨hl, .inr ⟨g, cap, cur, rfl, hb, hg, hnc, hcm, hcs, ht⟩⟩
      have := hc.cells (g := g) rfl j u hu
      have hadd : (⟨g, 0, none⟩ : Addr).add j = ⟨g, 0 + j, none⟩ := by unfold Addr.add; split <;> simp_all
      rw [hadd] at this
      exact this
    · intro x e
      obtain rfl := Option.some.inj e
      exact ⟨hb, (hlt g rfl).2, rfl, rfl, rfl⟩

theorem ints_get {k : IntKind} {zs : List Int} {i : Nat} {x : Int} (h : zs[i]? = some x) : (ints k zs)[i]? = some (.int k x) := by simp [ints, h]
theorem ints_length (k : IntKind) (zs : List Int) : (ints k zs).length = zs.length := by simp [ints]
theorem ints_append (k : IntKind) (xs ys : List Int) : ints k (xs ++ ys) = ints k xs ++ ints k ys := by simp [ints]
theorem Rd.len1 {w : World} {a : Option Addr} {n : Nat} {k : IntKind} {zs : List Int} (h : Rd w a n 1 (ints k zs)) : zs.length = n := by
  have := h.1; simpa [ints] using this
/-- One integer of a slice that is read. -/
theorem Rd.at1 {w : World} {a : Option Addr} {n : Nat} {k : IntKind} {zs : List Int} {i : Nat} (h : Rd w a n 1 (ints k zs)) (hi : i < n) :
    ∃ b off x, a = some ⟨b, off, none⟩ ∧ zs[i]? = some x ∧ w.cell? ⟨b, off + i, none⟩ = some (.int k x) := by
  have hl := h.len1
  obtain ⟨x, hx⟩ : ∃ x, zs[i]? = some x := ⟨zs[i]'(by omega), List.getElem?_eq_getElem (by omega)⟩
  rcases h.2 with h2 | ⟨b, off, rfl, hc⟩
  · have : zs.length = 0 := by rw [← ints_length k zs, h2]; rfl
    omega
  · exact ⟨b, off, x, rfl, hx, hc i _ (ints_get hx)⟩
theorem take_get {α : Type} {l : List α} {i : Nat} {x : α} (h : l[i]? = some x) : l.take (i + 1) = l.take i ++ [x] := by
  rw [List.take_add_one, h]; rfl
theorem ret_of {v v' : Value} (h : v = v') : Ending.returned v = Ending.returned v' := by rw [h]

/-- What is known of a slice type `t` with elements of type `e`. -/
structure El (P : Program) (t e : TypeId) (z : Value) (size bytes : Nat) : Prop where
  ex : ∃ i, P.info? e = some i ∧ i.zero = some z ∧ i.size = size ∧ i.bytes = bytes
  und : P.underlying t = some (.slice e)
  zs : z.cells.size = size
  pos : 0 < size

theorem El.mk' {P : Program} {t e : TypeId} {z : Value} {size bytes : Nat} (h : (P.info? e).map (fun i => (i.zero, i.size, i.bytes)) = some (some z, size, bytes))
    (hu : P.underlying t = some (.slice e)) (hz : z.cells.size = size) (hp : 0 < size) : El P t e z size bytes := by
  obtain ⟨i, hi, h0, h1, h2⟩ := info_parts h
  exact ⟨⟨i, hi, h0, h1, h2⟩, hu, hz, hp⟩

theorem owns_append_nil {P : Program} (w : World) {base : Nat} {t e : TypeId} {z : Value} {size bytes : Nat} (el : El P t e z size bytes) {v : Value} {n : Nat} {xs : List Value}
    (hown : w.ownsRow base e size v n xs) (c : Nat) : (Builtin.append_ #[t, t] t #[v, .slice none 0 c]).run P w = .ok v w := by
  obtain ⟨i, hi, h0, h1, h2⟩ := el.ex
  have ht := el.und
  rcases hown.2 with ⟨rfl, rfl⟩ | ⟨g, cap, cur, rfl, _, _, hnc, _⟩
  · simp [Builtin.append_, run_underlying ht, sizeOf, typeInfo, hi, Builtin.lenOf, Builtin.firstCells]
  · simp [Builtin.append_, run_underlying ht, sizeOf, typeInfo, hi, Builtin.lenOf, Builtin.firstCells, hnc, storeCells]

/-- append onto a row that the call owns, from whatever slice that reads. -/
theorem owns_append {P : Program} (w : World) {base : Nat} {t e : TypeId} {z : Value} {size bytes : Nat} (el : El P t e z size bytes) {v : Value} {n : Nat} {xs : List Value}
    (hown : w.ownsRow base e size v n xs) (A : Option Addr) (m c : Nat) (news : List Value) (hr : Rd w A m size news) (h1 : ∀ u ∈ news, u.oneCell' = true)
    (h63 : n + m ≤ 140737488355328) (hbytes : (n + m) * bytes ≤ 140737488355328) (hbase : base ≤ w.heap.size) :
    ∃ v' w', (Builtin.append_ #[t, t] t #[v, .slice A m c]).run P w = .ok v' w' ∧ w'.ownsRow base e size v' (n + m) (xs ++ news) ∧ w.grownBy w' v.ownBlock ∧
      (v'.ownBlock = v.ownBlock ∨ v'.ownBlock = some w.heap.size) := by
  obtain ⟨i, hi, hz, hs, hb⟩ := el.ex
  have hp := el.pos
  rcases A with _ | ad
  · have hm : m = 0 ∧ news = [] := by
      rcases hr.2 with e0 | ⟨b, off, e0, _⟩
      · have := hr.1
        rw [e0] at this
        simp only [List.length_nil] at this
        rcases Nat.mul_eq_zero.1 this.symm with h | h
        · exact ⟨h, e0⟩
        · omega
      · cases e0
    obtain ⟨rfl, rfl⟩ := hm
    exact ⟨v, w, owns_append_nil w el hown c, by simpa using hown, World.grownBy.refl w _, .inl rfl⟩
  · have hcells : ∀ j u, news[j]? = some u → w.cell? (ad.add j) = some u := by
      intro j u hu
      rcases hr.2 with e0 | ⟨b, off, e0, hc⟩
      · rw [e0] at hu; simp at hu
      · obtain rfl := Option.some.inj e0
        have hadd : (⟨b, off, none⟩ : Addr).add j = ⟨b, off + j, none⟩ := by unfold Addr.add; split <;> simp_all
        rw [hadd]
        exact hc j u hu
    obtain ⟨v', w', hrun, h2, h3, _, h5⟩ := run_append_own_at (P := P) w base t t e i z size bytes el.und hi hz hs hb el.zs hp v n xs hown ad m c news hr.1 hcells h1 (by unfold maxLen; omega) hbytes hbase
    exact ⟨v', w', hrun, h2, h3, h5⟩

theorem rd_lit (w : World) (e : TypeId) (cs : Array Value) (n size : Nat) (h : cs.size = n * size) : Rd (w.alloc (.cells cs e)) (some ⟨w.heap.size, 0, none⟩) n size cs.toList := by
  refine ⟨by simpa using h, .inr ⟨_, _, rfl, fun j u hu => ?_⟩⟩
  rw [Nat.zero_add, World.cell?_alloc_new]
  simpa using hu

theorem grownBy_trans {a b c : World} {r : Option Nat} (h : a.grownBy b r) (k : b.grownBy c r) : a.grownBy c r :=
  ⟨k.os.trans h.os, k.tape.trans h.tape, k.output.trans h.output, Nat.le_trans h.size k.size, fun i hi hn => (k.block i (Nat.lt_of_lt_of_le hi h.size) hn).trans (h.block i hi hn)⟩

/-- append of elements that are written out: the model lays them into a new block first. -/
theorem owns_append_lit {P : Program} (w : World) {base : Nat} {t e : TypeId} {z : Value} {size bytes : Nat} (el : El P t e z size bytes) {v : Value} {n : Nat} {xs : List Value}
    (hown : w.ownsRow base e size v n xs) (m : Nat) (news : List Value) (hl : news.length = m * size) (h1 : ∀ u ∈ news, u.oneCell' = true)
    (h63 : n + m ≤ 140737488355328) (hbytes : (n + m) * bytes ≤ 140737488355328) (hbase : base ≤ w.heap.size) :
    ∃ v' w', (Builtin.append_ #[t, t] t #[v, .slice (some ⟨w.heap.size, 0, none⟩) m m]).run P (w.alloc (.cells news.toArray e)) = .ok v' w' ∧ w'.ownsRow base e size v' (n + m) (xs ++ news) ∧
      w.grownBy w' v.ownBlock ∧ (v'.ownBlock = v.ownBlock ∨ v'.ownBlock = some (w.heap.size + 1)) := by
  obtain ⟨v', w', h2, h3, h4, h5⟩ := owns_append (P := P) _ el (hown.alloc (.cells news.toArray e)) (some ⟨w.heap.size, 0, none⟩) m m news
    (by simpa using rd_lit w e news.toArray m size (by simpa using hl)) h1 h63 hbytes (by simp; omega)
  refine ⟨v', w', h2, h3, grownBy_trans (World.grownBy_alloc w _ _) h4, ?_⟩
  simpa using h5

/-- append, its run known beforehand: for the walk. -/
theorem wpList_append_run {P : Program} {ops : Array Oper} {rest : List Oper} {o : Oper} {a : Act} {w w' : World} {Q : Exit → Act → World → Prop} {v y v' : Value} {t : TypeId} (hgd : o.guard = none) (s x : Operand)
    (ho : o.op = .call { callee := .builtin .append, args := #[s, x], argTypes := #[t, t] }) (hty : o.type = t) (hs : a.eval s = v) (hx : a.eval x = y)
    (hrun : (Builtin.append_ #[t, t] t #[v, y]).run P w = .ok v' w') (h : wpList P ops Q rest (a.put o.dst v') w') : wpList P ops Q (o :: rest) a w := by
  refine wpList_plain hgd fun K hK => ?_
  unfold Oper.wp execOp
  simp only [ho, hty, resolve, invoke, builtin, Sem.run_bind, Sem.run_pure, Result.andThen_ok, List.map_toArray, List.map_cons, List.map_nil, hs, hx, hrun]
  exact hK _ _ h
/-- 'or' of int where the bits do not meet: a sum. -/
theorem or_i64 (i : Nat) (a b : Int) (ha : 0 ≤ a) (hb : 0 ≤ b) (hd : a.toNat % 2 ^ i = 0) (hl : b.toNat < 2 ^ i) (hs : a + b < 4611686018427387904) : bits .or .i64 a b = a + b := by
  obtain ⟨x, rfl⟩ := Int.eq_ofNat_of_zero_le ha
  obtain ⟨y, rfl⟩ := Int.eq_ofNat_of_zero_le hb
  simp only [Int.toNat_natCast] at hd hl
  have e : x ||| y = x + y := nat_join i x y hd hl
  have ofI : ∀ n : Nat, n < 9223372036854775808 → (BitVec.ofInt 64 (n : Int)).toNat = n := fun n hn => by
    rw [BitVec.ofInt_natCast, BitVec.toNat_ofNat]
    exact Nat.mod_eq_of_lt (by omega)
  show IntKind.i64.wrap ((BitVec.ofInt 64 (x : Int) ||| BitVec.ofInt 64 (y : Int)).toNat : Int) = _
  rw [BitVec.toNat_or, ofI x (by omega), ofI y (by omega), e, IntKind.wrap_i64]
  omega
/-- 'exclusive or' of bytes. -/
theorem ofI64 (n : Nat) (hn : n < 9223372036854775808) : (BitVec.ofInt 64 (n : Int)).toNat = n := by
  rw [BitVec.ofInt_natCast, BitVec.toNat_ofNat]
  exact Nat.mod_eq_of_lt (by omega)
theorem xor_i64 (a b : Int) (ha : 0 ≤ a) (hb : 0 ≤ b) (ha2 : a < 9223372036854775808) (hb2 : b < 9223372036854775808) : bits .xor .i64 a b = ((a.toNat ^^^ b.toNat : Nat) : Int) := by
  obtain ⟨x, rfl⟩ := Int.eq_ofNat_of_zero_le ha
  obtain ⟨y, rfl⟩ := Int.eq_ofNat_of_zero_le hb
  simp only [Int.toNat_natCast]
  have hx : x ^^^ y < 2 ^ 63 := Nat.xor_lt_two_pow (by omega) (by omega)
  show IntKind.i64.wrap ((BitVec.ofInt 64 (x : Int) ^^^ BitVec.ofInt 64 (y : Int)).toNat : Int) = _
  rw [BitVec.toNat_xor, ofI64 x (by omega), ofI64 y (by omega), IntKind.wrap_i64]
  omega

/-- All numbers are bytes. -/
def Bs (zs : List Int) : Prop := ∀ (i : Nat) (x : Int), zs[i]? = some x → 0 ≤ x ∧ x ≤ 255

/-- A slice of integers that came in, as the form reads it. -/
theorem rd_of_row {w : World} {k : IntKind} {x : Addr} {n : Nat} {zs : List Int} (hn : n ≤ zs.length) (hc : ∀ i, i < zs.length → w.cell? (x.add i) = some (.int k (zs.getD i 0))) :
    Rd w (some x) n 1 (ints k (zs.take n)) := by
  refine ⟨by simp [ints]; omega, ?_⟩
  by_cases h0 : n = 0
  · subst h0
    exact .inl (by simp [ints])
  · obtain ⟨b, off, spot⟩ := x
    have h1 := hc 0 (by omega)
    have hs : spot = none := by simpa [Addr.add] using World.cell?_spot h1
    subst hs
    refine .inr ⟨b, off, rfl, fun j u hu => ?_⟩
    have hj : j < n := by
      have := (List.getElem?_eq_some_iff.1 hu).1
      simp [ints] at this
      omega
    have h2 := hc j (by omega)
    have hadd : (⟨b, off, none⟩ : Addr).add j = ⟨b, off + j, none⟩ := by unfold Addr.add; split <;> simp_all
    rw [hadd] at h2
    rw [h2, ← hu]
    simp [ints, hj, List.getD_eq_getElem?_getD, List.getElem?_eq_getElem (show j < zs.length by omega)]
theorem bs_of_wf {zs : List Int} (n : Nat) (h : ∀ x ∈ zs, (Lit.int .u8 x).wf = true) : Bs (zs.take n) := by
  intro i x hx
  have hm : x ∈ zs := List.mem_of_mem_take (List.mem_of_getElem? hx)
  have := h x hm
  simpa [Lit.wf, IntKind.min, IntKind.max, IntKind.signed, IntKind.bits] using this
/-- All numbers are of Go's int. -/
def Is (zs : List Int) : Prop := ∀ (i : Nat) (x : Int), zs[i]? = some x → -9223372036854775808 ≤ x ∧ x ≤ 9223372036854775807
theorem is_of_wf {zs : List Int} (n : Nat) (h : ∀ x ∈ zs, (Lit.int .i64 x).wf = true) : Is (zs.take n) := by
  intro i x hx
  have hm : x ∈ zs := List.mem_of_mem_take (List.mem_of_getElem? hx)
  have := h x hm
  simpa [Lit.wf, IntKind.min, IntKind.max, IntKind.signed, IntKind.bits] using this
theorem i64_of_wf {x : Int} (h : (Lit.int .i64 x).wf = true) : -9223372036854775808 ≤ x ∧ x ≤ 9223372036854775807 := by
  simpa [Lit.wf, IntKind.min, IntKind.max, IntKind.signed, IntKind.bits] using h

theorem owns_rd {w : World} {base : Nat} {e : TypeId} {size n cap : Nat} {a : Option Addr} {xs : List Value} (h : w.ownsRow base e size (.slice a n cap) n xs) : Rd w a n size xs := by
  obtain ⟨a', cap', he, hr, _⟩ := owns_form h
  simp only [Value.slice.injEq] at he
  obtain ⟨rfl, _, rfl⟩ := he
  exact hr
theorem owns_chg {F : Nat → Prop} {w w' : World} {base : Nat} {e : TypeId} {size n : Nat} {v : Value} {xs : List Value} (h : w.ownsRow base e size v n xs) (hc : Chg F w w') (hF : ∀ b, v.ownBlock = some b → ¬ F b) :
    w'.ownsRow base e size v n xs := by
  refine ⟨h.1, ?_⟩
  rcases h.2 with hn | ⟨g, cap, cur, rfl, hb, hg, r⟩
  · exact .inl hn
  · refine .inr ⟨g, cap, cur, rfl, hb, ?_, r⟩
    rw [hc.block g (Array.getElem?_eq_some_iff.1 hg).1 (hF g rfl)]
    exact hg
theorem owns_grew {w w' : World} {base : Nat} {e : TypeId} {size n : Nat} {v : Value} {xs : List Value} (h : w.ownsRow base e size v n xs) (hc : Grew w w') : w'.ownsRow base e size v n xs :=
  owns_chg h (Chg.of_below (F := fun _ => False) hc) (fun _ _ hf => hf)
theorem owns_slice {w : World} {base : Nat} {e : TypeId} {size n : Nat} {v : Value} {xs : List Value} (h : w.ownsRow base e size v n xs) : ∃ a cap, v = .slice a n cap := by
  obtain ⟨a, cap, rfl, _⟩ := owns_form h
  exact ⟨a, cap, rfl⟩

theorem bs_take {zs : List Int} (h : Bs zs) (n : Nat) : Bs (zs.take n) := fun i x hx => h i x (by
  rw [List.getElem?_take] at hx
  split at hx
  · exact hx
  · cases hx)
theorem bs_drop {zs : List Int} (h : Bs zs) (n : Nat) : Bs (zs.drop n) := fun i x hx => h (n + i) x (by rwa [List.getElem?_drop] at hx)
theorem quiet_left {P : Program} {f : FuncId} {args : Array Value} {w : World} {n : Nat} {v : Value} (h : Calls P f args (w.drewN n) fun e w' => e = .returned v ∧ w.drewN n = w') :
    Calls P f args (w.drewN n) fun e w'' => e = .returned v ∧ ∃ m, w'' = w.drewN m :=
  h.mono fun _ _ ⟨he, hm⟩ => ⟨he, n, hm.symm⟩

theorem owns_mono {w : World} {base base' : Nat} {e : TypeId} {size : Nat} {v : Value} {n : Nat} {xs : List Value} (h : w.ownsRow base e size v n xs) (hb : base' ≤ base) : w.ownsRow base' e size v n xs := by
  refine ⟨h.1, ?_⟩
  rcases h.2 with hn | ⟨g, cap, cur, hv, hg, r⟩
  · exact .inl hn
  · exact .inr ⟨g, cap, cur, hv, Nat.le_trans hb hg, r⟩

theorem owns_cap {w : World} {base : Nat} {e : TypeId} {size n cap : Nat} {a : Option Addr} {xs : List Value} (h : w.ownsRow base e size (.slice a n cap) n xs) : n ≤ cap ∧ cap ≤ maxLen := by
  obtain ⟨a', cap', he, _, h1, h2, _⟩ := owns_form h
  simp only [Value.slice.injEq] at he
  obtain ⟨rfl, _, rfl⟩ := he
  exact ⟨h1, h2⟩

theorem Rd.sub {w : World} {b off n : Nat} {k : IntKind} {zs : List Int} (h : Rd w (some ⟨b, off, none⟩) n 1 (ints k zs)) (lo m : Nat) (hm : lo + m ≤ n) :
    Rd w (some ⟨b, off + lo, none⟩) m 1 (ints k ((zs.drop lo).take m)) := by
  have hl := h.len1
  refine ⟨by simp [ints]; omega, .inr ⟨b, off + lo, rfl, fun j u hu => ?_⟩⟩
  have hj : j < m := by
    have := (List.getElem?_eq_some_iff.1 hu).1
    simp [ints] at this
    omega
  obtain ⟨b', off', x, e, hx, hc⟩ := h.at1 (i := lo + j) (by omega)
  simp only [Option.some.injEq, Addr.mk.injEq, and_true] at e
  obtain ⟨rfl, rfl⟩ := e
  rw [Nat.add_assoc, hc, ← hu]
  simp [ints, hj, hx]


/-- A slice's length: for a loop's measure. -/
def sliceLen : Value → Nat | .slice _ n _ => n | _ => 0

theorem ints_set' (k : IntKind) (zs : List Int) (i : Nat) (y : Int) : (ints k zs).set i (.int k y) = ints k (zs.set i y) := by simp [ints, List.map_set]
theorem bs_set {zs : List Int} (h : Bs zs) (i : Nat) (y : Int) (h0 : 0 ≤ y) (h1 : y ≤ 255) : Bs (zs.set i y) := by
  intro j x hx
  rw [List.getElem?_set] at hx
  split at hx
  · split at hx
    · obtain rfl := Option.some.inj hx
      exact ⟨h0, h1⟩
    · cases hx
  · exact h j x hx

/-- A byte that is turned is another byte. -/
theorem xor_u8 (x u : Int) (hx0 : 0 ≤ x) (hx1 : x ≤ 255) (hu0 : 1 ≤ u) (hu1 : u ≤ 255) : ∃ y : Int, bits .xor .u8 x u = y ∧ 0 ≤ y ∧ y ≤ 255 ∧ y ≠ x := by
  refine ⟨_, u8_xor x u hx0 (by omega) (by omega) (by omega), by omega, ?_, ?_⟩
  · have : x.toNat ^^^ u.toNat < 2 ^ 8 := Nat.xor_lt_two_pow (by omega) (by omega)
    omega
  · intro h
    have h1 : x.toNat ^^^ u.toNat = x.toNat := by omega
    have h2 : x.toNat ^^^ (x.toNat ^^^ u.toNat) = x.toNat ^^^ x.toNat := by rw [h1]
    rw [← Nat.xor_assoc, Nat.xor_self, Nat.zero_xor] at h2
    omega

end Go.Proofs.Ytmcfengnihomcaa

/- Contracts of the reference's readers of a code: what they return lies in its range, the code is read on. No condition. -/
namespace Go.Proofs.Ytmcfengnihomcaa
open Go.RowKit
set_option linter.unusedVariables false

/-- Block `g` is a reader of a code at place `p`. -/
def RdAt (w : World) (g p : Nat) : Prop :=
  ∃ a n c zs, w.heap[g]? = some (.cells #[.slice a n c, .int .i64 (p : Int)] 101 (0, 0)) ∧ Rd w a n 1 (ints .u8 zs) ∧ Bs zs ∧ n ≤ 2000 ∧ (∀ x, a = some x → 1 ≤ n → x.block < g)

theorem RdAt.lt {w : World} {g p : Nat} (h : RdAt w g p) : g < w.heap.size := by
  obtain ⟨a, n, c, zs, hb, _⟩ := h
  exact (Array.getElem?_eq_some_iff.1 hb).1
theorem RdAt.chg {w w' : World} {g p : Nat} {F : Nat → Prop} (h : RdAt w g p) (hc : Chg F w w') (hF : ∀ b, b ≤ g → ¬ F b) : RdAt w' g p := by
  have hlt := h.lt
  obtain ⟨a, n, c, zs, hb, hr, hz, hn, ha⟩ := h
  refine ⟨a, n, c, zs, by rw [hc.block g hlt (hF g (Nat.le_refl _))]; exact hb, ?_, hz, hn, ha⟩
  by_cases h0 : n = 0
  · subst h0
    have h1 : ints .u8 zs = [] := List.eq_nil_of_length_eq_zero (by have := hr.1; omega)
    rw [h1]
    exact Rd.nil _ _ _
  · exact hr.chg hc (fun x e => hF _ (Nat.le_of_lt (ha x e (by omega))))
theorem RdAt.grew {w w' : World} {g p : Nat} (h : RdAt w g p) (hb : Grew w w') : RdAt w' g p := h.chg (F := fun _ => False) (Chg.of_below hb) (fun _ _ hf => hf)

/-- A number of a range was returned. -/
def PickRes (k v : Int) : Prop := 0 ≤ v ∧ (1 ≤ k → v < k)

set_option maxRecDepth 100000 in
theorem pick (g p : Nat) (k : Int) (w : World) (h : RdAt w g p) (hp : p ≤ 1099511627776) (hk : k ≤ 1099511627776) :
    Calls Try.prog 65 #[.pointer (some ⟨g, 0, none⟩), .int .i64 k] w fun e w' => ∃ v : Int, e = .returned (.int .i64 v) ∧ PickRes k v ∧ RdAt w' g (p + 1) ∧ Chg (fun b => b = g) w w' := by
  obtain ⟨a, n, c, zs, hb, hr, hz, hn, ha⟩ := h
  have hlt := (Array.getElem?_eq_some_iff.1 hb).1
  obtain ⟨w1, hw1⟩ : ∃ w1, w1 = w.setCell ⟨g, 1, none⟩ (.int .i64 ((p : Int) + 1)) := ⟨_, rfl⟩
  have hchg : Chg (fun b => b = g) w w1 := by
    rw [hw1]
    exact ⟨rfl, rfl, rfl, by simp, fun j _ hj => Below.heap_setCell _ _ _ _ hj⟩
  have hr1 : Rd w1 a n 1 (ints .u8 zs) := by
    by_cases h0 : n = 0
    · subst h0
      have h1 : ints .u8 zs = [] := List.eq_nil_of_length_eq_zero (by have := hr.1; omega)
      rw [h1]
      exact Rd.nil _ _ _
    · exact hr.chg hchg (fun x e he => by have := ha x e (by omega); omega)
  have hat : RdAt w1 g (p + 1) := by
    refine ⟨a, n, c, zs, ?_, hr1, hz, hn, ha⟩
    rw [hw1]
    simpa using heap_setCell_same w g 1 _ _ (.int .i64 ((p : Int) + 1)) hb
  have c0 := cell_of_row w g 0 _ _ _ hb
  have c1 := cell_of_row w g 1 _ _ _ hb
  have f1 := frozen_of_row w g 1 _ _ hb
  simp at c0 c1
  have g0 : w1.cell? ⟨g, 0, none⟩ = some (.slice a n c) := by rw [hw1, World.cell?_setCell_other _ _ _ _ (by simp)]; exact c0
  have g1 : w1.cell? ⟨g, 1, none⟩ = some (.int .i64 ((p : Int) + 1)) := by rw [hw1]; exact World.cell?_setCell_same _ _ _ c1
  have hset := hw1.symm
  have HR := Lib.hid hr1; clear hr1 hr
  have HZ := Lib.hid hz; clear hz
  have HA := Lib.hid hat; clear hat
  have HC := Lib.hid hchg; clear hchg
  clear hb hlt ha hw1
  by_cases h1 : k < 1
  · have d1 : decide (k < 1) = true := by simpa using h1
    have HP : Hid (PickRes k 0) := Lib.hid ⟨by omega, by omega⟩
    go_enter Try.func65, Try.ntmps65
    go_wp2
    go_ret
    exact ⟨0, rfl, HP.out, HA.out, HC.out⟩
  · have d1 : decide (k < 1) = false := by simpa using h1
    have hk1 : 1 ≤ k := by omega
    clear h1
    by_cases hn0 : n = 0
    · subst hn0
      have HP : Hid (PickRes k 0) := Lib.hid ⟨by omega, by omega⟩
      go_enter Try.func65, Try.ntmps65
      go_wp2
      go_ret
      exact ⟨0, rfl, HP.out, HA.out, HC.out⟩
    · have d2 : ((n : Int) == 0) = false := by simp; omega
      have hnp : 1 ≤ n := by omega
      clear hn0
      by_cases hpn : p < n
      · obtain ⟨b, off, x, rfl, hx, hcell⟩ := HR.out.at1 hpn
        obtain ⟨b1, b2⟩ := HZ.out _ _ hx
        clear hx
        have HP : Hid (PickRes k (x % k)) := Lib.hid ⟨Int.emod_nonneg _ (by omega), fun _ => Int.emod_lt_of_pos _ (by omega)⟩
        have hkz : (k == 0) = false := by simp; omega
        go_enter Try.func65, Try.ntmps65
        go_wp2
        go_ret
        exact ⟨_, rfl, HP.out, HA.out, HC.out⟩
      · have d3 : decide (p < n) = false := by simp; omega
        clear hpn
        obtain ⟨b, off, x, rfl, hx, hcx⟩ := HR.out.at1 (i := p % n) (Nat.mod_lt _ (by omega))
        obtain ⟨b', off', y, e, hy, hcy⟩ := HR.out.at1 (i := (p * 7 + 3) % n) (Nat.mod_lt _ (by omega))
        simp only [Option.some.injEq, Addr.mk.injEq, and_true] at e
        obtain ⟨rfl, rfl⟩ := e
        obtain ⟨b1, b2⟩ := HZ.out _ _ hx
        obtain ⟨b3, b4⟩ := HZ.out _ _ hy
        clear hx hy
        have hnn : (0 : Int) < (n : Int) := by omega
        have i1 : 0 ≤ (p : Int) % (n : Int) := Int.emod_nonneg _ (by omega)
        have i2 : (p : Int) % (n : Int) < (n : Int) := Int.emod_lt_of_pos _ hnn
        have i3 : 0 ≤ ((p : Int) * 7 + 3) % (n : Int) := Int.emod_nonneg _ (by omega)
        have i4 : ((p : Int) * 7 + 3) % (n : Int) < (n : Int) := Int.emod_lt_of_pos _ hnn
        have j0 : 0 ≤ (p : Int) / (n : Int) := Int.ediv_nonneg (by omega) (by omega)
        have j1 : (p : Int) / (n : Int) ≤ p := Int.ediv_le_self _ (by omega)
        have hkz : (k == 0) = false := by simp; omega
        obtain ⟨Z, hxor, z0, z1⟩ : ∃ Z : Int, bits .xor .i64 (x * 131 + y * 1117 + (p : Int) * 29 + (p : Int) / (n : Int) * 53) ((x * 131 + y * 1117 + (p : Int) * 29 + (p : Int) / (n : Int) * 53) / 64) = Z ∧ 0 ≤ Z ∧ Z ≤ 4611686018427387904 := by
          refine ⟨_, xor_i64 _ _ (by omega) (by omega) (by omega) (by omega), by omega, ?_⟩
          have hlt : (x * 131 + y * 1117 + (p : Int) * 29 + (p : Int) / (n : Int) * 53).toNat ^^^ ((x * 131 + y * 1117 + (p : Int) * 29 + (p : Int) / (n : Int) * 53) / 64).toNat < 2 ^ 62 := Nat.xor_lt_two_pow (by omega) (by omega)
          omega
        have HPk : Hid (PickRes k (Z % k)) := Lib.hid ⟨Int.emod_nonneg _ (by omega), fun _ => Int.emod_lt_of_pos _ (by omega)⟩
        go_enter Try.func65, Try.ntmps65
        go_wp2
        go_quiet (fail)
        go_wp2
        go_ret
        exact ⟨_, rfl, HPk.out, HA.out.grew (grew_drewN _ _), HC.out.trans (Chg.of_below (F := fun b => b = g) (grew_drewN _ _)) (fun _ _ h => h) (fun _ _ h => h)⟩

/-- Block `g` is a reader of a code, at most at place `P`. -/
def RdLe (w : World) (g P : Nat) : Prop := ∃ p, p ≤ P ∧ RdAt w g p
theorem RdLe.lt {w : World} {g P : Nat} (h : RdLe w g P) : g < w.heap.size := by
  obtain ⟨p, _, h⟩ := h
  exact h.lt
theorem RdLe.chg {w w' : World} {g P : Nat} {F : Nat → Prop} (h : RdLe w g P) (hc : Chg F w w') (hF : ∀ b, b ≤ g → ¬ F b) : RdLe w' g P := by
  obtain ⟨p, hp, h⟩ := h
  exact ⟨p, hp, h.chg hc hF⟩
theorem RdLe.grew {w w' : World} {g P : Nat} (h : RdLe w g P) (hb : Grew w w') : RdLe w' g P := h.chg (F := fun _ => False) (Chg.of_below hb) (fun _ _ hf => hf)
theorem RdLe.mono {w : World} {g P Q : Nat} (h : RdLe w g P) (hq : P ≤ Q) : RdLe w g Q := by
  obtain ⟨p, hp, h⟩ := h
  exact ⟨p, Nat.le_trans hp hq, h⟩

/-- Nothing old has changed but block `g`. -/
abbrev ChgG (g : Nat) (w w' : World) : Prop := Chg (fun b => b = g) w w'
theorem ChgG.trans {g : Nat} {a b c : World} (h : ChgG g a b) (k : ChgG g b c) : ChgG g a c := Chg.trans h k (fun _ _ h => h) (fun _ _ h => h)
theorem ChgG.grew {g : Nat} {a b c : World} (h : ChgG g a b) (k : Grew b c) : ChgG g a c := ChgG.trans h (Chg.of_below k)
theorem ChgG.refl (g : Nat) (a : World) : ChgG g a a := Chg.refl _ _
theorem ChgG.of_grew {g : Nat} {a b : World} (k : Grew a b) : ChgG g a b := Chg.of_below k

theorem pickLe (g P : Nat) (k : Int) (w : World) (h : RdLe w g P) (hp : P ≤ 1099511627776) (hk : k ≤ 1099511627776) :
    Calls Try.prog 65 #[.pointer (some ⟨g, 0, none⟩), .int .i64 k] w fun e w' => ∃ v : Int, e = .returned (.int .i64 v) ∧ PickRes k v ∧ RdLe w' g (P + 1) ∧ ChgG g w w' := by
  obtain ⟨p, hpP, h⟩ := h
  refine (pick g p k w h (by omega) hk).mono ?_
  rintro e w' ⟨v, rfl, h1, h2, h3⟩
  exact ⟨v, rfl, h1, ⟨p + 1, by omega, h2⟩, h3⟩

/-- One of the numbers of a literal, its place picked. -/
theorem lit_cell {w w' : World} {F : Nat → Prop} (zs : List Int) {e : TypeId} {v : Int} (h : Chg F (w.alloc (.cells (ints .i64 zs).toArray e)) w') (hF : ¬ F w.heap.size) (h0 : 0 ≤ v) (h1 : v < zs.length) :
    ∃ y ∈ zs, w'.cell? ⟨w.heap.size, v.toNat, none⟩ = some (.int .i64 y) := by
  have hlt : v.toNat < zs.length := by omega
  refine ⟨zs[v.toNat], List.getElem_mem hlt, ?_⟩
  have hb : w'.heap[w.heap.size]? = some (.cells (ints .i64 zs).toArray e) := by
    rw [h.block _ (by simp) hF]
    exact heap_alloc_new w _
  rw [cell_of_row w' _ _ _ _ _ hb]
  simp [ints, hlt]

theorem l20Open (a : Option Addr) (n cap : Nat) (zs : List Int) (w : World) (hr : Rd w a n 1 (ints .u8 zs)) (hz : Bs zs) (hc : n ≤ cap ∧ cap ≤ maxLen) :
    Calls Try.prog 62 #[.slice a n cap] w fun e w' => e = .returned (.pointer (some ⟨w.heap.size, 0, none⟩)) ∧ RdLe w' w.heap.size 0 ∧ Grew w w' := by
  obtain ⟨hc1, hc2⟩ := hc
  unfold maxLen at hc2
  have hold : ∀ x, a = some x → 1 ≤ n → x.block < w.heap.size := by
    intro x e hn
    obtain ⟨b, off, y, e2, _, hcell⟩ := hr.at1 (i := 0) (by omega)
    rw [e] at e2
    obtain rfl := Option.some.inj e2
    exact World.block_lt_of_cell? w _ hcell
  by_cases h : 2000 < n
  · obtain ⟨b, off, y, rfl, _, hcell⟩ := hr.at1 (i := 0) (by omega)
    have hd : (2000 : Int) < (n : Int) := by omega
    have hsub := hr.sub 0 2000 (by omega)
    simp only [Nat.add_zero, List.drop_zero] at hsub
    have HS := Lib.hid hsub; clear hsub
    have HO := Lib.hid hold; clear hold
    have HZ := Lib.hid (bs_take hz 2000); clear hz
    clear hr hcell
    go_enter Try.func62, Try.ntmps62
    go_wp2
    go_ret
    refine ⟨rfl, ⟨0, Nat.le_refl _, _, _, _, _, heap_alloc_new w _, HS.out.grew ((Below.refl _ _).alloc (Nat.le_refl _) _), HZ.out, Nat.le_refl _, fun x e _ => HO.out x e (by omega)⟩, (Below.refl _ _).alloc (Nat.le_refl _) _⟩
  · have hd : ¬ (2000 : Int) < (n : Int) := by omega
    have HO := Lib.hid hold; clear hold
    have HZ := Lib.hid hz; clear hz
    have HR := Lib.hid hr; clear hr
    go_enter Try.func62, Try.ntmps62
    go_wp2
    go_ret
    refine ⟨rfl, ⟨0, Nat.le_refl _, _, _, _, _, heap_alloc_new w _, HR.out.grew ((Below.refl _ _).alloc (Nat.le_refl _) _), HZ.out, by omega, fun x e _ => HO.out x e (by omega)⟩, (Below.refl _ _).alloc (Nat.le_refl _) _⟩

/-- What was returned: a number with a property; of the world behind: R. -/
def RetI (p : Int → Prop) (R : World → Prop) (e : Ending) (w' : World) : Prop := ∃ v : Int, e = .returned (.int .i64 v) ∧ p v ∧ R w'
/-- Go's numbers of the program. -/
def N16 (v : Int) : Prop := -32768 ≤ v ∧ v ≤ 32767

/-- A bool was returned; of the world behind: R. -/
def RetB (R : World → Prop) (e : Ending) (w' : World) : Prop := ∃ b : Bool, e = .returned (.bool b) ∧ R w'

theorem odd (g P : Nat) (k : Int) (w : World) (h : RdLe w g P) (hp : P ≤ 1099511627776) (hk : -1099511627776 ≤ k ∧ k ≤ 1099511627776) :
    Calls Try.prog 64 #[.pointer (some ⟨g, 0, none⟩), .int .i64 k] w (RetB fun w' => RdLe w' g (P + 1) ∧ ChgG g w w') := by
  obtain ⟨hk1, hk2⟩ := hk
  by_cases h9 : k < 9000
  · have hd : decide (k < 9000) = true := by simpa using h9
    go_enter Try.func64, Try.ntmps64
    go_wp2_with fail
    refine (pickLe g P k w h hp hk2).mono ?_
    rintro e w' ⟨v, rfl, h1, h2, h3⟩
    have H2 := Lib.hid h2; clear h2
    have H3 := Lib.hid h3; clear h3
    go_wp2
    go_ret
    exact ⟨_, rfl, H2.out, H3.out⟩
  · have hd : decide (k < 9000) = false := by simpa using h9
    have H2 := Lib.hid h; clear h
    go_enter Try.func64, Try.ntmps64
    go_wp2
    go_ret
    exact ⟨_, rfl, H2.out.mono (by omega), ChgG.refl _ _⟩

theorem l20Num (g P : Nat) (w : World) (h : RdLe w g P) (hp : P + 3 ≤ 1099511627776) :
    Calls Try.prog 113 #[.pointer (some ⟨g, 0, none⟩)] w (RetI N16 fun w' => RdLe w' g (P + 3) ∧ ChgG g w w') := by
  have HP := Lib.hid h; clear h
  go_enter Try.func113, Try.ntmps113
  go_wp2_with fail
  refine (pickLe g P _ w HP.out (by omega) (by omega)).mono ?_
  rintro e w1 ⟨v, rfl, ⟨h0, h1⟩, h2, h3⟩
  have h1 := h1 (by omega)
  have HP1 := Lib.hid h2; clear h2
  have HC1 := Lib.hid h3; clear h3
  have hv : v = 0 ∨ v = 1 ∨ v = 2 ∨ v = 3 := by omega
  rcases hv with rfl | rfl | rfl | rfl
  · go_wp2_with fail
    refine (pickLe g (P + 1) _ _ (HP1.out.grew ((Below.refl _ _).alloc (Nat.le_refl _) _)) (by omega) (by omega)).mono ?_
    rintro e w2 ⟨u, rfl, ⟨u0, u1⟩, h2, h3⟩
    have u1 := u1 (by omega)
    obtain ⟨y, hy, hcell⟩ := lit_cell [0, 1, -1, 2, 3, -2, 10, -10, 100] h3 (by have := HP1.out.lt; omega) u0 u1
    have HP2 := Lib.hid h2; clear h2
    have HC2 := Lib.hid ((HC1.out.grew ((Below.refl _ _).alloc (Nat.le_refl _) _)).trans h3); clear h3
    have HY := Lib.hid hy; clear hy
    go_wp2
    go_ret
    refine ⟨y, rfl, ?_, HP2.out.mono (by omega), HC2.out⟩
    have hy := HY.out
    simp at hy
    unfold N16
    omega
  · go_wp2_with fail
    refine (pickLe g (P + 1) _ _ HP1.out (by omega) (by omega)).mono ?_
    rintro e w2 ⟨u, rfl, ⟨u0, u1⟩, h2, h3⟩
    have u1 := u1 (by omega)
    have HP2 := Lib.hid h2; clear h2
    have HC2 := Lib.hid (HC1.out.trans h3); clear h3
    go_wp2
    go_ret
    exact ⟨_, rfl, by unfold N16; omega, HP2.out.mono (by omega), HC2.out⟩
  · go_wp2_with fail
    refine (pickLe g (P + 1) _ _ (HP1.out.grew ((Below.refl _ _).alloc (Nat.le_refl _) _)) (by omega) (by omega)).mono ?_
    rintro e w2 ⟨u, rfl, ⟨u0, u1⟩, h2, h3⟩
    have u1 := u1 (by omega)
    obtain ⟨y, hy, hcell⟩ := lit_cell [-32768, 32767, -32767, 32766, 1000, -1000, 255, 256, -255] h3 (by have := HP1.out.lt; omega) u0 u1
    have HP2 := Lib.hid h2; clear h2
    have HC2 := Lib.hid ((HC1.out.grew ((Below.refl _ _).alloc (Nat.le_refl _) _)).trans h3); clear h3
    have HY := Lib.hid hy; clear hy
    go_wp2
    go_ret
    refine ⟨y, rfl, ?_, HP2.out.mono (by omega), HC2.out⟩
    have hy := HY.out
    simp at hy
    unfold N16
    omega
  · go_wp2_with fail
    refine (pickLe g (P + 1) _ _ HP1.out (by omega) (by omega)).mono ?_
    rintro e w2 ⟨u, rfl, ⟨u0, u1⟩, h2, h3⟩
    have u1 := u1 (by omega)
    have HP2 := Lib.hid h2; clear h2
    have HC2 := Lib.hid (HC1.out.trans h3); clear h3
    go_wp2_with fail
    refine (pickLe g (P + 2) _ _ HP2.out (by omega) (by omega)).mono ?_
    rintro e w3 ⟨x, rfl, ⟨x0, x1⟩, h2, h3⟩
    have x1 := x1 (by omega)
    have HP3 := Lib.hid h2; clear h2
    have HC3 := Lib.hid (HC2.out.trans h3); clear h3
    go_wp2
    go_ret
    exact ⟨_, rfl, by unfold N16; omega, HP3.out.mono (by omega), HC3.out⟩

theorem intInfo : (Try.prog.info? 3).map (fun i => (i.zero, i.size, i.bytes)) = some (some (.int .i64 0), 1, 8) := by kernel_rfl
theorem intEl : El Try.prog 26 3 (.int .i64 0) 1 8 := El.mk' intInfo Try.underlying26 rfl (by omega)

/-- All are Go's numbers of the program. -/
def Ns (zs : List Int) : Prop := ∀ (i : Nat) (x : Int), zs[i]? = some x → N16 x

theorem Chg.to_g {g : Nat} {w w1 w2 : World} {row : Option Nat} (h : ChgG g w w1) (k : w1.grownBy w2 row) (hr : ∀ b, row = some b → w.heap.size ≤ b) : ChgG g w w2 :=
  Chg.trans h (Chg.of_grownBy k) (fun _ _ h => h) (fun i hi he => by have := hr i he; omega)



end Go.Proofs.Ytmcfengnihomcaa

/- A class of worlds for regions that draw their order: what has grown out of a world. No condition. -/
namespace Go.Proofs.Ytmcfengnihomcaa
open Go.RowKit
set_option linter.unusedVariables false

/-- What a world has grown into. -/
structure Gw (w : World) where
  val : World
  grew : Grew w val
instance (w : World) : Nonempty (Gw w) := ⟨⟨w, Below.refl _ _⟩⟩
/-- A world that has grown out of another one. -/
def ext (w : World) (x : Gw w) : World := x.val
theorem ext_grew (w : World) (x : Gw w) : Grew w (ext w x) := x.grew
theorem ext_cell (w : World) (x : Gw w) (a : Addr) (h : a.block < w.heap.size) : (ext w x).cell? a = w.cell? a := (ext_grew w x).cell h
theorem ext_cellD (w : World) (x : Gw w.drew) (a : Addr) (h : a.block < w.heap.size) : (ext w.drew x).cell? a = w.cell? a := ext_cell w.drew x a h
theorem ext_frozen (w : World) (x : Gw w) (a : Addr) (h : a.block < w.heap.size) : (ext w x).frozen? a = w.frozen? a := (ext_grew w x).frozen h

theorem ext_of {w w' : World} (h : Grew w w') : ∃ x, w' = ext w x := ⟨⟨w', h⟩, rfl⟩
theorem ext_size (w : World) (x : Gw w) : w.heap.size ≤ (ext w x).heap.size := (ext_grew w x).size
theorem ext_lt (w : World) (x : Gw w) (b : Nat) (h : b < w.heap.size) : b < (ext w x).heap.size := Nat.lt_of_lt_of_le h (ext_size w x)
theorem ext_le (w : World) (x : Gw w) (b : Nat) (h : b < w.heap.size) : b ≤ (ext w x).heap.size := Nat.le_of_lt (ext_lt w x b h)
theorem ext_le1 (w : World) (x : Gw w) (b k : Nat) (h : b < w.heap.size) : b ≤ (ext w x).heap.size + k := Nat.le_trans (ext_le w x b h) (Nat.le_add_right _ _)

theorem lt_s2 (n : Nat) : n < n + 1 + 1 := by omega
theorem lt_s3 (n : Nat) : n < n + 1 + 1 + 1 := by omega
theorem lt_s4 (n : Nat) : n < n + 1 + 1 + 1 + 1 := by omega
theorem lt_s5 (n : Nat) : n < n + 1 + 1 + 1 + 1 + 1 := by omega
theorem lt_s6 (n : Nat) : n < n + 1 + 1 + 1 + 1 + 1 + 1 := by omega
theorem ext_lt1 (w : World) (x : Gw w) (b i : Nat) (h : b < w.heap.size) : b < (ext w x).heap.size + i := Nat.lt_of_lt_of_le (ext_lt w x b h) (Nat.le_add_right _ _)
theorem ext_lt2 (w : World) (x : Gw w) (b i j : Nat) (h : b < w.heap.size) : b < (ext w x).heap.size + i + j := Nat.lt_of_lt_of_le (ext_lt1 w x b i h) (Nat.le_add_right _ _)
theorem ext_lt3 (w : World) (x : Gw w) (b i j k : Nat) (h : b < w.heap.size) : b < (ext w x).heap.size + i + j + k := Nat.lt_of_lt_of_le (ext_lt2 w x b i j h) (Nat.le_add_right _ _)
/-- What grows out of a grown world has grown out of the first. -/
theorem ext_col {w w' : World} {x : Gw w} (h : Grew (ext w x) w') : ∃ y, w' = ext w y := ⟨⟨w', x.grew.trans (h.mono x.grew.size)⟩, rfl⟩
theorem ext_cold {w w' : World} {x : Gw w} (h : Grew (ext w x).drew w') : ∃ y, w' = ext w y :=
  ext_col (w := w) (x := ⟨(ext w x).drew, x.grew.trans ((grew_drewN (ext w x) 1).mono x.grew.size)⟩) h
/-- A block that is there is there when blocks are added. -/
theorem lt3 {b n : Nat} (h : b < n) : b < n + 1 ∧ b < n + 1 + 1 ∧ b < n + 1 + 1 + 1 := by omega
/-! What has grown: goals 'Grew w W', W written out, close by 'grew_ext', 'grew_al', 'grew_dn', 'grew_set'. -/
theorem grew_ext {w W : World} (h : Grew w W) (x : Gw W) : Grew w (ext W x) := h.trans ((ext_grew W x).mono h.size)
theorem grew_al {w W : World} (h : Grew w W) (o : Obj) : Grew w (W.alloc o) := h.alloc h.size o
theorem grew_dn {w W : World} (h : Grew w W) (n : Nat) : Grew w (W.drewN n) := h.trans ((grew_drewN W n).mono h.size)
theorem grew_d {w W : World} (h : Grew w W) : Grew w W.drew := grew_dn h 1
theorem grew_set {w W : World} {b o : Nat} {s : Option Nat} (h : Grew w W) (hp : w.heap.size ≤ b) (u : Value) : Grew w (W.setCell ⟨b, o, s⟩ u) := h.setCell (p := ⟨b, o, s⟩) hp u
theorem grew_tr {w W W' : World} (h : Grew w W) (k : Grew W W') : Grew w W' := h.trans (k.mono h.size)
theorem owns_set {w : World} {B : Nat} {e : TypeId} {size n : Nat} {v : Value} {xs : List Value} (h : w.ownsRow B e size v n xs) {p : Addr} (hp : p.block < B) (u : Value) : (w.setCell p u).ownsRow B e size v n xs := by
  refine ⟨h.1, ?_⟩
  rcases h.2 with hn | ⟨g, cap, cur, rfl, hb, hg, r⟩
  · exact .inl hn
  · refine .inr ⟨g, cap, cur, rfl, hb, ?_, r⟩
    rw [Below.heap_setCell w p u g (by omega)]
    exact hg
theorem le_ext {n : Nat} {W : World} (x : Gw W) (h : n ≤ W.heap.size) : n ≤ (ext W x).heap.size := Nat.le_trans h (ext_size W x)
theorem le_al {n : Nat} {W : World} (o : Obj) (h : n ≤ W.heap.size) : n ≤ (W.alloc o).heap.size := by simp; omega
theorem le_pl {n m k : Nat} (h : n ≤ m) : n ≤ m + k := Nat.le_trans h (Nat.le_add_right _ _)

section
variable {P : Program} {f : FuncId} {args : Array Value} {w : World} {x : Gw w} {v : Value}
theorem ext_same (h : Calls P f args (ext w x) fun e w' => e = .returned v ∧ ext w x = w') : Calls P f args (ext w x) fun e w'' => e = .returned v ∧ ∃ y, w'' = ext w y :=
  h.mono fun _ _ ⟨he, hw⟩ => ⟨he, x, hw.symm⟩
theorem ext_grow (h : Calls P f args (ext w x) fun e w' => e = .returned v ∧ Grew (ext w x) w') : Calls P f args (ext w x) fun e w'' => e = .returned v ∧ ∃ y, w'' = ext w y :=
  h.mono fun _ w' ⟨he, hg⟩ => ⟨he, ⟨w', x.grew.trans (hg.mono x.grew.size)⟩, rfl⟩
theorem ext_draw (h : Calls P f args (ext w x) fun e w' => e = .returned v ∧ ∃ q, w' = (ext w x).drewN q) : Calls P f args (ext w x) fun e w'' => e = .returned v ∧ ∃ y, w'' = ext w y :=
  ext_grow (h.mono fun _ w' ⟨he, q, hq⟩ => ⟨he, by rw [hq]; exact grew_drewN _ q⟩)
end

/-- A region that draws its order, whose operations read and whose calls make new memory at most: one walk, in the order of the text. -/
theorem wp_region_ext {P : Program} {id : Nat} {Q : Exit → Act → World → Prop} {a : Act} {w : World} {l : List Oper} (hm : P.follows .mixedOrders = true) (hB : Region.lexB .any l.toArray = true)
    (h : wpQuiet P l.toArray (fun w' => ∃ x, w' = ext w x) (fun a' => ∀ w', (∃ x, w' = ext w x) → Q .normal a' w') l a) : (Code.region id l.toArray true).wp P Q a w :=
  wp_region_quiet (C := fun w' => ∃ x, w' = ext w x) hm hB ⟨⟨w.drewN 1, grew_drewN w 1⟩, rfl⟩ (by simpa using h)
/-- The same in a world that has grown already. -/
theorem wp_region_ext2 {P : Program} {id : Nat} {Q : Exit → Act → World → Prop} {a : Act} {w : World} {x : Gw w} {l : List Oper} (hm : P.follows .mixedOrders = true) (hB : Region.lexB .any l.toArray = true)
    (h : wpQuiet P l.toArray (fun w' => ∃ y, w' = ext w y) (fun a' => ∀ w', (∃ y, w' = ext w y) → Q .normal a' w') l a) : (Code.region id l.toArray true).wp P Q a (ext w x) :=
  wp_region_quiet (C := fun w' => ∃ y, w' = ext w y) hm hB ⟨⟨(ext w x).drewN 1, grew_dn (ext_grew w x) 1⟩, rfl⟩ (by simpa using h)
end Go.Proofs.Ytmcfengnihomcaa

/- A class of worlds for what draws: all old stands but the reader's block. No condition. -/
namespace Go.Proofs.Ytmcfengnihomcaa
open Go.RowKit
set_option linter.unusedVariables false

/-- What a world has become behind reading on in block g, up to place P. -/
structure Gd (g P : Nat) (W : World) where
  val : World
  chg : ChgG g W val
  rd : RdLe val g P
  lt : g < W.heap.size
section
variable {g P : Nat} {W : World}
def extg (x : Gd g P W) : World := x.val
theorem dg_cell (x : Gd g P W) (a : Addr) (h : a.block < W.heap.size) (hg : a.block ≠ g) : (extg x).cell? a = W.cell? a := World.cell?_of_block (w := W) (w' := x.val) (a := a) (x.chg.block _ h hg)
theorem dg_frozen (x : Gd g P W) (a : Addr) (h : a.block < W.heap.size) (hg : a.block ≠ g) : (extg x).frozen? a = W.frozen? a := by
  have := x.chg.block _ h hg
  unfold World.frozen? extg
  rw [this]
theorem dg_size (x : Gd g P W) : W.heap.size ≤ (extg x).heap.size := x.chg.size
theorem dg_lt (x : Gd g P W) (b : Nat) (h : b < W.heap.size) : b < (extg x).heap.size := Nat.lt_of_lt_of_le h (dg_size x)
theorem dg_lt1 (x : Gd g P W) (b i : Nat) (h : b < W.heap.size) : b < (extg x).heap.size + i := Nat.lt_of_lt_of_le (dg_lt x b h) (Nat.le_add_right _ _)
theorem dg_lt2 (x : Gd g P W) (b i j : Nat) (h : b < W.heap.size) : b < (extg x).heap.size + i + j := Nat.lt_of_lt_of_le (dg_lt1 x b i h) (Nat.le_add_right _ _)
theorem dg_gt (x : Gd g P W) : g < (extg x).heap.size := dg_lt x g x.lt
theorem dg_ne (x : Gd g P W) : ¬ (extg x).heap.size = g := by have := dg_gt x; omega
theorem dg_ne1 (x : Gd g P W) (i : Nat) : ¬ (extg x).heap.size + i = g := by have := dg_gt x; omega
theorem dg_ne2 (x : Gd g P W) (i j : Nat) : ¬ (extg x).heap.size + i + j = g := by have := dg_gt x; omega
theorem dg_new (x : Gd g P W) (b : Nat) (h : b < W.heap.size) : ¬ b = (extg x).heap.size := by have := dg_lt x b h; omega
theorem dg_wen (x : Gd g P W) (b : Nat) (h : b < W.heap.size) : ¬ (extg x).heap.size = b := by have := dg_lt x b h; omega
theorem extg_of {w' : World} (h : ChgG g W w') (r : RdLe w' g P) (l : g < W.heap.size) : ∃ x : Gd g P W, w' = extg x := ⟨⟨w', h, r, l⟩, rfl⟩
theorem extg_col {P' : Nat} {x : Gd g P' W} {w' : World} (h : ChgG g (extg x) w') (r : RdLe w' g P) (l : g < (extg x).heap.size) : ∃ x : Gd g P W, w' = extg x := ⟨⟨w', ChgG.trans x.chg h, r, x.lt⟩, rfl⟩
theorem rd_ext (x : Gd g P W) : RdLe (extg x) g P := x.rd
theorem rd_al (h : RdLe W g P) (o : Obj) : RdLe (W.alloc o) g P := h.grew (grew_al (Below.refl _ _) o)
theorem rd_drew (h : RdLe W g P) : RdLe W.drew g P := h.grew (grew_d (Below.refl _ _))
theorem rd_set {p : Addr} (h : RdLe W g P) (hp : g < p.block) (u : Value) : RdLe (W.setCell p u) g P :=
  h.chg (F := fun b => b = p.block) ⟨rfl, rfl, rfl, by simp, fun k hk hn => Below.heap_setCell W p u k hn⟩ (fun b hb e => by omega)
theorem chg_ext {w : World} (h : ChgG g w W) (x : Gd g P W) : ChgG g w (extg x) := ChgG.trans h x.chg
theorem chg_al {w : World} (h : ChgG g w W) (o : Obj) : ChgG g w (W.alloc o) := h.grew (grew_al (Below.refl _ _) o)
theorem chg_drew {w : World} (h : ChgG g w W) : ChgG g w W.drew := h.grew (grew_d (Below.refl _ _))
theorem chg_set {w : World} {p : Addr} (h : ChgG g w W) (hp : w.heap.size ≤ p.block) (u : Value) : ChgG g w (W.setCell p u) :=
  Chg.trans h (⟨rfl, rfl, rfl, by simp, fun k hk hn => Below.heap_setCell W p u k hn⟩ : Chg (fun b => b = p.block) W (W.setCell p u)) (fun _ _ h => h) (fun i hi e => by omega)
end
theorem dg_le {g P n : Nat} {W : World} (x : Gd g P W) (h : n ≤ W.heap.size) : n ≤ (extg x).heap.size := Nat.le_trans h (dg_size x)

theorem lit_get (zs : List Int) {j : Nat} (h : j < zs.length) : ∃ y ∈ zs, (ints .i64 zs)[j]? = some (.int .i64 y) := ⟨zs[j], List.getElem_mem h, by simp [ints, h]⟩
/-- A draw: what it returns has a property; the code was read on by c at most. -/
def RetG (p : Value → Prop) (g P : Nat) (w : World) (e : Ending) (w' : World) : Prop := ∃ v, e = .returned v ∧ p v ∧ RdLe w' g P ∧ ChgG g w w'
def IsNat (k : Int) (v : Value) : Prop := ∃ j : Nat, v = .int .i64 j ∧ (1 ≤ k → (j : Int) < k)
def IsInt (v : Value) : Prop := ∃ n : Int, v = .int .i64 n
def IsN16 (v : Value) : Prop := ∃ n : Int, v = .int .i64 n ∧ N16 n
def IsBool (v : Value) : Prop := ∃ b : Bool, v = .bool b
def IsItv (v : Value) : Prop := ∃ lo hi : Int, v = .agg #[.int .i64 lo, .int .i64 hi]
theorem pickG {g P : Nat} {k : Int} {w : World} (h : RdLe w g P) (hp : P ≤ 1099511627776) (hk : k ≤ 1099511627776) :
    Calls Try.prog 65 #[.pointer (some ⟨g, 0, none⟩), .int .i64 k] w (RetG (IsNat k) g (P + 1) w) := by
  refine (pickLe g P k w h hp hk).mono ?_
  rintro e w' ⟨v, rfl, ⟨h0, h1⟩, h2, h3⟩
  exact ⟨_, rfl, ⟨v.toNat, by rw [Int.toNat_of_nonneg h0], by rw [Int.toNat_of_nonneg h0]; exact h1⟩, h2, h3⟩
theorem numG {g P : Nat} {w : World} (h : RdLe w g P) (hp : P + 3 ≤ 1099511627776) :
    Calls Try.prog 113 #[.pointer (some ⟨g, 0, none⟩)] w (RetG IsN16 g (P + 3) w) :=
  (l20Num g P w h hp).mono fun e w' ⟨v, he, hv, h2, h3⟩ => ⟨_, he, ⟨v, rfl, hv⟩, h2, h3⟩
theorem oddG {g P : Nat} {k : Int} {w : World} (h : RdLe w g P) (hp : P ≤ 1099511627776) (hk : -1099511627776 ≤ k ∧ k ≤ 1099511627776) :
    Calls Try.prog 64 #[.pointer (some ⟨g, 0, none⟩), .int .i64 k] w (RetG IsBool g (P + 1) w) :=
  (odd g P k w h hp hk).mono fun e w' ⟨b, he, h2, h3⟩ => ⟨_, he, ⟨b, rfl⟩, h2, h3⟩
end Go.Proofs.Ytmcfengnihomcaa

/- A rule for regions that draw their order: each slot has a property, whatever the order. No condition. -/
namespace Go.Proofs.Ytmcfengnihomcaa
open Go.RowKit
set_option linter.unusedVariables false
set_option linter.unusedSimpArgs false

def dstOf (ops : Array Oper) (i : Nat) : Option Tmp := (ops[i]?).bind (·.dst)
/-- No guards, the order goes down, no slot twice. -/
def regB (ops : Array Oper) (n : Nat) : Bool :=
  (List.range ops.size).all fun i =>
    ((ops[i]?).map fun o => o.guard.isNone && (o.after.all fun e => !Region.binds .any e || decide (e.on < i)) && (match o.dst with | some d => decide (d < n) | none => true)).getD true &&
    (List.range ops.size).all fun j => i == j || (dstOf ops i).isNone || (dstOf ops i != dstOf ops j)
/-- What is listed has what it waits for listed. -/
def Clo (ops : Array Oper) (L : Array Bool) : Prop := ∀ (i : Nat) (o : Oper) (e : Edge), ops[i]? = some o → L.getD i false = true → e ∈ o.after.toList → Region.binds .any e = true → L.getD e.on false = true
structure RegSt (ops : Array Oper) (a0 : Act) (I : Array Bool → World → Prop) (R : Nat → World → Value → Prop) (L : Array Bool) (a : Act) (w : World) : Prop where
  inv : I L w
  size : L.size = ops.size
  asz : a.tmps.size = a0.tmps.size
  defs : a.defers = a0.defers
  frame : ∀ d, (∀ i, dstOf ops i ≠ some d) → a.tmps.getD d undef = a0.tmps.getD d undef
  slots : ∀ i d, L.getD i false = true → dstOf ops i = some d → R i w (a.tmps.getD d undef)
  clo : Clo ops L
def putAll (ops : List Oper) (vs : Nat → Value) (k : Nat) (a : Act) : Act := match ops with
  | [] => a
  | o :: os => putAll os vs (k + 1) (a.put o.dst (vs k))

theorem put_size (a : Act) (d : Option Tmp) (v : Value) : (a.put d v).tmps.size = a.tmps.size := by cases d <;> simp [Act.put]
theorem put_defers (a : Act) (d : Option Tmp) (v : Value) : (a.put d v).defers = a.defers := by cases d <;> simp [Act.put]
theorem put_getD (a : Act) (d : Tmp) (v : Value) (t : Tmp) (h : d < a.tmps.size) : (a.put (some d) v).tmps.getD t undef = if d = t then v else a.tmps.getD t undef := by
  simp only [Act.put, Array.getD_eq_getD_getElem?, Array.getElem?_setIfInBounds]
  split
  · subst_vars
    simp [h]
  · rfl
theorem putAll_size (vs : Nat → Value) : ∀ (ops : List Oper) (k : Nat) (a : Act), (putAll ops vs k a).tmps.size = a.tmps.size
  | [], _, _ => rfl
  | o :: os, k, a => by rw [putAll, putAll_size vs os, put_size]
theorem putAll_defers (vs : Nat → Value) : ∀ (ops : List Oper) (k : Nat) (a : Act), (putAll ops vs k a).defers = a.defers
  | [], _, _ => rfl
  | o :: os, k, a => by rw [putAll, putAll_defers vs os, put_defers]
/-- A slot behind all: its own value, if one of the operations has it. -/
theorem putAll_getD (vs : Nat → Value) (u : Tmp → Value) : ∀ (ops : List Oper) (k : Nat) (a : Act), (∀ (i : Nat) (o : Oper) (d : Tmp), ops[i]? = some o → o.dst = some d → d < a.tmps.size ∧ vs (k + i) = u d) →
    ∀ t : Tmp, (∃ (i : Nat) (o : Oper), ops[i]? = some o ∧ o.dst = some t) ∧ (putAll ops vs k a).tmps.getD t undef = u t ∨ (∀ (i : Nat) (o : Oper), ops[i]? = some o → o.dst ≠ some t) ∧ (putAll ops vs k a).tmps.getD t undef = a.tmps.getD t undef
  | [], k, a, h, t => .inr ⟨fun i o ho => by simp at ho, rfl⟩
  | o :: os, k, a, h, t => by
    have ih := putAll_getD vs u os (k + 1) (a.put o.dst (vs k)) (fun i o' d h1 h2 => by
      have := h (i + 1) o' d (by rw [List.getElem?_cons_succ]; exact h1) h2
      rw [put_size]
      exact ⟨this.1, by rw [show k + 1 + i = k + (i + 1) from by omega]; exact this.2⟩) t
    rcases ih with ⟨⟨i, o', h1, h2⟩, h3⟩ | ⟨h1, h2⟩
    · exact .inl ⟨⟨i + 1, o', by rw [List.getElem?_cons_succ]; exact h1, h2⟩, by rw [putAll]; exact h3⟩
    · cases hd : o.dst with
      | none =>
        refine .inr ⟨fun i o' ho => ?_, by rw [putAll, h2, hd]; rfl⟩
        cases i with
        | zero => simp only [List.getElem?_cons_zero, Option.some.injEq] at ho; subst ho; rw [hd]; simp
        | succ i => exact h1 i o' (by rw [List.getElem?_cons_succ] at ho; exact ho)
      | some d =>
        have hh := h 0 o d (by simp) hd
        rw [hd, put_getD _ _ _ _ hh.1] at h2
        by_cases ht : d = t
        · subst ht
          rw [if_pos rfl] at h2
          exact .inl ⟨⟨0, o, by simp, hd⟩, by rw [putAll, hd, h2]; exact hh.2⟩
        · rw [if_neg ht] at h2
          refine .inr ⟨fun i o' ho => ?_, by rw [putAll, hd, h2]⟩
          cases i with
          | zero => simp only [List.getElem?_cons_zero, Option.some.injEq] at ho; subst ho; rw [hd]; simpa using ht
          | succ i => exact h1 i o' (by rw [List.getElem?_cons_succ] at ho; exact ho)

section
variable {P : Program} {ops : Array Oper} {Q : Exit → Act → World → Prop} {a0 : Act} {I : Array Bool → World → Prop} {R : Nat → World → Value → Prop}
theorem regB_op {n : Nat} (h : regB ops n = true) {i : Nat} {o : Oper} (ho : ops[i]? = some o) : o.guard = none ∧ (∀ e, e ∈ o.after.toList → Region.binds .any e = true → e.on < i) ∧ (∀ d, o.dst = some d → d < n) := by
  have hi : i < ops.size := (Array.getElem?_eq_some_iff.1 ho).1
  simp only [regB, List.all_eq_true, List.mem_range] at h
  have h1 := h i hi
  rw [ho] at h1
  simp only [Option.map_some, Option.getD_some, Bool.and_eq_true, Option.isNone_iff_eq_none, Array.all_eq_true', decide_eq_true_eq] at h1
  refine ⟨h1.1.1.1, fun e he hb => ?_, fun d hd => ?_⟩
  · have := h1.1.1.2 e (by simpa using he)
    simpa [hb] using this
  have := h1.1.2
  rw [hd] at this
  simpa using this
theorem regB_ne {n : Nat} (h : regB ops n = true) {i j : Nat} {d : Tmp} (hi : dstOf ops i = some d) (hij : i ≠ j) : dstOf ops j ≠ some d := by
  intro hj
  have hi' : i < ops.size := by
    rcases Nat.lt_or_ge i ops.size with h | h
    · exact h
    · simp [dstOf, Array.getElem?_eq_none h] at hi
  have hj' : j < ops.size := by
    rcases Nat.lt_or_ge j ops.size with h | h
    · exact h
    · simp [dstOf, Array.getElem?_eq_none h] at hj
  simp only [regB, List.all_eq_true, List.mem_range, Bool.and_eq_true] at h
  have h1 := (h i hi').2 j hj'
  rw [hi, hj] at h1
  simp [hij] at h1

/-- One operation, alone. -/
def StepOk (P : Program) (ops : Array Oper) (Q : Exit → Act → World → Prop) (a0 : Act) (I : Array Bool → World → Prop) (R : Nat → World → Value → Prop) (i : Nat) (o : Oper) : Prop :=
  ∀ (L : Array Bool) (a : Act) (w : World), L.size = ops.size → i < ops.size → L.getD i true = false → Clo ops L → I L w → (∀ d, (∀ i, dstOf ops i ≠ some d) → a.eval (.tmp d) = a0.eval (.tmp d)) →
    (∀ e, e ∈ o.after.toList → Region.binds .any e = true → L.getD e.on false = true ∧ ∀ d, dstOf ops e.on = some d → R e.on w (a.eval (.tmp d))) →
    o.wp P a w (fun a' w' => ∃ v, a' = a.put o.dst v ∧ R i w' v ∧ I (L.setIfInBounds i true) w' ∧ ∀ j u, j ≠ i → R j w u → R j w' u) Q

theorem wpAny_reg (hB : regB ops a0.tmps.size = true) (hstep : ∀ i o, ops[i]? = some o → StepOk P ops Q a0 I R i o)
    (hend : ∀ a w, (∀ L, RegSt ops a0 I R L a w → (∀ i, i < ops.size → L.getD i false = true) → Q .normal a w)) :
    ∀ (fuel : Nat) (L : Array Bool) (a : Act) (w : World), RegSt ops a0 I R L a w → L.toList.countP (fun b => !b) ≤ fuel → wpAny P .any ops Q fuel L a w := by
  have hall : ∀ L : Array Bool, L.size = ops.size → Region.ready .any ops L = [] → ∀ i, i < ops.size → L.getD i false = true := by
    intro L hL hr i
    induction i using Nat.strongRecOn with
    | _ i ih =>
      intro hi
      by_cases hl : L.getD i true = true
      · simp only [Array.getD_eq_getD_getElem?] at hl ⊢
        rw [Array.getElem?_eq_getElem (by omega)] at hl ⊢
        exact hl
      · exfalso
        have ho : ops[i]? = some ops[i] := Array.getElem?_eq_getElem hi
        have hmem : i ∈ Region.ready .any ops L := by
          unfold Region.ready
          rw [List.mem_filter]
          refine ⟨List.mem_range.2 hi, ?_⟩
          rw [ho]
          simp only [Option.map_some, Option.getD_some, Bool.and_eq_true]
          refine ⟨by simpa using hl, ?_⟩
          rw [Array.all_eq_true']
          intro e he
          cases hb : Region.binds .any e
          · simp
          have hlt := (regB_op hB ho).2.1 e (by simpa using he) hb
          rw [ih e.on hlt (by omega)]
          simp
        rw [hr] at hmem
        cases hmem
  intro fuel
  induction fuel with
  | zero =>
    intro L a w hS hc
    have hl : ∀ i, i < ops.size → L.getD i false = true := by
      intro i hi
      have h0 : L.toList.countP (fun b => !b) = 0 := by omega
      rw [List.countP_eq_zero] at h0
      have hi' : i < L.size := by rw [hS.size]; exact hi
      have := h0 L[i] (by simp)
      simp only [Array.getD_eq_getD_getElem?, Array.getElem?_eq_getElem hi', Option.getD_some]
      simpa using this
    refine ⟨?_, hend a w L hS hl⟩
    unfold Region.ready
    rw [List.filter_eq_nil_iff]
    intro i hi
    have := hl i (List.mem_range.1 hi)
    have hi' : i < L.size := by rw [hS.size]; exact List.mem_range.1 hi
    simp only [Array.getD_eq_getD_getElem?, Array.getElem?_eq_getElem hi', Option.getD_some] at this ⊢
    simp [this]
  | succ fuel ih =>
    intro L a w hS hc
    refine ⟨fun hr => hend a w L hS (hall L hS.size hr), fun i hi => ?_⟩
    unfold Region.ready at hi
    rw [List.mem_filter] at hi
    obtain ⟨hi1, hi2⟩ := hi
    have hi1 := List.mem_range.1 hi1
    have ho : ops[i]? = some ops[i] := Array.getElem?_eq_getElem hi1
    rw [ho] at hi2
    simp only [Option.map_some, Option.getD_some, Bool.and_eq_true, Bool.not_eq_true', Array.all_eq_true'] at hi2
    obtain ⟨hf, haf⟩ := hi2
    have hiL : i < L.size := by rw [hS.size]; exact hi1
    have hLi : L[i] = false := by simpa only [Array.getD_eq_getD_getElem?, Array.getElem?_eq_getElem hiL, Option.getD_some] using hf
    obtain ⟨hgd, hon, hdr⟩ := regB_op hB ho
    have hst := hstep i _ ho L a w hS.size hi1 hf hS.clo hS.inv (fun d hd => hS.frame d hd) (fun e he hb => have hl : L.getD e.on false = true := (by
      have := haf e (by simpa using he)
      rw [hb] at this
      simpa using this); ⟨hl, fun d hd => hS.slots e.on d hl hd⟩)
    unfold wpOp
    rw [ho]
    simp only
    rw [if_pos (by simp [Region.wanted, hgd])]
    left
    refine Oper.wp_mono (fun a' w' h => ?_) hst
    obtain ⟨v, rfl, hv, hI, hm⟩ := h
    apply ih
    · refine ⟨hI, by simp [hS.size], by rw [put_size, hS.asz], by rw [put_defers, hS.defs], fun d hd => ?_, fun j d hj hd => ?_, fun j oj e hoj hj he hb => ?_⟩
      · cases hdo : ops[i].dst with
        | none => exact hS.frame d hd
        | some d' =>
          rw [put_getD _ _ _ _ (by rw [hS.asz]; exact hdr d' hdo), if_neg (fun e => hd i (by simp [dstOf, ho, hdo, e]))]
          exact hS.frame d hd
      · by_cases hij : i = j
        · subst hij
          have hdo : ops[i].dst = some d := by simpa [dstOf, ho] using hd
          rw [hdo, put_getD _ _ _ _ (by rw [hS.asz]; exact hdr d hdo), if_pos rfl]
          exact hv
        · have hj' : L.getD j false = true := by
            simp only [Array.getD_eq_getD_getElem?, Array.getElem?_setIfInBounds] at hj ⊢
            rwa [if_neg hij] at hj
          have hb := hS.slots j d hj' hd
          cases hdo : ops[i].dst with
          | none => exact hm j _ (Ne.symm hij) hb
          | some d' =>
            have hne : d' ≠ d := fun e => regB_ne hB hd (Ne.symm hij) (by simp [dstOf, ho, hdo, e])
            rw [put_getD _ _ _ _ (by rw [hS.asz]; exact hdr d' hdo), if_neg hne]
            exact hm j _ (Ne.symm hij) hb
      · have hmono : ∀ m, L.getD m false = true → (L.setIfInBounds i true).getD m false = true := fun m hm => by
          by_cases him : i = m
          · subst him
            simp [Array.getD_eq_getD_getElem?, hiL]
          · simp only [Array.getD_eq_getD_getElem?, Array.getElem?_setIfInBounds, if_neg him] at hm ⊢
            exact hm
        by_cases hij : i = j
        · subst hij
          rw [ho, Option.some.injEq] at hoj
          subst hoj
          have := haf e (by simpa using he)
          rw [hb] at this
          exact hmono _ (by simpa using this)
        · have hj' : L.getD j false = true := by
            simp only [Array.getD_eq_getD_getElem?, Array.getElem?_setIfInBounds, if_neg hij] at hj ⊢
            exact hj
          exact hmono _ (hS.clo j oj e hoj hj' he hb)
    · rw [Array.toList_setIfInBounds, List.countP_set (by simpa using hiL)]
      have : 0 < L.toList.countP (fun b => !b) := by
        rw [List.countP_pos_iff]
        exact ⟨L[i], by simp, by rw [hLi]; rfl⟩
      have e1 : (!L.toList[i]'(by simpa using hiL)) = true := by rw [Array.getElem_toList, hLi]; rfl
      rw [if_pos e1]
      have e2 : (if (!true) = true then 1 else 0) = 0 := rfl
      rw [e2]
      omega

/-- A region that draws its order, by its operations alone: behind it each slot has its property. -/
theorem wp_region_inv {id : Nat} {w : World} (I : Array Bool → World → Prop) (R : Nat → World → Value → Prop) (hm : P.follows .mixedOrders = true) (hB : regB ops a0.tmps.size = true) (hI : I (Array.replicate ops.size false) { w with drawn := w.drawn + 1 })
    (hstep : ∀ i o, ops[i]? = some o → StepOk P ops Q a0 I R i o)
    (hend : ∀ (vs : Nat → Value) (w' : World), (∃ L : Array Bool, I L w' ∧ ∀ i, i < ops.size → L.getD i false = true) → (∀ i d, dstOf ops i = some d → R i w' (vs i)) → Q .normal (putAll ops.toList vs 0 a0) w') : (Code.region id ops true).wp P Q a0 w := by
  refine wp_region_any hm (wpAny_reg hB hstep ?_ _ _ _ _ ⟨hI, by simp, rfl, rfl, fun d _ => rfl, fun i d hi hd => ?_, fun i o e _ hi _ _ => ?_⟩ ?_)
  · intro a w' L hS hl
    have hI' := hS.inv
    have hR : ∀ i d, dstOf ops i = some d → R i w' (a.tmps.getD d undef) := fun i d hd => hS.slots i d (hl i (by
      rcases Nat.lt_or_ge i ops.size with h | h
      · exact h
      · simp [dstOf, Array.getElem?_eq_none h] at hd)) hd
    have heq : a = putAll ops.toList (fun i => match dstOf ops i with | some d => a.tmps.getD d undef | none => undef) 0 a0 := by
      have hpa := putAll_getD (fun i => match dstOf ops i with | some d => a.tmps.getD d undef | none => undef) (fun d => a.tmps.getD d undef) ops.toList 0 a0 (fun i o d h1 h2 => by
        have ho : ops[i]? = some o := by simpa using h1
        refine ⟨(regB_op hB ho).2.2 d h2, ?_⟩
        have : dstOf ops i = some d := by simp [dstOf, ho, h2]
        rw [Nat.zero_add]
        simp only [this])
      have hsz := putAll_size (fun i => match dstOf ops i with | some d => a.tmps.getD d undef | none => undef) ops.toList 0 a0
      have hdf := putAll_defers (fun i => match dstOf ops i with | some d => a.tmps.getD d undef | none => undef) ops.toList 0 a0
      generalize putAll ops.toList (fun i => match dstOf ops i with | some d => a.tmps.getD d undef | none => undef) 0 a0 = b at *
      have ht : a.tmps = b.tmps := by
        apply Array.ext
        · rw [hS.asz, hsz]
        · intro t h1 h2
          have e1 : a.tmps[t] = a.tmps.getD t undef := by simp [Array.getD_eq_getD_getElem?, Array.getElem?_eq_getElem h1]
          have e2 : b.tmps[t] = b.tmps.getD t undef := by simp [Array.getD_eq_getD_getElem?, Array.getElem?_eq_getElem h2]
          rw [e1, e2]
          rcases hpa t with ⟨_, h3⟩ | ⟨h3, h4⟩
          · exact h3.symm
          · rw [h4]
            exact hS.frame t (fun i hi => by
              cases ho : ops[i]? with
              | none => simp [dstOf, ho] at hi
              | some o => exact h3 i o (by simpa using ho) (by simpa [dstOf, ho] using hi))
      cases a
      cases b
      simp only at ht hdf
      have := hS.defs
      simp only at this
      rw [ht, this, hdf]
    rw [heq]
    refine hend _ w' ⟨L, hI', hl⟩ (fun i d hd => ?_)
    have := hR i d hd
    simp only [hd]
    exact this
  · simp only [Array.getD_eq_getD_getElem?, Array.getElem?_replicate] at hi
    split at hi <;> simp at hi
  · simp only [Array.getD_eq_getD_getElem?, Array.getElem?_replicate] at hi
    split at hi <;> simp at hi
  · simp only [Array.toList_replicate]
    exact Nat.le_trans (List.countP_le_length) (by simp)
end

def AllSteps (f : Nat → Oper → Prop) : Nat → List Oper → Prop
  | _, [] => True
  | k, o :: os => f k o ∧ AllSteps f (k + 1) os
theorem allSteps_get {f : Nat → Oper → Prop} : ∀ (os : List Oper) (k : Nat), AllSteps f k os → ∀ i o, os[i]? = some o → f (k + i) o
  | [], _, _, i, o, h => by simp at h
  | o :: os, k, hA, 0, o', h => by
    simp only [List.getElem?_cons_zero, Option.some.injEq] at h
    subst h
    exact hA.1
  | o :: os, k, hA, i + 1, o', h => by
    rw [List.getElem?_cons_succ] at h
    have := allSteps_get os (k + 1) hA.2 i o' h
    rwa [show k + 1 + i = k + (i + 1) from by omega] at this

/-- What has been read of the code. -/
def costL (c : Nat → Nat) (L : Array Bool) : Nat := ((List.range L.size).map fun i => if L.getD i false then c i else 0).sum
def costAll (c : Nat → Nat) (n : Nat) : Nat := ((List.range n).map c).sum
theorem reg_sum_le {f g : Nat → Nat} : ∀ l : List Nat, (∀ i, i ∈ l → f i ≤ g i) → (l.map f).sum ≤ (l.map g).sum
  | [], _ => Nat.le_refl _
  | i :: l, h => by
    simp only [List.map_cons, List.sum_cons]
    exact Nat.add_le_add (h i (by simp)) (reg_sum_le l (fun j hj => h j (by simp [hj])))
theorem costL_le (c : Nat → Nat) (L : Array Bool) : costL c L ≤ costAll c L.size := by
  refine reg_sum_le _ (fun i _ => ?_)
  split <;> omega
theorem reg_sum_one {f g : Nat → Nat} {i m : Nat} : ∀ l : List Nat, l.Nodup → i ∈ l → (∀ j, j ∈ l → j ≠ i → f j = g j) → f i = g i + m → (l.map f).sum = (l.map g).sum + m
  | [], _, hi, _, _ => by cases hi
  | j :: l, hn, hi, h, hm => by
    simp only [List.map_cons, List.sum_cons]
    rw [List.nodup_cons] at hn
    by_cases hj : j = i
    · subst hj
      have : (l.map f).sum = (l.map g).sum := by
        congr 1
        exact List.map_congr_left fun k hk => h k (by simp [hk]) (fun e => hn.1 (e ▸ hk))
      omega
    · have hil : i ∈ l := by
        rcases List.mem_cons.1 hi with h | h
        · exact absurd h.symm hj
        · exact h
      have := reg_sum_one l hn.2 hil (fun k hk hne => h k (by simp [hk]) hne) hm
      have h2 := h j (by simp) hj
      omega
theorem costL_set (c : Nat → Nat) (L : Array Bool) {i : Nat} (hi : i < L.size) (hf : L.getD i true = false) : costL c (L.setIfInBounds i true) = costL c L + c i := by
  unfold costL
  rw [Array.size_setIfInBounds]
  refine reg_sum_one (i := i) _ List.nodup_range (List.mem_range.2 hi) (fun j hj hne => ?_) ?_
  · simp only [Array.getD_eq_getD_getElem?, Array.getElem?_setIfInBounds, if_neg (Ne.symm hne)]
  · simp only [Array.getD_eq_getD_getElem?, Array.getElem?_setIfInBounds, if_pos, hi, Array.getElem?_eq_getElem hi, Option.getD_some] at hf ⊢
    rw [hf]
    simp
theorem no_list {L : Array Bool} {n i : Nat} (hs : L.size = n) (hi : i < n) (h : L.getD i true = false) : L.getD i false = false := by
  have hi' : i < L.size := by omega
  simpa only [Array.getD_eq_getD_getElem?, Array.getElem?_eq_getElem hi', Option.getD_some] using h
theorem getD_set {L : Array Bool} {i j : Nat} {d : Bool} (h : i ≠ j) : (L.setIfInBounds i true).getD j d = L.getD j d := by
  simp only [Array.getD_eq_getD_getElem?, Array.getElem?_setIfInBounds, if_neg h]
theorem getD_set1 {L : Array Bool} {i : Nat} {d : Bool} (h : i < L.size) : (L.setIfInBounds i true).getD i d = true := by
  simp [Array.getD_eq_getD_getElem?, h]
theorem wp_region_invL {P : Program} {ops : Array Oper} {Q : Exit → Act → World → Prop} {a0 : Act} {id : Nat} {w : World} (n : Nat) (I : Array Bool → World → Prop) (R : Nat → World → Value → Prop) (hm : P.follows .mixedOrders = true) (hn : a0.tmps.size = n) (hB : regB ops n = true) (hI : I (Array.replicate ops.size false) w.drew)
    (hstep : AllSteps (StepOk P ops Q a0 I R) 0 ops.toList)
    (hend : ∀ (vs : Nat → Value) (w' : World), (∃ L : Array Bool, I L w' ∧ ∀ i, i < ops.size → L.getD i false = true) → (∀ i d, dstOf ops i = some d → R i w' (vs i)) → Q .normal (putAll ops.toList vs 0 a0) w') : (Code.region id ops true).wp P Q a0 w := by
  subst hn
  exact wp_region_inv I R hm hB hI (fun i o ho => by have := allSteps_get _ _ hstep i o (by simpa using ho); rwa [Nat.zero_add] at this) hend
end Go.Proofs.Ytmcfengnihomcaa

/- A block that is known whole. No condition. -/
namespace Go.Proofs.Ytmcfengnihomcaa
open Go.RowKit
set_option linter.unusedVariables false

/-! A block that is known whole. -/
def Blk (w : World) (g : Nat) (t : TypeId) (cs : Array Value) : Prop := w.heap[g]? = some (.cells cs t (0, 0))
section
variable {w w' : World} {g : Nat} {t : TypeId} {cs : Array Value}
theorem Blk.lt (h : Blk w g t cs) : g < w.heap.size := by
  rcases Nat.lt_or_ge g w.heap.size with hlt | hge
  · exact hlt
  · unfold Blk at h; rw [Array.getElem?_eq_none hge] at h; cases h
theorem Blk.cell (h : Blk w g t cs) (i : Nat) : w.cell? ⟨g, i, none⟩ = cs[i]? := cell_of_row w g i cs t (0, 0) h
theorem Blk.frozen (h : Blk w g t cs) (i : Nat) : w.frozen? ⟨g, i, none⟩ = false := by
  unfold Blk at h
  simp [World.frozen?, h]
theorem Blk.new (w : World) (t : TypeId) (cs : Array Value) : Blk (w.alloc (.cells cs t)) w.heap.size t cs := heap_alloc_new w _
theorem Blk.grew (h : Blk w g t cs) (hb : Grew w w') : Blk w' g t cs := (hb.block g h.lt).trans h
theorem Blk.alloc (h : Blk w g t cs) (o : Obj) : Blk (w.alloc o) g t cs := (Below.heap_alloc w o g h.lt).trans h
theorem Blk.set_ (h : Blk w g t cs) (i : Nat) (u : Value) : Blk (w.setCell ⟨g, i, none⟩ u) g t (cs.setIfInBounds i u) := by
  unfold Blk at h ⊢
  simp [World.setCell, Array.getElem?_modify, h]
theorem Blk.far (h : Blk w g t cs) {p : Addr} (hp : g ≠ p.block) (u : Value) : Blk (w.setCell p u) g t cs := (Below.heap_setCell w p u g hp).trans h
theorem Blk.chg {F : Nat → Prop} (h : Blk w g t cs) (hb : Chg F w w') (hF : ¬ F g) : Blk w' g t cs := (hb.block g h.lt hF).trans h
end
theorem blk_row_ne {w : World} {g base size n : Nat} {t e : TypeId} {cs : Array Value} {v : Value} {xs : List Value} (h : Blk w g t cs) (ho : w.ownsRow base e size v n xs) (hne : t ≠ e) : v.ownBlock ≠ some g := by
  intro hb
  rcases ho.2 with ⟨rfl, _⟩ | ⟨g', cap, cur, rfl, _, h3, _⟩
  · cases hb
  simp only [Value.ownBlock, Option.some.injEq] at hb
  subst hb
  have h1 : w.heap[g']? = _ := h
  rw [h1] at h3
  simp only [Option.some.injEq, Obj.cells.injEq] at h3
  exact hne h3.2.1
/-- Rows of two types lie in two blocks. -/
theorem row_row_ne {w : World} {B B' size size' n n' : Nat} {e e' : TypeId} {v v' : Value} {xs xs' : List Value} (h : w.ownsRow B e size v n xs) (h' : w.ownsRow B' e' size' v' n' xs') (hne : e ≠ e') {b : Nat} (hb : v.ownBlock = some b) : v'.ownBlock ≠ some b := by
  rcases h.2 with ⟨rfl, _⟩ | ⟨g, cap, cur, rfl, _, h3, _⟩
  · cases hb
  · simp only [Value.ownBlock, Option.some.injEq] at hb
    subst hb
    exact blk_row_ne (h := h3) h' hne
end Go.Proofs.Ytmcfengnihomcaa

/- Data with depth: slices of structs that read as lists; how arguments are opened to them. No condition. -/
namespace Go.Proofs.Ytmcfengnihomcaa
open Go.RowKit Go.ChangeShapes Go.WideShapes Go.Deep
set_option linter.unusedVariables false

/-- A slice of `n` elements of `C` cells each reads as the list `xs`, each element's cells as 'E' says. -/
def RdL {α : Type} (E : World → List Value → α → Prop) (C : Nat) (w : World) (a : Option Addr) (n : Nat) (xs : List α) : Prop :=
  xs.length = n ∧ (n = 0 ∨ ∃ b off, a = some ⟨b, off, none⟩ ∧ ∀ k x, xs[k]? = some x → ∃ cs, cs.length = C ∧ (∀ j u, cs[j]? = some u → w.cell? ⟨b, off + k * C + j, none⟩ = some u) ∧ E w cs x)
/-- What is said of an element stays when the world grows. -/
def Stays {α : Type} (E : World → List Value → α → Prop) : Prop := ∀ w w' cs x, Grew w w' → E w cs x → E w' cs x

section
variable {α : Type} {E : World → List Value → α → Prop} {C : Nat} {w w' : World} {a : Option Addr} {n : Nat} {xs : List α}
theorem RdL.len (h : RdL E C w a n xs) : xs.length = n := h.1
theorem RdL.nil (E : World → List Value → α → Prop) (C : Nat) (w : World) (a : Option Addr) : RdL E C w a 0 [] := ⟨rfl, .inl rfl⟩
theorem RdL.at_ (h : RdL E C w a n xs) {k : Nat} (hk : k < n) : ∃ b off x cs, a = some ⟨b, off, none⟩ ∧ xs[k]? = some x ∧ cs.length = C ∧ (∀ j u, cs[j]? = some u → w.cell? ⟨b, off + k * C + j, none⟩ = some u) ∧ E w cs x := by
  obtain ⟨hl, h0 | ⟨b, off, rfl, hc⟩⟩ := h
  · omega
  · have hx : xs[k]? = some (xs[k]'(by omega)) := List.getElem?_eq_getElem (by omega)
    obtain ⟨cs, h1, h2, h3⟩ := hc k _ hx
    exact ⟨b, off, _, cs, rfl, hx, h1, h2, h3⟩
theorem RdL.mono (hE : ∀ cs x, E w cs x → E w' cs x) (hk : ∀ b o u, w.cell? ⟨b, o, none⟩ = some u → (∃ o', a = some ⟨b, o', none⟩) → w'.cell? ⟨b, o, none⟩ = some u) (h : RdL E C w a n xs) : RdL E C w' a n xs := by
  refine ⟨h.1, ?_⟩
  rcases h.2 with h0 | ⟨b, off, rfl, hc⟩
  · exact .inl h0
  · refine .inr ⟨b, off, rfl, fun k x hx => ?_⟩
    obtain ⟨cs, h1, h2, h3⟩ := hc k x hx
    exact ⟨cs, h1, fun j u hu => hk _ _ _ (h2 j u hu) ⟨_, rfl⟩, hE _ _ h3⟩
theorem RdL.grew (hE : Stays E) (h : RdL E C w a n xs) (hg : Grew w w') : RdL E C w' a n xs :=
  h.mono (fun cs x => hE _ _ _ _ hg) fun b o u hu _ => (hg.cell (p := ⟨b, o, none⟩) (World.block_lt_of_cell? w _ hu)).trans hu
/-- The block of a slice that is not empty is there. -/
theorem RdL.lt (h : RdL E (C + 1) w a n xs) (hn : 0 < n) {x : Addr} (hx : a = some x) : x.block < w.heap.size := by
  obtain ⟨b, off, y, cs, rfl, _, hl, hc, _⟩ := h.at_ hn
  obtain rfl := Option.some.inj hx
  have hu : cs[0]? = some (cs[0]'(by omega)) := List.getElem?_eq_getElem (by omega)
  exact World.block_lt_of_cell? w ⟨b, off + 0 * (C + 1) + 0, none⟩ (hc 0 _ hu)
theorem stays_rdl {α β : Type} {E : World → List Value → α → Prop} {C : Nat} (hE : Stays E) : ∀ w w' (a : Option Addr) (n : Nat) (xs : List α), Grew w w' → RdL E C w a n xs → RdL E C w' a n xs :=
  fun w w' a n xs hg h => h.grew hE hg
end

/-- The cells of a list of elements, one behind the other. -/
theorem flat_get {α : Type} (f : α → List Value) (C : Nat) (hf : ∀ x, (f x).length = C) : ∀ (xs : List α) (k : Nat) (x : α) (j : Nat) (u : Value), xs[k]? = some x → (f x)[j]? = some u → (xs.flatMap f)[k * C + j]? = some u
  | [], k, x, j, u, h, _ => by simp at h
  | y :: ys, 0, x, j, u, h, hu => by
    simp only [List.getElem?_cons_zero, Option.some.injEq] at h
    subst h
    have := (List.getElem?_eq_some_iff.1 hu).1
    rw [List.flatMap_cons, Nat.zero_mul, Nat.zero_add, List.getElem?_append_left this]
    exact hu
  | y :: ys, k + 1, x, j, u, h, hu => by
    rw [List.flatMap_cons, List.getElem?_append_right (by rw [hf, Nat.succ_mul]; omega), hf, show (k + 1) * C + j - C = k * C + j from by rw [Nat.succ_mul]; omega]
    exact flat_get f C hf ys k x j u (by simpa using h) hu
theorem flat_len {α : Type} (f : α → List Value) (C : Nat) (hf : ∀ x, (f x).length = C) (xs : List α) : (xs.flatMap f).length = xs.length * C := by
  induction xs with
  | nil => simp
  | cons y ys ih => rw [List.flatMap_cons, List.length_append, hf, ih, List.length_cons, Nat.succ_mul]; omega

/-- A slice whose cells are known reads as the list. -/
theorem rdl_of_rd {α : Type} {E : World → List Value → α → Prop} {C : Nat} {w : World} {a : Option Addr} {n : Nat} {xs : List α} (f : α → List Value) (hC : 0 < C) (hf : ∀ x, (f x).length = C) (hn : xs.length = n)
    (h : Rd w a n C (xs.flatMap f)) (hE : ∀ x, x ∈ xs → E w (f x) x) : RdL E C w a n xs := by
  refine ⟨hn, ?_⟩
  rcases h.2 with h0 | ⟨b, off, rfl, hc⟩
  · left
    have := h.1
    rw [h0, List.length_nil] at this
    rcases Nat.mul_eq_zero.1 this.symm with h | h <;> omega
  · exact .inr ⟨b, off, rfl, fun k x hx => ⟨f x, hf x, fun j u hu => by rw [Nat.add_assoc]; exact hc _ _ (flat_get f C hf xs k x j u hx hu), hE x (List.mem_of_getElem? hx)⟩⟩

/-! ### How arguments are opened -/
section
variable {H : Type} {enc : TypeId × Value → H} {P : Program} {w : World} {base : Nat} {spare : Nat → Bool} {held : Bool}

/-- A struct of one-cell fields: each cell with its field's reading. -/
theorem trod_fields {t : TypeId} {fs : Array Field} {fuel : Nat} {cs : List Value} {x : DataW H × List MemPlace} (hs : P.underlying t = some (.struct fs)) (hone : oneCellFields P fs = true) (hC : P.cellsOf t = fs.size)
    (h : DataW.trod enc P w base spare held fuel t cs = some x) : cs.length = fs.size ∧ ∃ n, ∀ (j : Nat) (f : Field), fs[j]? = some f → ∃ (u : Value) (y : DataW H × List MemPlace), cs[j]? = some u ∧ DataW.trod enc P w base spare held n f.type [u] = some y := by
  obtain ⟨ys, n, _, _, hlen, hyl, hf⟩ := DataW.trod_struct hs h
  rw [hC] at hlen
  refine ⟨hlen, n, fun j f hj => ?_⟩
  obtain ⟨ho, hk⟩ := hone_of hone j f hj
  have hjl : j < fs.size := (Array.getElem?_eq_some_iff.1 hj).1
  have h1 := hf j f hj
  rw [ho, hk] at h1
  have hone' : (cs.drop j).take 1 = [cs[j]'(by omega)] := by
    rw [List.drop_eq_getElem_cons (by omega)]
    rfl
  rw [hone'] at h1
  have hys : ys[j]? = some (ys[j]'(by omega)) := List.getElem?_eq_getElem (by omega)
  exact ⟨_, _, List.getElem?_eq_getElem (by omega), h1.trans hys⟩

theorem trod_of_value {t : TypeId} {v : Value} {d : DataW H} {p : List MemPlace} (h : DataW.Trod enc P w base spare held t v d p) : ∃ fuel, DataW.trod enc P w base spare held fuel t v.cells.toList = some (d, p) := h

/-- A struct by value: its cells, and that they read. -/
theorem open_struct_cells {r : Reach} {b0 : Nat} {t : TypeId} {fs : Array Field} {v : Value} {d : DataW H} {p : List MemPlace} (hs : P.underlying t = some (.struct fs)) (hv : Value.okWide P w r b0 t v) (h : DataW.Trod enc P w base spare held t v d p) :
    ∃ (cs : List Value) (fuel : Nat), v = .agg cs.toArray ∧ DataW.trod enc P w base spare held fuel t cs = some (d, p) := by
  obtain ⟨cs, rfl, _⟩ := okWide_struct hs hv
  obtain ⟨fuel, hf⟩ := trod_of_value h
  exact ⟨cs.toList, fuel, by simp, by simpa [Value.cells] using hf⟩

/-- A slice: its elements by 'E', if each element's cells are. -/
theorem trod_rdl {α : Type} {E : World → List Value → α → Prop} {C : Nat} (W : α → Prop) {t e : TypeId} {fuel : Nat} {v : Value} {x : DataW H × List MemPlace} (ht : P.underlying t = some (.slice e)) (hC : P.cellsOf e = C) (hC0 : 0 < C)
    (hE : ∀ n cs y, DataW.trod enc P w base spare held n e cs = some y → ∃ z, E w cs z ∧ W z) (h : DataW.trod enc P w base spare held fuel t [v] = some x) :
    ∃ a n cap xs, v = .slice a n cap ∧ RdL E C w a n xs ∧ (∀ z, z ∈ xs → W z) ∧ n ≤ cap ∧ cap ≤ maxLen := by
  rcases open_slice ht h with ⟨h0, _⟩ | ⟨a, len, cap, m, n, D, Pl, hcs, _, hl, hm, hmm, _, hi⟩
  · exact ⟨none, 0, 0, [], by simpa using h0, RdL.nil _ _ _ _, fun z hz => by simp at hz, Nat.le_refl _, Nat.zero_le _⟩
  · have hlm : len ≤ m := by rw [hmm]; split <;> omega
    have key : ∀ i, i < len → ∃ cs' z, w.cells? base (a.add (i * C)) C = some cs' ∧ E w cs' z ∧ W z := fun i hil => by
      obtain ⟨cs', hc, htr⟩ := hi i (by omega)
      obtain ⟨z, h1, h2⟩ := hE _ _ _ htr
      rw [hC] at hc
      exact ⟨cs', z, hc, h1, h2⟩
    by_cases hn : len = 0
    · exact ⟨some a, len, cap, [], by simpa using hcs, ⟨by simp; omega, .inl hn⟩, fun z hz => by simp at hz, hl, hm⟩
    obtain ⟨g, hg⟩ : ∃ g : Nat → α, ∀ i, i < len → ∃ cs', w.cells? base (a.add (i * C)) C = some cs' ∧ E w cs' (g i) ∧ W (g i) := by
      obtain ⟨cs0, z0, _⟩ := key 0 (by omega)
      refine ⟨fun i => if h : i < len then Classical.choose (Classical.choose_spec (key i h)) else z0, fun i hi => ?_⟩
      simp only [dif_pos hi]
      exact ⟨_, Classical.choose_spec (Classical.choose_spec (key i hi))⟩
    refine ⟨some a, len, cap, (List.range len).map g, by simpa using hcs, ⟨by simp, .inr ?_⟩, fun z hz => ?_, hl, hm⟩
    · obtain ⟨b, off, spot⟩ := a
      have hs : spot = none := by
        obtain ⟨cs', hc, _, _⟩ := hg 0 (by omega)
        obtain ⟨_, hlen, hcell⟩ := World.cells?_some hc
        have hu : cs'[0]? = some (cs'[0]'(by omega)) := List.getElem?_eq_getElem (by omega)
        have h1 := hcell 0 (by omega)
        rw [hu] at h1
        have := World.cell?_spot h1
        simpa [Addr.add] using this
      subst hs
      refine ⟨b, off, rfl, fun k x hx => ?_⟩
      have hk : k < len := by
        have := (List.getElem?_eq_some_iff.1 hx).1
        simpa using this
      have hx' : x = g k := by
        rw [List.getElem?_map, List.getElem?_range hk] at hx
        simpa using hx.symm
      subst hx'
      obtain ⟨cs', hc, hEz, _⟩ := hg k hk
      obtain ⟨_, hlen, hcell⟩ := World.cells?_some hc
      refine ⟨_, hlen, fun j u hu => ?_, hEz⟩
      have hj : j < C := by have := (List.getElem?_eq_some_iff.1 hu).1; omega
      have h1 := hcell j hj
      rw [hu] at h1
      have hadd : ((⟨b, off, none⟩ : Addr).add (k * C)).add j = ⟨b, off + k * C + j, none⟩ := by
        have h1 : ∀ (o n : Nat), (⟨b, o, none⟩ : Addr).add n = ⟨b, o + n, none⟩ := fun o n => by unfold Addr.add; split <;> simp_all
        rw [h1, h1]
      rw [hadd] at h1
      exact h1
    · obtain ⟨i, hi, rfl⟩ := List.mem_map.1 hz
      obtain ⟨_, _, _, h2⟩ := hg i (by simpa using hi)
      exact h2
end
end Go.Proofs.Ytmcfengnihomcaa

/- Contracts of the small functions on instructions. No condition. -/
namespace Go.Proofs.Ytmcfengnihomcaa
open Go.RowKit
set_option linter.unusedVariables false

theorem isVar (a : Int) (w : World) :
    Calls Try.prog 93 #[.int .i64 a] w fun e w' => e = .returned (.bool (decide (0 ≤ a) && decide (a < 4))) ∧ w = w' := by
  by_cases h1 : 0 ≤ a
  · go_enter Try.func93, Try.ntmps93
    go_wp2
    go_ret
    exact ⟨by simp [h1], rfl⟩
  · go_enter Try.func93, Try.ntmps93
    go_wp2
    go_ret
    exact ⟨by simp; omega, rfl⟩

theorem below (a b : Int) (w : World) :
    Calls Try.prog 53 #[.int .i64 a, .int .i64 b] w fun e w' => e = .returned (.bool (decide (0 ≤ a) && decide (a < b))) ∧ w = w' := by
  by_cases h1 : 0 ≤ a
  · go_enter Try.func53, Try.ntmps53
    go_wp2
    go_ret
    exact ⟨by simp [h1], rfl⟩
  · go_enter Try.func53, Try.ntmps53
    go_wp2
    go_ret
    exact ⟨by simp; omega, rfl⟩

theorem isRel (a : Int) (w : World) :
    Calls Try.prog 95 #[.int .i64 a] w fun e w' => e = .returned (.bool (decide (1 ≤ a) && decide (a ≤ 4))) ∧ w = w' := by
  by_cases h1 : 1 ≤ a
  · go_enter Try.func95, Try.ntmps95
    go_wp2
    go_ret
    exact ⟨by simp [h1], rfl⟩
  · go_enter Try.func95, Try.ntmps95
    go_wp2
    go_ret
    exact ⟨by simp; omega, rfl⟩

theorem l1In (a b c : Int) (w : World) :
    Calls Try.prog 69 #[.int .i64 a, .int .i64 b, .int .i64 c] w fun e w' => e = .returned (.bool (decide (b ≤ a) && decide (a ≤ c))) ∧ w = w' := by
  by_cases h1 : b ≤ a
  · go_enter Try.func69, Try.ntmps69
    go_wp2
    go_ret
    exact ⟨by simp [h1], rfl⟩
  · go_enter Try.func69, Try.ntmps69
    go_wp2
    go_ret
    exact ⟨by simp; omega, rfl⟩

theorem specNumOk (a : Int) (w : World) :
    Calls Try.prog 71 #[.int .i64 a] w fun e w' => e = .returned (.bool (decide (-32768 ≤ a) && decide (a ≤ 32767))) ∧ w = w' := by
  by_cases h1 : -32768 ≤ a
  · go_enter Try.func71, Try.ntmps71
    go_wp2
    go_ret
    exact ⟨by simp [h1], rfl⟩
  · go_enter Try.func71, Try.ntmps71
    go_wp2
    go_ret
    exact ⟨by simp; omega, rfl⟩

theorem implNumOk (a : Int) (w : World) :
    Calls Try.prog 72 #[.int .i64 a] w fun e w' => e = .returned (.bool (decide (-32768 ≤ a) && decide (a ≤ 32767))) ∧ w = w' := by
  by_cases h1 : -32768 ≤ a
  · go_enter Try.func72, Try.ntmps72
    go_wp2
    go_ret
    exact ⟨by simp [h1], rfl⟩
  · go_enter Try.func72, Try.ntmps72
    go_wp2
    go_ret
    exact ⟨by simp; omega, rfl⟩

/-- An instruction: its eight numbers. -/
structure Ins where
  (op d a b rel lo hi to : Int)
  deriving DecidableEq
abbrev Ins.v (i : Ins) : Value := .agg #[.int .i64 i.op, .int .i64 i.d, .int .i64 i.a, .int .i64 i.b, .int .i64 i.rel, .int .i64 i.lo, .int .i64 i.hi, .int .i64 i.to]

theorem toInsIns (i : Ins) (w : World) :
    Calls Try.prog 128 #[i.v] w fun e w' => e = .returned i.v ∧ Grew w w' := by
  obtain ⟨op, d, a, b, rel, lo, hi, to⟩ := i
  go_enter Try.func128, Try.ntmps128
  go_wp2
  go_returns
  exact ⟨rfl, by unfold Grew; go_grown⟩

theorem insArith (op d a b : Int) (w : World) :
    Calls Try.prog 163 #[.agg #[.int .i64 op, .int .i64 d, .int .i64 a, .int .i64 b]] w fun e w' => e = .returned (Ins.v ⟨op, d, a, b, 0, 0, 0, 0⟩) ∧ Grew w w' := by
  go_enter Try.func163, Try.ntmps163
  go_wp2
  go_returns
  exact ⟨rfl, by unfold Grew; go_grown⟩

theorem insAny (d lo hi : Int) (w : World) :
    Calls Try.prog 158 #[.agg #[.int .i64 d, .int .i64 lo, .int .i64 hi]] w fun e w' => e = .returned (Ins.v ⟨5, d, 0, 0, 0, lo, hi, 0⟩) ∧ Grew w w' := by
  go_enter Try.func158, Try.ntmps158
  go_wp2
  go_returns
  exact ⟨rfl, by unfold Grew; go_grown⟩

theorem insLoad (d a : Int) (w : World) :
    Calls Try.prog 164 #[.agg #[.int .i64 d, .int .i64 a]] w fun e w' => e = .returned (Ins.v ⟨6, d, a, 0, 0, 0, 0, 0⟩) ∧ Grew w w' := by
  go_enter Try.func164, Try.ntmps164
  go_wp2
  go_returns
  exact ⟨rfl, by unfold Grew; go_grown⟩

theorem insStore (a b : Int) (w : World) :
    Calls Try.prog 165 #[.agg #[.int .i64 a, .int .i64 b]] w fun e w' => e = .returned (Ins.v ⟨7, 0, a, b, 0, 0, 0, 0⟩) ∧ Grew w w' := by
  go_enter Try.func165, Try.ntmps165
  go_wp2
  go_returns
  exact ⟨rfl, by unfold Grew; go_grown⟩

theorem insIf (rel a b to : Int) (w : World) :
    Calls Try.prog 159 #[.agg #[.int .i64 rel, .int .i64 a, .int .i64 b, .int .i64 to]] w fun e w' => e = .returned (Ins.v ⟨8, 0, a, b, rel, 0, 0, to⟩) ∧ Grew w w' := by
  go_enter Try.func159, Try.ntmps159
  go_wp2
  go_returns
  exact ⟨rfl, by unfold Grew; go_grown⟩

theorem insJump (to : Int) (w : World) :
    Calls Try.prog 160 #[.agg #[.int .i64 to]] w fun e w' => e = .returned (Ins.v ⟨9, 0, 0, 0, 0, 0, 0, to⟩) ∧ Grew w w' := by
  go_enter Try.func160, Try.ntmps160
  go_wp2
  go_returns
  exact ⟨rfl, by unfold Grew; go_grown⟩

theorem insCall (d a to : Int) (w : World) :
    Calls Try.prog 161 #[.agg #[.int .i64 d, .int .i64 a, .int .i64 to]] w fun e w' => e = .returned (Ins.v ⟨10, d, a, 0, 0, 0, 0, to⟩) ∧ Grew w w' := by
  go_enter Try.func161, Try.ntmps161
  go_wp2
  go_returns
  exact ⟨rfl, by unfold Grew; go_grown⟩

theorem insAssert (rel a b : Int) (w : World) :
    Calls Try.prog 162 #[.agg #[.int .i64 rel, .int .i64 a, .int .i64 b]] w fun e w' => e = .returned (Ins.v ⟨11, 0, a, b, rel, 0, 0, 0⟩) ∧ Grew w w' := by
  go_enter Try.func162, Try.ntmps162
  go_wp2
  go_returns
  exact ⟨rfl, by unfold Grew; go_grown⟩

theorem insRet (a : Int) (w : World) :
    Calls Try.prog 166 #[.agg #[.int .i64 a]] w fun e w' => e = .returned (Ins.v ⟨12, 0, a, 0, 0, 0, 0, 0⟩) ∧ Grew w w' := by
  go_enter Try.func166, Try.ntmps166
  go_wp2
  go_returns
  exact ⟨rfl, by unfold Grew; go_grown⟩

end Go.Proofs.Ytmcfengnihomcaa

/- Instructions and programs as data: how they lie in memory, how arguments of these types are opened. No condition. -/
namespace Go.Proofs.Ytmcfengnihomcaa
open Go.RowKit Go.ChangeShapes Go.WideShapes Go.Deep
set_option linter.unusedVariables false

/-- A number of Go's int. -/
def I64 (x : Int) : Prop := -9223372036854775808 ≤ x ∧ x ≤ 9223372036854775807
def Ins.cells (i : Ins) : List Value := [.int .i64 i.op, .int .i64 i.d, .int .i64 i.a, .int .i64 i.b, .int .i64 i.rel, .int .i64 i.lo, .int .i64 i.hi, .int .i64 i.to]
def EIns : World → List Value → Ins → Prop := fun _ cs i => cs = i.cells
structure InsWf (i : Ins) : Prop where
  op : I64 i.op
  d : I64 i.d
  a : I64 i.a
  b : I64 i.b
  rel : I64 i.rel
  lo : I64 i.lo
  hi : I64 i.hi
  to : I64 i.to
theorem stays_ins : Stays EIns := fun _ _ _ _ _ h => h

/-- A procedure; a program is a list of these. -/
structure Prc where
  lo : Int
  hi : Int
  code : List Ins
  deriving DecidableEq
def EPrc : World → List Value → Prc → Prop := fun w cs p =>
  ∃ a c, cs = [.int .i64 p.lo, .int .i64 p.hi, .slice a p.code.length c] ∧ RdL EIns 8 w a p.code.length p.code ∧ p.code.length ≤ c ∧ c ≤ maxLen
structure PrcWf (p : Prc) : Prop where
  lo : I64 p.lo
  hi : I64 p.hi
  code : ∀ i, i ∈ p.code → InsWf i
theorem stays_prc : Stays EPrc := fun w w' cs p hg ⟨a, c, h1, h2, h3⟩ => ⟨a, c, h1, h2.grew stays_ins hg, h3⟩
/-- A slice of procedures. -/
abbrev RdP (w : World) (a : Option Addr) (n : Nat) (ps : List Prc) : Prop := RdL EPrc 3 w a n ps
abbrev PrgWf (ps : List Prc) : Prop := ∀ p, p ∈ ps → PrcWf p
theorem RdP.grew {w w' : World} {a : Option Addr} {n : Nat} {ps : List Prc} (h : RdP w a n ps) (hg : Grew w w') : RdP w' a n ps := RdL.grew stays_prc h hg

section
variable {H : Type} {enc : TypeId × Value → H} {w : World} {base : Nat} {spare : Nat → Bool} {held : Bool}
theorem trod_i64 {fuel : Nat} {cs : List Value} {x : DataW H × List MemPlace} (h : DataW.trod enc Try.prog w base spare held fuel 3 cs = some x) : ∃ n, cs = [.int .i64 n] ∧ I64 n := by
  obtain ⟨n, h1, _, h2⟩ := DataW.trod_int Try.underlying3 h
  exact ⟨n, h1, i64_of_wf h2⟩
theorem trod_ins (n : Nat) (cs : List Value) (y : DataW H × List MemPlace) (h : DataW.trod enc Try.prog w base spare held n 158 cs = some y) : ∃ i, EIns w cs i ∧ InsWf i := by
  obtain ⟨hl, m, hf⟩ := trod_fields Try.underlying158 (by kernel_rfl) (by kernel_rfl) h
  match cs, hl with
  | [c0, c1, c2, c3, c4, c5, c6, c7], _ =>
    have g : ∀ (j : Nat) (u : Value) (x : DataW H × List MemPlace), [c0, c1, c2, c3, c4, c5, c6, c7][j]? = some u → DataW.trod enc Try.prog w base spare held m 3 [u] = some x → ∃ n, u = .int .i64 n ∧ I64 n := fun j u x _ hx => by
      obtain ⟨n, h1, h2⟩ := trod_i64 hx
      exact ⟨n, by simpa using h1, h2⟩
    have k : ∀ (j : Nat) (f : Field) (u : Value), Try.underlying158 = Try.underlying158 → True := fun _ _ _ _ => trivial
    obtain ⟨u0, x0, e0, t0⟩ := hf 0 _ rfl
    obtain ⟨u1, x1, e1, t1⟩ := hf 1 _ rfl
    obtain ⟨u2, x2, e2, t2⟩ := hf 2 _ rfl
    obtain ⟨u3, x3, e3, t3⟩ := hf 3 _ rfl
    obtain ⟨u4, x4, e4, t4⟩ := hf 4 _ rfl
    obtain ⟨u5, x5, e5, t5⟩ := hf 5 _ rfl
    obtain ⟨u6, x6, e6, t6⟩ := hf 6 _ rfl
    obtain ⟨u7, x7, e7, t7⟩ := hf 7 _ rfl
    obtain ⟨n0, rfl, w0⟩ := g 0 u0 x0 e0 t0
    obtain ⟨n1, rfl, w1⟩ := g 1 u1 x1 e1 t1
    obtain ⟨n2, rfl, w2⟩ := g 2 u2 x2 e2 t2
    obtain ⟨n3, rfl, w3⟩ := g 3 u3 x3 e3 t3
    obtain ⟨n4, rfl, w4⟩ := g 4 u4 x4 e4 t4
    obtain ⟨n5, rfl, w5⟩ := g 5 u5 x5 e5 t5
    obtain ⟨n6, rfl, w6⟩ := g 6 u6 x6 e6 t6
    obtain ⟨n7, rfl, w7⟩ := g 7 u7 x7 e7 t7
    simp only [List.getElem?_cons_zero, List.getElem?_cons_succ, Option.some.injEq] at e0 e1 e2 e3 e4 e5 e6 e7
    subst e0 e1 e2 e3 e4 e5 e6 e7
    exact ⟨⟨n0, n1, n2, n3, n4, n5, n6, n7⟩, rfl, ⟨w0, w1, w2, w3, w4, w5, w6, w7⟩⟩
set_option maxRecDepth 100000 in
theorem open_ins {r : Reach} {b0 : Nat} {v : Value} {d : DataW H} {p : List MemPlace} (hv : Value.okWide Try.prog w r b0 158 v) (h : DataW.Trod enc Try.prog w base spare held 158 v d p) : ∃ i : Ins, v = i.v ∧ InsWf i := by
  obtain ⟨cs, fuel, he, hf⟩ := open_struct_cells Try.underlying158 hv h
  obtain ⟨i, hi, hw⟩ := trod_ins _ _ _ hf
  exact ⟨i, he.trans (by rw [show cs = i.cells from hi]; rfl), hw⟩
theorem trod_prc (n : Nat) (cs : List Value) (y : DataW H × List MemPlace) (h : DataW.trod enc Try.prog w base spare held n 88 cs = some y) : ∃ p, EPrc w cs p ∧ PrcWf p := by
  obtain ⟨hl, m, hf⟩ := trod_fields Try.underlying88 (by kernel_rfl) (by kernel_rfl) h
  match cs, hl with
  | [c0, c1, c2], _ =>
    obtain ⟨u0, x0, e0, t0⟩ := hf 0 _ rfl
    obtain ⟨u1, x1, e1, t1⟩ := hf 1 _ rfl
    obtain ⟨u2, x2, e2, t2⟩ := hf 2 _ rfl
    obtain ⟨lo, hlo, wlo⟩ := trod_i64 t0
    obtain ⟨hi, hhi, whi⟩ := trod_i64 t1
    obtain ⟨a, k, c, is, rfl, hr, hw, hk, hc⟩ := trod_rdl (E := EIns) InsWf Try.underlying86 (C := 8) (by kernel_rfl) (by omega) trod_ins t2
    simp only [List.getElem?_cons_zero, List.getElem?_cons_succ, Option.some.injEq, List.cons.injEq, and_true] at e0 e1 e2 hlo hhi
    subst hlo hhi
    subst e0 e1 e2
    obtain rfl : is.length = k := hr.1
    exact ⟨⟨lo, hi, is⟩, ⟨a, c, rfl, hr, hk, hc⟩, ⟨wlo, whi, hw⟩⟩
set_option maxRecDepth 100000 in
theorem open_prc {r : Reach} {b0 : Nat} {v : Value} {d : DataW H} {p : List MemPlace} (hv : Value.okWide Try.prog w r b0 88 v) (h : DataW.Trod enc Try.prog w base spare held 88 v d p) :
    ∃ (lo hi : Int) (a : Option Addr) (n c : Nat) (is : List Ins), v = .agg #[.int .i64 lo, .int .i64 hi, .slice a n c] ∧ RdL EIns 8 w a n is ∧ PrcWf ⟨lo, hi, is⟩ ∧ n ≤ c ∧ c ≤ maxLen := by
  obtain ⟨cs, fuel, he0, hf⟩ := open_struct_cells Try.underlying88 hv h
  obtain ⟨⟨lo, hi, is⟩, ⟨a, c, he, hr, h1, h2⟩, hw⟩ := trod_prc _ _ _ hf
  exact ⟨lo, hi, a, _, c, is, he0.trans (by rw [he]), hr, hw, h1, h2⟩
set_option maxRecDepth 100000 in
theorem open_prog {r : Reach} {b0 : Nat} {v : Value} {d : DataW H} {p : List MemPlace} (hv : Value.okWide Try.prog w r b0 24 v) (h : DataW.Trod enc Try.prog w base spare held 24 v d p) :
    ∃ (a : Option Addr) (n c : Nat) (ps : List Prc), v = .agg #[.slice a n c] ∧ RdP w a n ps ∧ PrgWf ps ∧ n ≤ c ∧ c ≤ maxLen := by
  obtain ⟨cs, fuel, he0, hf⟩ := open_struct_cells Try.underlying24 hv h
  obtain ⟨hl, m, hf⟩ := trod_fields Try.underlying24 (by kernel_rfl) (by kernel_rfl) hf
  match cs, hl with
  | [c0], _ =>
    obtain ⟨u0, x0, e0, t0⟩ := hf 0 _ rfl
    obtain ⟨a, k, c, ps, rfl, hr, hw, hk, hc⟩ := trod_rdl (E := EPrc) PrcWf Try.underlying22 (C := 3) (by kernel_rfl) (by omega) trod_prc t0
    simp only [List.getElem?_cons_zero, Option.some.injEq] at e0
    subst e0
    exact ⟨a, k, c, ps, he0, hr, hw, hk, hc⟩
end
end Go.Proofs.Ytmcfengnihomcaa

/- Regions that draw from a code: the rule, and its steps. No condition. -/
namespace Go.Proofs.Ytmcfengnihomcaa
open Go.RowKit
set_option linter.unusedVariables false

section
variable {P : Program} {ops : Array Oper} {Q : Exit → Act → World → Prop} {a0 : Act}
/-- One operation of a region that draws from reader g. -/
def DStep (P : Program) (ops : Array Oper) (Q : Exit → Act → World → Prop) (a0 : Act) (g PP : Nat) (c : Nat → Nat) (J : World → Prop) (F : Nat → Prop) (R : Nat → World → Value → Prop) (i : Nat) (o : Oper) : Prop :=
  ∀ (a : Act) (w : World) (p : Nat), p + c i ≤ PP → J w → RdLe w g p → (∀ d, (∀ i, dstOf ops i ≠ some d) → a.eval (.tmp d) = a0.eval (.tmp d)) →
    (∀ e, e ∈ o.after.toList → Region.binds .any e = true → ∀ d, dstOf ops e.on = some d → R e.on w (a.eval (.tmp d))) →
    o.wp P a w (fun a' w' => ∃ v, a' = a.put o.dst v ∧ R i w' v ∧ J w' ∧ RdLe w' g (p + c i) ∧ Chg F w w') Q
theorem region_draw {id : Nat} {w : World} (g p0 : Nat) (c : Nat → Nat) (J : World → Prop) (F : Nat → Prop) (R : Nat → World → Value → Prop) (hm : P.follows .mixedOrders = true) (hB : regB ops a0.tmps.size = true)
    (hJ : J w.drew) (hr : RdLe w g p0) (hF : ∀ j w w' u, Chg F w w' → R j w u → R j w' u)
    (hstep : AllSteps (DStep P ops Q a0 g (p0 + costAll c ops.size) c J F R) 0 ops.toList)
    (hend : ∀ (vs : Nat → Value) (w' : World), J w' → RdLe w' g (p0 + costAll c ops.size) → (∀ i d, dstOf ops i = some d → R i w' (vs i)) → Q .normal (putAll ops.toList vs 0 a0) w') : (Code.region id ops true).wp P Q a0 w := by
  refine wp_region_inv (fun L w' => J w' ∧ L.size = ops.size ∧ RdLe w' g (p0 + costL c L)) R hm hB ⟨hJ, by simp, ?_⟩ ?_ ?_
  · exact (rd_drew hr).mono (by omega)
  · intro i o ho L a w1 hL hi hf _ hI hfr hd
    obtain ⟨hJ1, _, hr1⟩ := hI
    have hs := allSteps_get _ _ hstep i o (by simpa using ho)
    rw [Nat.zero_add] at hs
    have hc := costL_set c L (i := i) (by omega) hf
    have hle := costL_le c (L.setIfInBounds i true)
    rw [Array.size_setIfInBounds, hL] at hle
    refine Oper.wp_mono ?_ (hs a w1 (p0 + costL c L) (by omega) hJ1 hr1 hfr (fun e he hb => (hd e he hb).2))
    rintro a' w' ⟨v, h1, h2, h3, h4, h5⟩
    exact ⟨v, h1, h2, ⟨h3, by simp [hL], by rw [hc]; exact h4.mono (by omega)⟩, fun j u _ hu => hF j _ _ u h5 hu⟩
  · rintro vs w' ⟨L, ⟨hJ', hL, hr'⟩, _⟩ hR
    have hle := costL_le c L
    rw [hL] at hle
    exact hend vs w' hJ' (hr'.mono (by omega)) hR

theorem op_val {o : Oper} {a : Act} {w w' : World} {K : Act → World → Prop} {v : Value} (h : (execOp a.eval o).run P w = .ok (.value v) w') (hK : K (a.put o.dst v) w') : o.wp P a w K Q := by
  unfold Oper.wp
  rw [h]
  exact hK
theorem op_skip {o : Oper} {a : Act} {w w' : World} {K : Act → World → Prop} (h : (execOp a.eval o).run P w = .ok .skip w') (hK : K (a.put o.dst undef) w') : o.wp P a w K Q := by
  unfold Oper.wp
  rw [h]
  exact hK
end
/-- A slice of numbers, a pointer to a number: in blocks that do not change. -/
def SlI (F : Nat → Prop) (n : Nat) (w : World) (v : Value) : Prop := ∃ b, v = .slice (some ⟨b, 0, none⟩) n n ∧ b < w.heap.size ∧ ¬ F b ∧ ∀ j, j < n → ∃ x, w.cell? ⟨b, j, none⟩ = some (.int .i64 x)
def PtI (F : Nat → Prop) (w : World) (v : Value) : Prop := ∃ b j x, v = .pointer (some ⟨b, j, none⟩) ∧ b < w.heap.size ∧ ¬ F b ∧ w.cell? ⟨b, j, none⟩ = some (.int .i64 x)
theorem SlI.chg {F : Nat → Prop} {n : Nat} {w w' : World} {v : Value} (h : SlI F n w v) (c : Chg F w w') : SlI F n w' v := by
  obtain ⟨b, h1, h2, h3, h4⟩ := h
  exact ⟨b, h1, Nat.lt_of_lt_of_le h2 c.size, h3, fun j hj => by rw [World.cell?_of_block (w := w) (w' := w') (a := ⟨b, j, none⟩) (c.block b h2 h3)]; exact h4 j hj⟩
theorem PtI.chg {F : Nat → Prop} {w w' : World} {v : Value} (h : PtI F w v) (c : Chg F w w') : PtI F w' v := by
  obtain ⟨b, j, x, h1, h2, h3, h4⟩ := h
  exact ⟨b, j, x, h1, Nat.lt_of_lt_of_le h2 c.size, h3, by rw [World.cell?_of_block (w := w) (w' := w') (a := ⟨b, j, none⟩) (c.block b h2 h3)]; exact h4⟩
end Go.Proofs.Ytmcfengnihomcaa

/- Steps of regions that draw. No condition. -/
namespace Go.Proofs.Ytmcfengnihomcaa
open Go.RowKit
set_option linter.unusedVariables false

theorem chg1 {t o : Nat} {w W : World} (h : Chg (fun b => b = t) w W) (u : Value) : Chg (fun b => b = t) w (W.setCell ⟨t, o, none⟩ u) :=
  Chg.trans h (⟨rfl, rfl, rfl, by simp, fun k hk hn => Below.heap_setCell W ⟨t, o, none⟩ u k hn⟩ : Chg (fun b => b = t) W (W.setCell ⟨t, o, none⟩ u)) (fun _ _ h => h) (fun _ _ h => h)
section
variable {ops : Array Oper} {Q : Exit → Act → World → Prop} {a0 : Act} {g PP : Nat} {c : Nat → Nat} {J : World → Prop} {F : Nat → Prop} {R : Nat → World → Value → Prop} {i : Nat} {o : Oper}
def hasNo (ops : Array Oper) (d : Tmp) : Bool := ops.all fun o => o.dst != some d
theorem hasNo_spec {d : Tmp} (h : hasNo ops d = true) (i : Nat) : dstOf ops i ≠ some d := by
  intro hi
  unfold dstOf at hi
  cases ho : ops[i]? with
  | none => simp [ho] at hi
  | some o =>
    rw [hasNo, Array.all_eq_true'] at h
    have := h o (Array.mem_of_getElem? ho)
    simp [ho] at hi
    simp [hi] at this
/-- What an operation reads: of an operation ahead of it. -/
def Dep (ops : Array Oper) (o : Oper) (k : Nat) (d : Tmp) : Prop := (∃ e, e ∈ o.after.toList ∧ e.on = k ∧ Region.binds .any e = true) ∧ dstOf ops k = some d
theorem ds_move (d : Tmp) (x : Value) (ho : o.op = .move (.tmp d)) (hd : hasNo ops d = true) (hx : a0.eval (.tmp d) = x) (hR : ∀ W, R i W x) : DStep Try.prog ops Q a0 g PP c J F R i o := by
  intro a w p hp hJ hr hf _
  have he : a.eval (.tmp d) = x := (hf d (hasNo_spec hd)).trans hx
  refine op_val (v := x) (w' := w) (by simp only [execOp, ho, he]; rfl) ⟨_, rfl, hR w, hJ, hr.mono (by omega), Chg.refl _ _⟩
theorem ds_lit (T : TypeId) (zs : List Int) (h : ∀ (a : Act) (W : World), (execOp a.eval o).run Try.prog W = .ok (.value (.slice (some ⟨W.heap.size, 0, none⟩) zs.length zs.length)) (W.alloc (.cells (ints .i64 zs).toArray T)))
    (hR : ∀ W v, SlI F zs.length W v → R i W v) (hJ : ∀ W o, J W → J (W.alloc o)) (hF : ∀ W, J W → ∀ b, F b → b < W.heap.size) : DStep Try.prog ops Q a0 g PP c J F R i o := by
  intro a w p hp hJ1 hr _ _
  refine op_val (h a w) ⟨_, rfl, hR _ _ ⟨_, rfl, by simp, fun hb => absurd (hF w hJ1 _ hb) (by omega), fun j hj => ?_⟩, hJ _ _ hJ1, (rd_al hr _).mono (by omega), Chg.of_below (grew_al (Below.refl _ _) _)⟩
  obtain ⟨y, _, hy⟩ := lit_get zs hj
  exact ⟨y, by rw [World.cell?_alloc_new]; simpa using hy⟩
theorem dep_of {k : Nat} {d : Tmp} {a : Act} {w : World} (hdep : Dep ops o k d) (hd : ∀ e, e ∈ o.after.toList → Region.binds .any e = true → ∀ d, dstOf ops e.on = some d → R e.on w (a.eval (.tmp d))) : R k w (a.eval (.tmp d)) := by
  obtain ⟨⟨e, he1, he2, he3⟩, hdd⟩ := hdep
  have := hd e he1 he3 d (by rw [he2]; exact hdd)
  rw [he2] at this
  exact this
/-- A call that reads on: of the reader in a slot, and values. -/
theorem ds_call {f : FuncId} {p0 : Value → Prop} {vals : (Operand → Value) → Array Value} {good : (Operand → Value) → World → Prop} (h : ∀ (a : Act) (W : World), (execOp a.eval o).run Try.prog W = .ok (.enter f (vals a.eval)) W)
    (hgood : ∀ (a : Act) (w : World), (∀ d, (∀ i, dstOf ops i ≠ some d) → a.eval (.tmp d) = a0.eval (.tmp d)) → (∀ e, e ∈ o.after.toList → Region.binds .any e = true → ∀ d, dstOf ops e.on = some d → R e.on w (a.eval (.tmp d))) → good a.eval w)
    (C : ∀ (ρ : Operand → Value) (p : Nat) (w : World), good ρ w → RdLe w g p → p + c i ≤ PP → Calls Try.prog f (vals ρ) w (RetG p0 g (p + c i) w))
    (hR : ∀ W v, p0 v → R i W v) (hJ : ∀ W W', J W → ChgG g W W' → J W') (hF : F g) : DStep Try.prog ops Q a0 g PP c J F R i o := by
  intro a w p hp hJ1 hr hf hd
  unfold Oper.wp
  rw [h]
  refine Calls.mono (C _ p w (hgood a w hf hd) hr hp) ?_
  rintro e w' ⟨v, rfl, hv, hr2, hc2⟩
  exact ⟨v, rfl, hR _ _ hv, hJ _ _ hJ1 hc2, hr2, ⟨hc2.os, hc2.tape, hc2.output, hc2.size, fun k hk hn => hc2.block k hk (fun e => hn (e ▸ hF))⟩⟩
theorem ds_pick (d : Tmp) (kd : Nat) (k : Int) (h : ∀ (a : Act) (W : World), (execOp a.eval o).run Try.prog W = .ok (.enter 65 #[a.eval (.tmp d), .int .i64 k]) W) (hdep : Dep ops o kd d)
    (hq : ∀ W v, R kd W v → v = .pointer (some ⟨g, 0, none⟩)) (hc : c i = 1) (hPP : PP ≤ 1099511627776) (hk : k ≤ 1099511627776) (hR : ∀ W v, IsNat k v → R i W v) (hJ : ∀ W W', J W → ChgG g W W' → J W') (hF : F g) : DStep Try.prog ops Q a0 g PP c J F R i o :=
  ds_call (vals := fun ρ => #[ρ (.tmp d), .int .i64 k]) (good := fun ρ w => ρ (.tmp d) = .pointer (some ⟨g, 0, none⟩)) h (fun a w hf hd => hq _ _ (dep_of hdep hd)) (fun ρ p w hg hr hp => by rw [hg, hc]; exact pickG hr (by omega) hk) hR hJ hF
theorem ds_index (d1 d2 : Tmp) (k1 k2 n : Nat) (hop : o.op = .indexAddr 26 (.tmp d1) (.tmp d2)) (h1 : Dep ops o k1 d1) (h2 : Dep ops o k2 d2) (hs : ∀ W v, R k1 W v → SlI F n W v) (hi : ∀ W v, R k2 W v → IsNat n v) (hn : 1 ≤ n) (hn2 : n ≤ 1000) (hR : ∀ W v, PtI F W v → R i W v) : DStep Try.prog ops Q a0 g PP c J F R i o := by
  intro a w p hp hJ hr hf hd
  obtain ⟨b, hb, hbl, hbF, hc⟩ := hs _ _ (dep_of h1 hd)
  obtain ⟨j, hj, hjn⟩ := hi _ _ (dep_of h2 hd)
  have hjn := hjn (by omega)
  obtain ⟨x, hx⟩ := hc j (by omega)
  refine op_val (v := .pointer (some ⟨b, j, none⟩)) (w' := w) ?_ ⟨_, rfl, hR _ _ ⟨b, j, x, rfl, hbl, hbF, hx⟩, hJ, hr.mono (by omega), Chg.refl _ _⟩
  simp only [execOp, hop, hb, hj]
  have hj2 : (j : Int) < (n : Int) := hjn
  have hj3 : j < n := by omega
  simp [go_sem, hj2]
theorem ds_load (d1 : Tmp) (k1 : Nat) (hop : o.op = .load 3 (.tmp d1)) (h1 : Dep ops o k1 d1) (hs : ∀ W v, R k1 W v → PtI F W v) (hR : ∀ W v, IsInt v → R i W v) : DStep Try.prog ops Q a0 g PP c J F R i o := by
  intro a w p hp hJ hr hf hd
  obtain ⟨b, j, x, hb, hbl, hbF, hx⟩ := hs _ _ (dep_of h1 hd)
  refine op_val (v := .int .i64 x) (w' := w) ?_ ⟨_, rfl, hR _ _ ⟨x, rfl⟩, hJ, hr.mono (by omega), Chg.refl _ _⟩
  simp only [execOp, hop, hb]
  simp [go_sem, hx]
/-- An operation whose value is written out of its slots. -/
theorem ds_val (vals : (Operand → Value) → Value) (h : ∀ (a : Act) (W : World), (execOp a.eval o).run Try.prog W = .ok (.value (vals a.eval)) W)
    (hR : ∀ (a : Act) (w : World), (∀ d, (∀ i, dstOf ops i ≠ some d) → a.eval (.tmp d) = a0.eval (.tmp d)) → (∀ e, e ∈ o.after.toList → Region.binds .any e = true → ∀ d, dstOf ops e.on = some d → R e.on w (a.eval (.tmp d))) → R i w (vals a.eval)) : DStep Try.prog ops Q a0 g PP c J F R i o := by
  intro a w p hp hJ hr hf hd
  exact op_val (h a w) ⟨_, rfl, hR a w hf hd, hJ, hr.mono (by omega), Chg.refl _ _⟩
theorem ds_store2 (t : Nat) (dp dv kd : Nat) (hop : o.op = .store 112 (.tmp dp) (.tmp dv)) (hdp : hasNo ops dp = true) (hx : a0.eval (.tmp dp) = .pointer (some ⟨t, 0, none⟩)) (h1 : Dep ops o kd dv) (hs : ∀ W v, R kd W v → IsItv v)
    (hJ : ∀ W, J W → ∃ x0 x1 : Int, Blk W t 112 #[.int .i64 x0, .int .i64 x1]) (hJ2 : ∀ W W' (y0 y1 : Int), J W → Blk W' t 112 #[.int .i64 y0, .int .i64 y1] → Chg (fun b => b = t) W W' → J W') (hg : g < t) (hF : F t) (hR : ∀ W v, R i W v) : DStep Try.prog ops Q a0 g PP c J F R i o := by
  intro a w p hp hJ1 hr hf hd
  obtain ⟨y0, y1, hv⟩ := hs _ _ (dep_of h1 hd)
  obtain ⟨x0, x1, hb⟩ := hJ w hJ1
  have he : a.eval (.tmp dp) = .pointer (some ⟨t, 0, none⟩) := (hf dp (hasNo_spec hdp)).trans hx
  have c0 : w.cell? ⟨t, 0, none⟩ = some (.int .i64 x0) := hb.cell 0
  have c1 : w.cell? ⟨t, 1, none⟩ = some (.int .i64 x1) := hb.cell 1
  have fz := fun j => hb.frozen j
  have hl := hb.lt
  have hb2 : Blk ((w.setCell ⟨t, 0, none⟩ (.int .i64 y0)).setCell ⟨t, 1, none⟩ (.int .i64 y1)) t 112 #[.int .i64 y0, .int .i64 y1] := (hb.set_ 0 _).set_ 1 _
  have hch : Chg (fun b => b = t) w ((w.setCell ⟨t, 0, none⟩ (.int .i64 y0)).setCell ⟨t, 1, none⟩ (.int .i64 y1)) := chg1 (chg1 (Chg.refl _ _) _) _
  refine op_skip (w' := (w.setCell ⟨t, 0, none⟩ (.int .i64 y0)).setCell ⟨t, 1, none⟩ (.int .i64 y1)) ?_ ⟨_, rfl, hR _ _, hJ2 _ _ y0 y1 hJ1 hb2 hch, (hr.chg hch (fun b hb e => by omega)).mono (by omega), ⟨hch.os, hch.tape, hch.output, hch.size, fun k hk hn => hch.block k hk (fun e => hn (e ▸ hF))⟩⟩
  simp only [execOp, hop, he, hv]
  simp [go_sem, fz, c0, c1]
def IsIns (v : Value) : Prop := ∃ op d a b rel lo hi to : Int, v = .agg #[.int .i64 op, .int .i64 d, .int .i64 a, .int .i64 b, .int .i64 rel, .int .i64 lo, .int .i64 hi, .int .i64 to]
set_option maxHeartbeats 2000000 in
theorem ds_store8 (t : Nat) (dp dv kd : Nat) (hop : o.op = .store 44 (.tmp dp) (.tmp dv)) (hdp : hasNo ops dp = true) (hx : a0.eval (.tmp dp) = .pointer (some ⟨t, 0, none⟩)) (h1 : Dep ops o kd dv) (hs : ∀ W v, R kd W v → IsIns v)
    (hJ : ∀ W, J W → ∃ x0 x1 x2 x3 x4 x5 x6 x7 : Int, Blk W t 44 #[.int .i64 x0, .int .i64 x1, .int .i64 x2, .int .i64 x3, .int .i64 x4, .int .i64 x5, .int .i64 x6, .int .i64 x7]) (hJ2 : ∀ W W' (y0 y1 y2 y3 y4 y5 y6 y7 : Int), J W → Blk W' t 44 #[.int .i64 y0, .int .i64 y1, .int .i64 y2, .int .i64 y3, .int .i64 y4, .int .i64 y5, .int .i64 y6, .int .i64 y7] → Chg (fun b => b = t) W W' → J W') (hg : g < t) (hF : F t) (hR : ∀ W v, R i W v) : DStep Try.prog ops Q a0 g PP c J F R i o := by
  intro a w p hp hJ1 hr hf hd
  obtain ⟨y0, y1, y2, y3, y4, y5, y6, y7, hv⟩ := hs _ _ (dep_of h1 hd)
  obtain ⟨x0, x1, x2, x3, x4, x5, x6, x7, hb⟩ := hJ w hJ1
  have he : a.eval (.tmp dp) = .pointer (some ⟨t, 0, none⟩) := (hf dp (hasNo_spec hdp)).trans hx
  have c0 : w.cell? ⟨t, 0, none⟩ = some (.int .i64 x0) := hb.cell 0
  have c1 : w.cell? ⟨t, 1, none⟩ = some (.int .i64 x1) := hb.cell 1
  have c2 : w.cell? ⟨t, 2, none⟩ = some (.int .i64 x2) := hb.cell 2
  have c3 : w.cell? ⟨t, 3, none⟩ = some (.int .i64 x3) := hb.cell 3
  have c4 : w.cell? ⟨t, 4, none⟩ = some (.int .i64 x4) := hb.cell 4
  have c5 : w.cell? ⟨t, 5, none⟩ = some (.int .i64 x5) := hb.cell 5
  have c6 : w.cell? ⟨t, 6, none⟩ = some (.int .i64 x6) := hb.cell 6
  have c7 : w.cell? ⟨t, 7, none⟩ = some (.int .i64 x7) := hb.cell 7
  have fz := fun j => hb.frozen j
  have hl := hb.lt
  have hb2 : Blk ((((((((w.setCell ⟨t, 0, none⟩ (.int .i64 y0)).setCell ⟨t, 1, none⟩ (.int .i64 y1)).setCell ⟨t, 2, none⟩ (.int .i64 y2)).setCell ⟨t, 3, none⟩ (.int .i64 y3)).setCell ⟨t, 4, none⟩ (.int .i64 y4)).setCell ⟨t, 5, none⟩ (.int .i64 y5)).setCell ⟨t, 6, none⟩ (.int .i64 y6)).setCell ⟨t, 7, none⟩ (.int .i64 y7)) t 44 #[.int .i64 y0, .int .i64 y1, .int .i64 y2, .int .i64 y3, .int .i64 y4, .int .i64 y5, .int .i64 y6, .int .i64 y7] := (((((((hb.set_ 0 _).set_ 1 _).set_ 2 _).set_ 3 _).set_ 4 _).set_ 5 _).set_ 6 _).set_ 7 _
  have hch : Chg (fun b => b = t) w ((((((((w.setCell ⟨t, 0, none⟩ (.int .i64 y0)).setCell ⟨t, 1, none⟩ (.int .i64 y1)).setCell ⟨t, 2, none⟩ (.int .i64 y2)).setCell ⟨t, 3, none⟩ (.int .i64 y3)).setCell ⟨t, 4, none⟩ (.int .i64 y4)).setCell ⟨t, 5, none⟩ (.int .i64 y5)).setCell ⟨t, 6, none⟩ (.int .i64 y6)).setCell ⟨t, 7, none⟩ (.int .i64 y7)) := chg1 (chg1 (chg1 (chg1 (chg1 (chg1 (chg1 (chg1 (Chg.refl _ _) _) _) _) _) _) _) _) _
  refine op_skip (w' := (((((((w.setCell ⟨t, 0, none⟩ (.int .i64 y0)).setCell ⟨t, 1, none⟩ (.int .i64 y1)).setCell ⟨t, 2, none⟩ (.int .i64 y2)).setCell ⟨t, 3, none⟩ (.int .i64 y3)).setCell ⟨t, 4, none⟩ (.int .i64 y4)).setCell ⟨t, 5, none⟩ (.int .i64 y5)).setCell ⟨t, 6, none⟩ (.int .i64 y6)).setCell ⟨t, 7, none⟩ (.int .i64 y7)) ?_ ⟨_, rfl, hR _ _, hJ2 _ _ y0 y1 y2 y3 y4 y5 y6 y7 hJ1 hb2 hch, (hr.chg hch (fun b hb e => by omega)).mono (by omega), ⟨hch.os, hch.tape, hch.output, hch.size, fun k hk hn => hch.block k hk (fun e => hn (e ▸ hF))⟩⟩
  simp only [execOp, hop, he, hv]
  simp [go_sem, fz, c0, c1, c2, c3, c4, c5, c6, c7]
end
end Go.Proofs.Ytmcfengnihomcaa

/- Regions that draw: properties that stay, boxes. No condition. -/
namespace Go.Proofs.Ytmcfengnihomcaa
open Go.RowKit
set_option linter.unusedVariables false

/-- A property of a slot that stays as long as only blocks in F change. -/
structure Pr (F : Nat → Prop) where
  p : World → Value → Prop
  st : ∀ w w' v, Chg F w w' → p w v → p w' v
def prSl {F : Nat → Prop} (n : Nat) : Pr F := ⟨SlI F n, fun _ _ _ c h => h.chg c⟩
def prPt {F : Nat → Prop} : Pr F := ⟨PtI F, fun _ _ _ c h => h.chg c⟩
def prV {F : Nat → Prop} (q : Value → Prop) : Pr F := ⟨fun _ v => q v, fun _ _ _ _ h => h⟩
def prT {F : Nat → Prop} : Pr F := prV fun _ => True
def Rof {F : Nat → Prop} (l : List (Pr F)) (i : Nat) (w : World) (v : Value) : Prop := (l.getD i prT).p w v
def cOf (l : List Nat) (i : Nat) : Nat := l.getD i 0
section
variable {P : Program} {ops : Array Oper} {Q : Exit → Act → World → Prop} {a0 : Act}
theorem region_drawL {id : Nat} {w : World} (g p0 tot n : Nat) (cl : List Nat) (J : World → Prop) (F : Nat → Prop) (Rl : List (Pr F)) (hm : P.follows .mixedOrders = true) (hn : a0.tmps.size = n) (hB : regB ops n = true) (ht : costAll (cOf cl) ops.size = tot)
    (hJ : J w.drew) (hr : RdLe w g p0) (hstep : AllSteps (DStep P ops Q a0 g (p0 + tot) (cOf cl) J F (Rof Rl)) 0 ops.toList)
    (hend : ∀ (vs : Nat → Value) (w' : World), J w' → RdLe w' g (p0 + tot) → (∀ i d, dstOf ops i = some d → Rof Rl i w' (vs i)) → Q .normal (putAll ops.toList vs 0 a0) w') : (Code.region id ops true).wp P Q a0 w := by
  subst ht hn
  exact region_draw g p0 (cOf cl) J F (Rof Rl) hm hB hJ hr (fun j w w' u hc h => (Rl.getD j prT).st w w' u hc h) hstep hend
theorem region_drawX {id : Nat} {W : World} {g p0 : Nat} {x : Gd g p0 W} (tot n : Nat) (cl : List Nat) (J : World → Prop) (F : Nat → Prop) (Rl : List (Pr F)) (hm : P.follows .mixedOrders = true) (hn : a0.tmps.size = n) (hB : regB ops n = true) (ht : costAll (cOf cl) ops.size = tot)
    (hJ : J (extg x).drew) (hstep : AllSteps (DStep P ops Q a0 g (p0 + tot) (cOf cl) J F (Rof Rl)) 0 ops.toList)
    (hend : ∀ (vs : Nat → Value) (w' : World), J w' → RdLe w' g (p0 + tot) → (∀ i d, dstOf ops i = some d → Rof Rl i w' (vs i)) → Q .normal (putAll ops.toList vs 0 a0) w') : (Code.region id ops true).wp P Q a0 (extg x) :=
  region_drawL g p0 tot n cl J F Rl hm hn hB ht hJ x.rd hstep hend
end
section
variable {ops : Array Oper} {Q : Exit → Act → World → Prop} {a0 : Act} {g PP : Nat} {c : Nat → Nat} {J : World → Prop} {F : Nat → Prop} {R : Nat → World → Value → Prop} {i : Nat} {o : Oper}
theorem eval_const (a : Act) (v : Value) : a.eval (.const v) = v := rfl
theorem ds_build (T : TypeId) (parts : Array (Nat × Operand)) (hop : o.op = .build T parts)
    (h : ∀ (a : Act) (w : World), (∀ d, (∀ i, dstOf ops i ≠ some d) → a.eval (.tmp d) = a0.eval (.tmp d)) → (∀ e, e ∈ o.after.toList → Region.binds .any e = true → ∀ d, dstOf ops e.on = some d → R e.on w (a.eval (.tmp d))) →
      ∃ vs : Array (Nat × Value), parts.map (fun x => (x.1, a.eval x.2)) = vs ∧ ∃ v, (∀ W, (Instr.build T vs).run Try.prog W = .ok v W) ∧ R i w v) : DStep Try.prog ops Q a0 g PP c J F R i o := by
  intro a w p hp hJ hr hf hd
  obtain ⟨vs, h1, v, h2, h3⟩ := h a w hf hd
  refine op_val (v := v) (w' := w) ?_ ⟨_, rfl, h3, hJ, hr.mono (by omega), Chg.refl _ _⟩
  simp only [execOp, hop]
  have h1' : (Array.map (fun x => match x with | (i, x) => (i, a.eval x)) parts) = vs := h1
  rw [h1']
  simp [h2, Result.andThen]
theorem isInt_of_nat {k : Int} {v : Value} (h : IsNat k v) : IsInt v := by obtain ⟨j, h, _⟩ := h; exact ⟨_, h⟩
theorem ds_field {T : TypeId} (d f : Nat) (x y : Value) (hop : o.op = .fieldAddr T (.tmp d) f) (hd : hasNo ops d = true) (hx : a0.eval (.tmp d) = x) (hrun : ∀ W, (Instr.fieldAt T x f).run Try.prog W = .ok y W) (hR : ∀ W, R i W y) : DStep Try.prog ops Q a0 g PP c J F R i o := by
  intro a w p hp hJ hr hf _
  have he : a.eval (.tmp d) = x := (hf d (hasNo_spec hd)).trans hx
  refine op_val (v := y) (w' := w) ?_ ⟨_, rfl, hR w, hJ, hr.mono (by omega), Chg.refl _ _⟩
  simp only [execOp, hop, he]
  simp [hrun, Result.andThen]
theorem ds_loadB (d1 k1 : Nat) (ad : Addr) (hop : o.op = .load 3 (.tmp d1)) (h1 : Dep ops o k1 d1) (hs : ∀ W v, R k1 W v → v = .pointer (some ad)) (hJ : ∀ W, J W → ∃ x : Int, W.cell? ad = some (.int .i64 x)) (hR : ∀ W v, IsInt v → R i W v) : DStep Try.prog ops Q a0 g PP c J F R i o := by
  intro a w p hp hJ1 hr hf hd
  have hb := hs _ _ (dep_of h1 hd)
  obtain ⟨x, hx⟩ := hJ w hJ1
  refine op_val (v := .int .i64 x) (w' := w) ?_ ⟨_, rfl, hR _ _ ⟨x, rfl⟩, hJ1, hr.mono (by omega), Chg.refl _ _⟩
  simp only [execOp, hop, hb]
  simp [go_sem, hx]
theorem ds_add (d : Tmp) (k n : Nat) (hop : o.op = .binOp .add 3 (.const (.int .i64 n)) (.tmp d) 3) (h1 : Dep ops o k d) (hs : ∀ W v, R k W v → IsInt v) (hR : ∀ W v, IsInt v → R i W v) : DStep Try.prog ops Q a0 g PP c J F R i o := by
  intro a w p hp hJ hr hf hd
  obtain ⟨x, hx⟩ := hs _ _ (dep_of h1 hd)
  refine op_val (v := .int .i64 (IntKind.i64.wrap ((n : Int) + x))) (w' := w) ?_ ⟨_, rfl, hR _ _ ⟨_, rfl⟩, hJ, hr.mono (by omega), Chg.refl _ _⟩
  simp only [execOp, hop, hx, eval_const]
  simp [go_sem]
  try rfl
end
/-- A box of bounds, of a step. -/
def BoxI (t : Nat) (W : World) : Prop := ∃ u0 u1 : Int, Blk W t 112 #[.int .i64 u0, .int .i64 u1]
def BoxN (t : Nat) (W : World) : Prop := ∃ u0 u1 u2 u3 u4 u5 u6 u7 : Int, Blk W t 44 #[.int .i64 u0, .int .i64 u1, .int .i64 u2, .int .i64 u3, .int .i64 u4, .int .i64 u5, .int .i64 u6, .int .i64 u7]
section
variable {t g : Nat} {W W' : World}
theorem BoxI.chg {F : Nat → Prop} (h : BoxI t W) (c : Chg F W W') (n : ¬ F t) : BoxI t W' := by obtain ⟨u0, u1, h⟩ := h; exact ⟨u0, u1, h.chg c n⟩
theorem BoxN.chg {F : Nat → Prop} (h : BoxN t W) (c : Chg F W W') (n : ¬ F t) : BoxN t W' := by obtain ⟨u0, u1, u2, u3, u4, u5, u6, u7, h⟩ := h; exact ⟨u0, u1, u2, u3, u4, u5, u6, u7, h.chg c n⟩
theorem BoxI.grew (h : BoxI t W) (c : Grew W W') : BoxI t W' := h.chg (F := fun _ => False) (Chg.of_below c) (fun h => h)
theorem BoxN.grew (h : BoxN t W) (c : Grew W W') : BoxN t W' := h.chg (F := fun _ => False) (Chg.of_below c) (fun h => h)
theorem BoxI.al (h : BoxI t W) (o : Obj) : BoxI t (W.alloc o) := h.grew (grew_al (Below.refl _ _) o)
theorem BoxI.drew (h : BoxI t W) : BoxI t W.drew := h.grew (grew_d (Below.refl _ _))
theorem BoxI.ext {P : Nat} (x : Gd g P W) (h : BoxI t W) (n : ¬ t = g) : BoxI t (extg x) := h.chg x.chg n
theorem BoxI.set0 (h : BoxI t W) (v : Int) : BoxI t (W.setCell ⟨t, 0, none⟩ (.int .i64 v)) := by obtain ⟨u0, u1, h⟩ := h; exact ⟨v, u1, h.set_ 0 _⟩
theorem BoxI.set1 (h : BoxI t W) (v : Int) : BoxI t (W.setCell ⟨t, 1, none⟩ (.int .i64 v)) := by obtain ⟨u0, u1, h⟩ := h; exact ⟨u0, v, h.set_ 1 _⟩
theorem BoxI.far {p : Addr} (h : BoxI t W) (n : t < p.block) (u : Value) : BoxI t (W.setCell p u) := by obtain ⟨u0, u1, h⟩ := h; exact ⟨u0, u1, h.far (Nat.ne_of_lt n) u⟩
theorem BoxI.new (v0 v1 : Int) : BoxI W.heap.size (W.alloc (.cells #[.int .i64 v0, .int .i64 v1] 112)) := ⟨v0, v1, Blk.new _ _ _⟩
theorem BoxN.set0 (h : BoxN t W) (v : Int) : BoxN t (W.setCell ⟨t, 0, none⟩ (.int .i64 v)) := by obtain ⟨u0, u1, u2, u3, u4, u5, u6, u7, h⟩ := h; exact ⟨v, u1, u2, u3, u4, u5, u6, u7, h.set_ 0 _⟩
theorem BoxN.set1 (h : BoxN t W) (v : Int) : BoxN t (W.setCell ⟨t, 1, none⟩ (.int .i64 v)) := by obtain ⟨u0, u1, u2, u3, u4, u5, u6, u7, h⟩ := h; exact ⟨u0, v, u2, u3, u4, u5, u6, u7, h.set_ 1 _⟩
theorem BoxN.set2 (h : BoxN t W) (v : Int) : BoxN t (W.setCell ⟨t, 2, none⟩ (.int .i64 v)) := by obtain ⟨u0, u1, u2, u3, u4, u5, u6, u7, h⟩ := h; exact ⟨u0, u1, v, u3, u4, u5, u6, u7, h.set_ 2 _⟩
theorem BoxN.set3 (h : BoxN t W) (v : Int) : BoxN t (W.setCell ⟨t, 3, none⟩ (.int .i64 v)) := by obtain ⟨u0, u1, u2, u3, u4, u5, u6, u7, h⟩ := h; exact ⟨u0, u1, u2, v, u4, u5, u6, u7, h.set_ 3 _⟩
theorem BoxN.set4 (h : BoxN t W) (v : Int) : BoxN t (W.setCell ⟨t, 4, none⟩ (.int .i64 v)) := by obtain ⟨u0, u1, u2, u3, u4, u5, u6, u7, h⟩ := h; exact ⟨u0, u1, u2, u3, v, u5, u6, u7, h.set_ 4 _⟩
theorem BoxN.set5 (h : BoxN t W) (v : Int) : BoxN t (W.setCell ⟨t, 5, none⟩ (.int .i64 v)) := by obtain ⟨u0, u1, u2, u3, u4, u5, u6, u7, h⟩ := h; exact ⟨u0, u1, u2, u3, u4, v, u6, u7, h.set_ 5 _⟩
theorem BoxN.set6 (h : BoxN t W) (v : Int) : BoxN t (W.setCell ⟨t, 6, none⟩ (.int .i64 v)) := by obtain ⟨u0, u1, u2, u3, u4, u5, u6, u7, h⟩ := h; exact ⟨u0, u1, u2, u3, u4, u5, v, u7, h.set_ 6 _⟩
theorem BoxN.set7 (h : BoxN t W) (v : Int) : BoxN t (W.setCell ⟨t, 7, none⟩ (.int .i64 v)) := by obtain ⟨u0, u1, u2, u3, u4, u5, u6, u7, h⟩ := h; exact ⟨u0, u1, u2, u3, u4, u5, u6, v, h.set_ 7 _⟩
theorem BoxN.al (h : BoxN t W) (o : Obj) : BoxN t (W.alloc o) := h.grew (grew_al (Below.refl _ _) o)
theorem BoxN.drew (h : BoxN t W) : BoxN t W.drew := h.grew (grew_d (Below.refl _ _))
theorem BoxN.ext {P : Nat} (x : Gd g P W) (h : BoxN t W) (n : ¬ t = g) : BoxN t (extg x) := h.chg x.chg n
theorem BoxN.far {p : Addr} (h : BoxN t W) (n : ¬ t = p.block) (u : Value) : BoxN t (W.setCell p u) := by obtain ⟨u0, u1, u2, u3, u4, u5, u6, u7, h⟩ := h; exact ⟨u0, u1, u2, u3, u4, u5, u6, u7, h.far n u⟩
theorem BoxN.new (u0 u1 u2 u3 u4 u5 u6 u7 : Int) (h : t = W.heap.size) : BoxN t (W.alloc (.cells #[.int .i64 u0, .int .i64 u1, .int .i64 u2, .int .i64 u3, .int .i64 u4, .int .i64 u5, .int .i64 u6, .int .i64 u7] 44)) := by subst h; exact ⟨u0, u1, u2, u3, u4, u5, u6, u7, Blk.new _ _ _⟩
/-- A call met in whatever world of a kind. -/
theorem calls_gen {P : Program} {f : FuncId} {args : Array Value} {Rr : Ending → World → Prop} {w : World} {p : Nat} (t1 t2 : Nat) (hc : ChgG g w W) (hr : RdLe W g p) (h1 : BoxN t1 W) (h2 : BoxN t2 W)
    (h : ∀ E, ChgG g w E → RdLe E g p → BoxN t1 E → BoxN t2 E → Calls P f args E Rr) : Calls P f args W Rr := h W hc hr h1 h2
theorem BoxI.get0 (h : BoxI t W) : ∃ x : Int, W.cell? ⟨t, 0, none⟩ = some (.int .i64 x) := by obtain ⟨u0, u1, h⟩ := h; exact ⟨u0, h.cell 0⟩
theorem BoxI.get1 (h : BoxI t W) : ∃ x : Int, W.cell? ⟨t, 1, none⟩ = some (.int .i64 x) := by obtain ⟨u0, u1, h⟩ := h; exact ⟨u1, h.cell 1⟩
theorem BoxN.lt (h : BoxN t W) : t < W.heap.size := by obtain ⟨u0, u1, u2, u3, u4, u5, u6, u7, h⟩ := h; exact h.lt
theorem BoxI.lt (h : BoxI t W) : t < W.heap.size := by obtain ⟨u0, u1, h⟩ := h; exact h.lt
theorem BoxN.fz (h : BoxN t W) : ∀ j, W.frozen? ⟨t, j, none⟩ = false := by obtain ⟨u0, u1, u2, u3, u4, u5, u6, u7, h⟩ := h; exact fun j => h.frozen j
theorem BoxN.all (h : BoxN t W) : ∃ u0 u1 u2 u3 u4 u5 u6 u7 : Int, W.cell? ⟨t, 0, none⟩ = some (.int .i64 u0) ∧ W.cell? ⟨t, 1, none⟩ = some (.int .i64 u1) ∧ W.cell? ⟨t, 2, none⟩ = some (.int .i64 u2) ∧ W.cell? ⟨t, 3, none⟩ = some (.int .i64 u3) ∧ W.cell? ⟨t, 4, none⟩ = some (.int .i64 u4) ∧ W.cell? ⟨t, 5, none⟩ = some (.int .i64 u5) ∧ W.cell? ⟨t, 6, none⟩ = some (.int .i64 u6) ∧ W.cell? ⟨t, 7, none⟩ = some (.int .i64 u7) := by
  obtain ⟨u0, u1, u2, u3, u4, u5, u6, u7, h⟩ := h
  exact ⟨u0, u1, u2, u3, u4, u5, u6, u7, h.cell 0, h.cell 1, h.cell 2, h.cell 3, h.cell 4, h.cell 5, h.cell 6, h.cell 7⟩
theorem body_boxN {P : Program} {f : Func} {Q : Ending → World → Prop} {x : Exit} {a : Act} (hb : BoxN t W) (h : ∀ E, E = W → ∀ u0 u1 u2 u3 u4 u5 u6 u7 : Int, E.cell? ⟨t, 0, none⟩ = some (.int .i64 u0) → E.cell? ⟨t, 1, none⟩ = some (.int .i64 u1) → E.cell? ⟨t, 2, none⟩ = some (.int .i64 u2) → E.cell? ⟨t, 3, none⟩ = some (.int .i64 u3) → E.cell? ⟨t, 4, none⟩ = some (.int .i64 u4) → E.cell? ⟨t, 5, none⟩ = some (.int .i64 u5) → E.cell? ⟨t, 6, none⟩ = some (.int .i64 u6) → E.cell? ⟨t, 7, none⟩ = some (.int .i64 u7) → bodyPost P f Q x a E) : bodyPost P f Q x a W := by
  obtain ⟨u0, u1, u2, u3, u4, u5, u6, u7, hb⟩ := hb
  exact h W rfl u0 u1 u2 u3 u4 u5 u6 u7 (hb.cell 0) (hb.cell 1) (hb.cell 2) (hb.cell 3) (hb.cell 4) (hb.cell 5) (hb.cell 6) (hb.cell 7)
theorem body_boxI {P : Program} {f : Func} {Q : Ending → World → Prop} {x : Exit} {a : Act} (hb : BoxI t W) (h : ∀ E, E = W → ∀ u0 u1 : Int, E.cell? ⟨t, 0, none⟩ = some (.int .i64 u0) → E.cell? ⟨t, 1, none⟩ = some (.int .i64 u1) → bodyPost P f Q x a E) : bodyPost P f Q x a W := by
  obtain ⟨u0, u1, hb⟩ := hb
  exact h W rfl u0 u1 (hb.cell 0) (hb.cell 1)
end
end Go.Proofs.Ytmcfengnihomcaa
