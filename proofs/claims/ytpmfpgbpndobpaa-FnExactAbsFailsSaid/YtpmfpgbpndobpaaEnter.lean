/- Lemmas and walks of this proof, some texts one behind the other. No condition. -/
import Derived.Test.YtpmfpgbpndobpaaMarks
import Derived.Test.YtpmfpgbpndobpaaBlk
import Derived.Test.YtpmfpgbpndobpaaProgEq
set_option linter.unusedSimpArgs false
set_option linter.unusedVariables false
/- Boxes whose cells are known, and the marking of a procedure. No condition. -/
namespace Go.Proofs.Ytpmfpgbpndobpaa
open Go.RowKit
set_option linter.unusedVariables false
attribute [local go_sem] ext_cell ext_frozen ext_lt ext_le ext_le1 lt_s2 lt_s3 lt_s4 lt_s5 lt_s6 ext_lt1 ext_lt2 ext_lt3

/-- A box: a block whose cells are known. -/
def Boxd (w : World) (b : Nat) (cs : Array Value) : Prop := b < w.heap.size ∧ ∀ (j : Nat) (u : Value), cs[j]? = some u → w.cell? ⟨b, j, none⟩ = some u
theorem Boxd.new (w : World) (t : TypeId) (cs : Array Value) : Boxd (w.alloc (.cells cs t)) w.heap.size cs := ⟨by simp, fun j u hu => by rw [World.cell?_alloc_new]; exact hu⟩
theorem Boxd.grew {w w' : World} {b : Nat} {cs : Array Value} (h : Boxd w b cs) (g : Grew w w') : Boxd w' b cs := ⟨Nat.lt_of_lt_of_le h.1 g.size, fun j u hu => (g.cell (p := ⟨b, j, none⟩) h.1).trans (h.2 j u hu)⟩
theorem Boxd.chg {F : Nat → Prop} {w w' : World} {b : Nat} {cs : Array Value} (h : Boxd w b cs) (c : Chg F w w') (hF : ¬ F b) : Boxd w' b cs :=
  ⟨Nat.lt_of_lt_of_le h.1 c.size, fun j u hu => (World.cell?_of_block (w := w) (w' := w') (a := ⟨b, j, none⟩) (c.block b h.1 hF)).trans (h.2 j u hu)⟩

end Go.Proofs.Ytpmfpgbpndobpaa

/- What copies of programs are in memory. No condition. -/
namespace Go.Proofs.Ytpmfpgbpndobpaa
open Go.RowKit
set_option linter.unusedVariables false

theorem int_is {P : Program} {f : FuncId} {args : Array Value} {w : World} {X b : Int} {R : World → Prop} (c : Calls P f args w fun e w' => e = .returned (.int .i64 X) ∧ R w') (h : X = b) :
    Calls P f args w fun e w' => e = .returned (.int .i64 b) ∧ R w' := by subst h; exact c
theorem prg_rd {w : World} {B n cap : Nat} {a : Option Addr} {ms : List (Prc × Value)} {ps : List Prc} (h : OwnP w B (.slice a n cap) n ms) (e : ms.map (·.1) = ps) : RdP w a n ps := by subst e; exact h.rd
end Go.Proofs.Ytpmfpgbpndobpaa

/- The marking of a program. No condition. -/
namespace Go.Proofs.Ytpmfpgbpndobpaa
open Go.RowKit
set_option linter.unusedVariables false
attribute [local go_sem] ext_cell ext_frozen ext_lt ext_le ext_le1 lt_s2 lt_s3 lt_s4 lt_s5 lt_s6 ext_lt1 ext_lt2 ext_lt3

theorem own_ne {w : World} {B B2 : Nat} {e e2 : TypeId} {s s2 n n2 : Nat} {v v2 : Value} {xs ys : List Value} (h : w.ownsRow B e s v n xs) (h2 : w.ownsRow B2 e2 s2 v2 n2 ys) (hne : e ≠ e2) {b : Nat} (hb : v.ownBlock = some b) : v2.ownBlock ≠ some b := by
  intro hb2
  rcases h.2 with ⟨rfl, _⟩ | ⟨g, cap, cur, rfl, _, h3, _⟩
  · cases hb
  rcases h2.2 with ⟨rfl, _⟩ | ⟨g', cap', cur', rfl, _, h4, _⟩
  · cases hb2
  simp only [Value.ownBlock, Option.some.injEq] at hb hb2
  subst hb hb2
  rw [h3] at h4
  simp only [Option.some.injEq, Obj.cells.injEq] at h4
  exact hne h4.2.1
theorem own_mark {w w' : World} {B : Nat} {e : TypeId} {s n n2 : Nat} {v v2 : Value} {xs ys zs : List Value} (h : w.ownsRow B e s v n xs) (o : w.ownsRow B e s v2 n2 ys) (o' : w'.ownsRow B e s v2 n2 zs) (c : Chg (fun b => v2.ownBlock = some b) w w') : ∃ xs', w'.ownsRow B e s v n xs' := by
  rcases h.2 with h0 | ⟨g, cap, cur, rfl, hg, h3, h4, h5, h6, h7⟩
  · exact ⟨xs, h.1, .inl h0⟩
  by_cases hb : v2.ownBlock = some g
  · rcases o.2 with ⟨rfl, _⟩ | ⟨g2, cap2, cur2, rfl, _, k3, k4, k5, k6, k7⟩
    · cases hb
    simp only [Value.ownBlock, Option.some.injEq] at hb
    subst hb
    rcases o'.2 with ⟨hx, _⟩ | ⟨g3, cap3, cur3, hx, _, l3, l4, l5, l6, l7⟩
    · simp at hx
    simp only [Value.slice.injEq, Option.some.injEq, Addr.mk.injEq, true_and] at hx
    obtain ⟨⟨rfl, -⟩, rfl⟩ := hx
    rw [h3] at k3
    simp only [Option.some.injEq, Obj.cells.injEq] at k3
    obtain ⟨rfl, -⟩ := k3
    refine ⟨cur3.toList.take (n * s), ?_, .inr ⟨_, cap, cur3, rfl, hg, l3, h4, h5, by rw [l6, ← k6, h6], rfl⟩⟩
    rw [List.length_take, Array.length_toList, l6, ← k6, h6]
    exact Nat.min_eq_left (Nat.mul_le_mul_right _ h4)
  · exact ⟨xs, owns_chg h c (fun b hb' => by simp only [Value.ownBlock, Option.some.injEq] at hb'; subst hb'; exact hb)⟩

/-- The blocks of a copy lie between. -/
def BlkP (B N : Nat) (v : Value) (ms : List (Prc × Value)) : Prop := ∀ b, (v.ownBlock = some b ∨ ∃ m, m ∈ ms ∧ m.2.ownBlock = some b) → B ≤ b ∧ b < N
theorem OwnP.blk {w : World} {B n : Nat} {v : Value} {ms : List (Prc × Value)} (h : OwnP w B v n ms) : BlkP B w.heap.size v ms := by
  rintro b (hb | ⟨m, hm, hb⟩)
  · exact h.2.1.lt b hb
  · exact (h.2.2 m hm).lt b hb
def MInv (w : World) (B N n cap : Nat) (a : Option Addr) (ms : List (Prc × Value)) (wr : World) : Prop :=
  Chg (fun b => B ≤ b ∧ b < N) w wr ∧ (∃ ys, wr.ownsRow B 77 3 (.slice a n cap) n ys ∧ ∀ k m, ms[k]? = some m → ys[k * 3 + 2]? = some m.2) ∧ ∀ m, m ∈ ms → ∃ xs, wr.ownsRow B 39 8 m.2 m.1.code.length xs
theorem prcCells_get : ∀ (ms : List (Prc × Value)) (k : Nat) (m : Prc × Value), ms[k]? = some m → (ms.flatMap prcCells)[k * 3 + 2]? = some m.2
  | [], k, m, h => by simp at h
  | x :: ms, 0, m, h => by
    simp only [List.getElem?_cons_zero, Option.some.injEq] at h
    subst h
    rfl
  | x :: ms, k + 1, m, h => by
    rw [List.getElem?_cons_succ] at h
    rw [List.flatMap_cons, List.getElem?_append_right (by rw [prc_len]; omega), prc_len, show (k + 1) * 3 + 2 - 3 = k * 3 + 2 from by omega]
    exact prcCells_get ms k m h

end Go.Proofs.Ytpmfpgbpndobpaa

/- The beginning of a call. No condition. -/
namespace Go.Proofs.Ytpmfpgbpndobpaa
open Go.RowKit
set_option linter.unusedVariables false
set_option linter.unusedSimpArgs false
attribute [local go_sem] ext_cell ext_frozen ext_lt ext_le ext_le1 lt_s2 lt_s3 lt_s4 lt_s5 lt_s6 ext_lt1 ext_lt2 ext_lt3

def RetEnter (proc arg : Int) (w : World) (e : Ending) (w' : World) : Prop :=
  ∃ b1 b2, e = .returned (.agg #[.int .i64 proc, .int .i64 0, .slice (some ⟨b1, 0, none⟩) 4 4, .slice (some ⟨b2, 0, none⟩) 4 4]) ∧ Blk w' b1 3 #[.int .i64 arg, .int .i64 0, .int .i64 0, .int .i64 0] ∧ Blk w' b2 3 #[.int .i64 0, .int .i64 0, .int .i64 0, .int .i64 0] ∧
    w.heap.size ≤ b1 ∧ w.heap.size ≤ b2 ∧ b1 ≠ b2 ∧ Grew w w'
theorem Blk.new' {w : World} {t : TypeId} {cs : Array Value} {g : Nat} (h : g = w.heap.size) : Blk (w.alloc (.cells cs t)) g t cs := by subst h; exact Blk.new _ _ _
end Go.Proofs.Ytpmfpgbpndobpaa
