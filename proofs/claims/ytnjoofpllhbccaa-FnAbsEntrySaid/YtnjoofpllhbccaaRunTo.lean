/- Runs: their copies and sizes. No condition. -/
import Derived.Test.YtnjoofpllhbccaaRunD
import Derived.Test.YtnjoofpllhbccaaProgEq
import Derived.Test.YtnjoofpllhbccaaState
namespace Go.Proofs.Ytnjoofpllhbccaa
open Go.RowKit
set_option linter.unusedVariables false
attribute [local go_sem] ext_cell ext_frozen ext_lt ext_le ext_le1 lt_s2 lt_s3 lt_s4 lt_s5 lt_s6 ext_lt1 ext_lt2 ext_lt3

def frCells (m : Fr × Value × Value) : List Value := [.int .i64 m.1.proc, .int .i64 m.1.pc, m.2.1, m.2.2]
theorem fr_len (m : Fr × Value × Value) : (frCells m).length = 4 := rfl
def OwnF (w : World) (B : Nat) (v : Value) (n : Nat) (ms : List (Fr × Value × Value)) : Prop :=
  ms.length = n ∧ w.ownsRow B 76 4 v n (ms.flatMap frCells) ∧ ∀ m, m ∈ ms → w.ownsRow B 3 1 m.2.1 m.1.vars.length (ints .i64 m.1.vars) ∧ w.ownsRow B 3 1 m.2.2 m.1.cells.length (ints .i64 m.1.cells)
theorem OwnF.rd {w : World} {B n cap : Nat} {a : Option Addr} {ms : List (Fr × Value × Value)} (h : OwnF w B (.slice a n cap) n ms) : RdF w a n (ms.map (·.1)) := by
  obtain ⟨hn, h1, h2⟩ := h
  have h3 := rdl_of_rd (E := fun w cs (m : Fr × Value × Value) => EFr w cs m.1) frCells (by omega) fr_len hn (owns_rd h1) (fun m hm => by
    obtain ⟨h4, h5⟩ := h2 m hm
    obtain ⟨a', c', hv⟩ := owns_slice h4
    obtain ⟨a2, c2, hv2⟩ := owns_slice h5
    rw [hv] at h4
    rw [hv2] at h5
    exact ⟨a', c', a2, c2, by rw [frCells, hv, hv2], owns_rd h4, owns_rd h5, Nat.le_trans (owns_cap h4).1 (owns_cap h4).2, Nat.le_trans (owns_cap h5).1 (owns_cap h5).2⟩)
  refine ⟨by rw [List.length_map]; exact hn, ?_⟩
  rcases h3.2 with h0 | ⟨b, off, e, hc⟩
  · exact .inl h0
  · refine .inr ⟨b, off, e, fun k p hp => ?_⟩
    rw [List.getElem?_map, Option.map_eq_some_iff] at hp
    obtain ⟨m, hm, rfl⟩ := hp
    exact hc k m hm
theorem OwnF.chg {F : Nat → Prop} {w w' : World} {B n : Nat} {v : Value} {ms : List (Fr × Value × Value)} (h : OwnF w B v n ms) (hc : Chg F w w') (hF : ∀ b, B ≤ b → b < w.heap.size → ¬ F b) : OwnF w' B v n ms :=
  ⟨h.1, owns_chg h.2.1 hc (fun b hb => hF b (h.2.1.lt b hb).1 (h.2.1.lt b hb).2), fun m hm => ⟨owns_chg (h.2.2 m hm).1 hc (fun b hb => hF b ((h.2.2 m hm).1.lt b hb).1 ((h.2.2 m hm).1.lt b hb).2), owns_chg (h.2.2 m hm).2 hc (fun b hb => hF b ((h.2.2 m hm).2.lt b hb).1 ((h.2.2 m hm).2.lt b hb).2)⟩⟩
theorem OwnF.grew {w w' : World} {B n : Nat} {v : Value} {ms : List (Fr × Value × Value)} (h : OwnF w B v n ms) (hc : Grew w w') : OwnF w' B v n ms :=
  h.chg (Chg.of_below (F := fun _ => False) hc) (fun _ _ _ hf => hf)





end Go.Proofs.Ytnjoofpllhbccaa
