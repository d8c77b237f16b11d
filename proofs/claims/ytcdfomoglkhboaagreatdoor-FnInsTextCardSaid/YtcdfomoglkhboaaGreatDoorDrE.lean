/- Lemmas and walks of this proof, some texts one behind the other. No condition. -/
import Derived.Test.YtcdfomoglkhboaaGreatDoorDIns
import Derived.Test.YtcdfomoglkhboaaGreatDoorDrL
set_option linter.unusedSimpArgs false
set_option linter.unusedVariables false
/- Programs copied into new memory: what the copies own. No condition. -/
namespace Go.Proofs.YtcdfomoglkhboaaGreatDoor
open Go.RowKit
set_option linter.unusedVariables false
attribute [local go_sem] ext_cell ext_frozen ext_lt ext_le ext_le1 lt_s2 lt_s3 lt_s4 lt_s5 lt_s6 ext_lt1 ext_lt2 ext_lt3

theorem ins_len (i : Ins) : i.cells.length = 8 := rfl
/-- What a copied program owns: a row of procedures, and for each its row of instructions. -/
def prcCells (m : Prc × Value) : List Value := [.int .i64 m.1.lo, .int .i64 m.1.hi, m.2]
theorem prc_len (m : Prc × Value) : (prcCells m).length = 3 := rfl
def OwnP (w : World) (B : Nat) (v : Value) (n : Nat) (ms : List (Prc × Value)) : Prop :=
  ms.length = n ∧ w.ownsRow B 56 3 v n (ms.flatMap prcCells) ∧ ∀ m, m ∈ ms → w.ownsRow B 38 8 m.2 m.1.code.length (m.1.code.flatMap Ins.cells)

theorem rdI_of_own {w : World} {B n cap : Nat} {a : Option Addr} {is : List Ins} (hn : is.length = n) (h : w.ownsRow B 38 8 (.slice a n cap) n (is.flatMap Ins.cells)) : RdL EIns 8 w a n is :=
  rdl_of_rd Ins.cells (by omega) ins_len hn (owns_rd h) (fun x _ => rfl)
theorem OwnP.rd {w : World} {B n cap : Nat} {a : Option Addr} {ms : List (Prc × Value)} (h : OwnP w B (.slice a n cap) n ms) : RdP w a n (ms.map (·.1)) := by
  obtain ⟨hn, h1, h2⟩ := h
  have h3 := rdl_of_rd (E := fun w cs (m : Prc × Value) => EPrc w cs m.1) prcCells (by omega) prc_len hn (owns_rd h1) (fun m hm => by
    obtain ⟨a', c', hv⟩ := owns_slice (h2 m hm)
    have h4 := h2 m hm
    rw [hv] at h4
    exact ⟨a', c', by rw [prcCells, hv], rdI_of_own rfl h4, owns_cap h4⟩)
  refine ⟨by rw [List.length_map]; exact hn, ?_⟩
  rcases h3.2 with h0 | ⟨b, off, e, hc⟩
  · exact .inl h0
  · refine .inr ⟨b, off, e, fun k p hp => ?_⟩
    rw [List.getElem?_map, Option.map_eq_some_iff] at hp
    obtain ⟨m, hm, rfl⟩ := hp
    exact hc k m hm
theorem OwnP.chg {F : Nat → Prop} {w w' : World} {B n : Nat} {v : Value} {ms : List (Prc × Value)} (h : OwnP w B v n ms) (hc : Chg F w w') (hF : ∀ b, B ≤ b → b < w.heap.size → ¬ F b) : OwnP w' B v n ms :=
  ⟨h.1, owns_chg h.2.1 hc (fun b hb => hF b (h.2.1.lt b hb).1 (h.2.1.lt b hb).2), fun m hm => owns_chg (h.2.2 m hm) hc (fun b hb => hF b ((h.2.2 m hm).lt b hb).1 ((h.2.2 m hm).lt b hb).2)⟩
theorem OwnP.grew {w w' : World} {B n : Nat} {v : Value} {ms : List (Prc × Value)} (h : OwnP w B v n ms) (hc : Grew w w') : OwnP w' B v n ms :=
  h.chg (Chg.of_below (F := fun _ => False) hc) (fun _ _ _ hf => hf)

end Go.Proofs.YtcdfomoglkhboaaGreatDoor

/- The draw of a procedure: its last step is put behind. No condition. -/
namespace Go.Proofs.YtcdfomoglkhboaaGreatDoor
open Go.RowKit
set_option linter.unusedVariables false
set_option linter.unusedSimpArgs false
attribute [local go_sem] dg_cell dg_frozen dg_lt dg_lt1 dg_lt2 dg_ne dg_ne1 dg_ne2 dg_new dg_wen lt_s2 lt_s3 lt_s4 lt_s5 lt_s6

theorem owns_far {w : World} {base : Nat} {e : TypeId} {size n : Nat} {v : Value} {xs : List Value} (h : w.ownsRow base e size v n xs) {p : Addr} (hp : v.ownBlock ≠ some p.block) (u : Value) : (w.setCell p u).ownsRow base e size v n xs :=
  owns_chg h (⟨rfl, rfl, rfl, by simp, fun k hk hn => Below.heap_setCell w p u k hn⟩ : Chg (fun b => b = p.block) w (w.setCell p u)) (fun b hb e => hp (by rw [hb, e]))
end Go.Proofs.YtcdfomoglkhboaaGreatDoor
