/- What the order of the parts is: each part stands once, behind all that it needs; what is ready. No condition. -/
import Derived.Test.YtnjoofpllhbccaaGreatGnd
import Derived.Test.YtnjoofpllhbccaaGreatRq
namespace Go.Proofs.YtnjoofpllhbccaaGreat
open Go.RowKit
set_option linter.unusedVariables false
set_option linter.unusedSimpArgs false

theorem ordN_take (c : Int → List Int) (parts : List (List Int)) (j : Nat) : ∀ d, (ordN c parts (j + d)).2.take j = (ordN c parts j).2
  | 0 => by rw [Nat.add_zero, List.take_of_length_le (by rw [ordN_out]; exact Nat.le_refl _)]
  | d + 1 => by
    have ih := ordN_take c parts j d
    rw [← Nat.add_assoc, ordN, ordS]
    simp only
    rw [List.take_append_of_le_length (by rw [ordN_out]; omega), ih]
theorem ord_first {c : Int → List Int} {n : Nat} (hc : ∀ k x, x ∈ c k → 0 ≤ x ∧ x < n) (hn : 0 < n) {j : Nat} (hj : j < (partsL c n).length) : ∃ k : Nat, k < (partsL c n).length ∧ (ordN c (partsL c n) j).1.getD k false = false ∧ metB c (partsL c n) (ordN c (partsL c n) j).1 k = true ∧ ordN c (partsL c n) (j + 1) = ((ordN c (partsL c n) j).1.set k true, (ordN c (partsL c n) j).2 ++ [(k : Int)]) := by
  have h4 := (ord_inv hc hn j (by omega)).2.2.2 hj
  cases h : readyL c (partsL c n) (ordN c (partsL c n) j).1 with
  | nil => exact absurd h h4
  | cons x t =>
    obtain ⟨k, rfl, hk, hd, hm⟩ := (readyL_mem c (partsL c n) (ordN c (partsL c n) j).1 x).1 (by rw [h]; simp)
    exact ⟨k, hk, hd, hm, by rw [ordN_next h]; rfl⟩
theorem ord_mem {c : Int → List Int} {n : Nat} (hc : ∀ k x, x ∈ c k → 0 ≤ x ∧ x < n) (hn : 0 < n) : ∀ j, j ≤ (partsL c n).length → ∀ i : Nat, i < (partsL c n).length → ((ordN c (partsL c n) j).1.getD i false = true ↔ (i : Int) ∈ (ordN c (partsL c n) j).2)
  | 0, _, i, hi => by simp [ordN, hi]
  | j + 1, hj, i, hi => by
    have ih := ord_mem hc hn j (by omega) i hi
    obtain ⟨k, hk, hd, hm, he⟩ := ord_first hc hn (j := j) (by omega)
    have hl := ordN_done c (partsL c n) j
    rw [he]
    simp only [List.mem_append, List.mem_singleton]
    rw [← ih]
    by_cases e : i = k
    · subst e
      simp [List.getD_eq_getElem?_getD, List.getElem?_set, hl, hi]
    · have e2 : ¬ (i : Int) = (k : Int) := by omega
      have e3 : ¬ k = i := fun h => e h.symm
      simp [List.getD_eq_getElem?_getD, List.getElem?_set, e3, e2]
theorem grfOrder_n (ps : List Prc) : (grfOrder ps).length = (grfParts ps).length := by rw [grfOrder, ordN_out]
/-- What stands at a place of the order was not there ahead; all that it needs was. -/
theorem order_at {ps : List Prc} {j : Nat} {x : Int} (h : (grfOrder ps)[j]? = some x) : ¬ x ∈ (grfOrder ps).take j ∧ ∀ y, y ∈ grfNeeds ps x → y ∈ (grfOrder ps).take j := by
  have hj : j < (grfParts ps).length := by
    obtain ⟨h1, _⟩ := List.getElem?_eq_some_iff.1 h
    rw [grfOrder_n] at h1
    exact h1
  have hB := (parts_ok (by omega : 0 < (grfParts ps).length)).1
  have hc := gok_of hB
  have hn := prt_pos hB
  have hj' := hj
  rw [prt_eq hB] at hj'
  have h2 : (grfOrder ps).take j = (ordN (cOf' (csOf ps)) (partsL (cOf' (csOf ps)) (csOf ps).length) j).2 := by
    rw [grfOrder, prt_eq hB]
    obtain ⟨d, hd⟩ := Nat.exists_eq_add_of_le (Nat.le_of_lt hj')
    rw [hd]
    exact ordN_take _ _ _ _
  obtain ⟨k, hk, hd, hm, he⟩ := ord_first hc hn hj'
  have h3 : (grfOrder ps).take (j + 1) = (ordN (cOf' (csOf ps)) (partsL (cOf' (csOf ps)) (csOf ps).length) (j + 1)).2 := by
    rw [grfOrder, prt_eq hB]
    obtain ⟨d, hd⟩ := Nat.exists_eq_add_of_le (Nat.succ_le_of_lt hj')
    rw [hd]
    exact ordN_take _ _ _ _
  rw [List.take_add_one, h, h2, he] at h3
  have hx : x = (k : Int) := by
    have := List.append_cancel_left h3
    simpa using this
  subst hx
  have hkm := ord_mem hc hn j (by omega)
  rw [h2]
  refine ⟨fun e => ?_, fun y hy => ?_⟩
  · rw [← hkm k hk, hd] at e
    cases e
  · have hy0 := hy
    rw [grfNeeds_yes (by rw [prt_eq hB]; exact hk), prt_eq hB] at hy
    obtain ⟨o, rfl, ho, _, _⟩ := (needsI_mem _ _ _ _).1 hy
    rw [← hkm o ho]
    simp only [metB, List.all_eq_true] at hm
    exact hm _ hy
end Go.Proofs.YtnjoofpllhbccaaGreat
