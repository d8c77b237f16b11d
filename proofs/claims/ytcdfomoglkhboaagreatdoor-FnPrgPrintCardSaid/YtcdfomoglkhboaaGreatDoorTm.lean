/- The program's map of readers. No condition. -/
import Derived.Test.YtcdfomoglkhboaaGreatDoorTrd
namespace Go.Proofs.YtcdfomoglkhboaaGreatDoor
open Go.RowKit Go.Lib
set_option linter.unusedVariables false
set_option linter.unusedSimpArgs false
attribute [local go_sem] ext_cell ext_frozen ext_lt ext_le ext_le1 lt_s2 lt_s3 lt_s4 lt_s5 lt_s6 ext_lt1 ext_lt2 ext_lt3

/-- A world with another object in a block. -/
def putW (w : World) (g : Nat) (o : Obj) : World := { w with heap := w.heap.setIfInBounds g o }
theorem putW_ne {w : World} {g i : Nat} {o : Obj} (h : i ≠ g) : (putW w g o).heap[i]? = w.heap[i]? := by
  simp [putW, Array.getElem?_setIfInBounds, Ne.symm h]
theorem putW_self {w : World} {g : Nat} {o : Obj} (h : g < w.heap.size) : (putW w g o).heap[g]? = some o := by
  simp [putW, h]
theorem putW_size {w : World} {g : Nat} {o : Obj} : (putW w g o).heap.size = w.heap.size := by simp [putW]
theorem putW_grew {w W : World} {g : Nat} {o : Obj} (h : Grew w W) (hg : w.heap.size ≤ g) : Grew w (putW W g o) :=
  ⟨h.os, h.tape, h.output, by rw [putW_size]; exact h.size, fun k hk => by rw [putW_ne (by omega)]; exact h.block k hk⟩
theorem mapPutS {P : Program} (w : World) (mty kt et clock g : Nat) (k : ByteArray) (es : Array MapEntry) (val : Value) (hm : P.underlying mty = some (.map kt et)) (hk : P.underlying kt = some .string) (hb : w.heap[g]? = some (.map es clock)) (hf : Instr.findNow .string (.string k) es.toList 0 = some none) :
    (Instr.mapUpdate mty (.map (some g)) (.string k) val).run P w = .ok () (putW w g (.map (es.push { key := .string k, val := val, born := clock }) (clock + 1))) := by
  have hc : (Instr.checkKey false 10000 kt (.string k)).run P w = .ok () w := MapKept.run_checkKey (k := .string k) hk (by simp [MapKept.IsKey]) false 9999
  simp [Instr.mapUpdate, run_underlying hm, MapKept.run_getObj_map hb, hc, MapKept.run_findKey hk hf, MapKept.run_setObj_map _ hb, Result.andThen, putW]
/-- An entry: a reader that captures nothing. -/
def entF (k : List UInt8) (f : FuncId) (b : Nat) : MapEntry := { key := .string ⟨k.toArray⟩, val := .func (.func f) #[] #[], born := b }
def base9 : Array MapEntry := #[entF (nameT 5) 76 0, entF (nameT 6) 79 1, entF (nameT 7) 80 2, entF (nameT 9) 81 3,
  entF (nameT 10) 82 4, entF (nameT 12) 83 5, entF setT 84 6, entF (nameT 8) 85 7, entF (nameT 11) 87 8]

theorem run_mkMap {P : Program} (t : TypeId) (w : World) : (Instr.makeMap t none).run P w = .ok (.map (some w.heap.size)) (w.alloc (.map #[] 0)) := rfl
theorem implArithN (w : World) : Calls Tryz.prog 88 #[] w fun e w' => ∃ v, e = .returned v ∧ RowS w.heap.size 5 5 arithL w' v ∧ Grew w w' := by
  go_enter Tryz.func88, Tryz.ntmps88
  go_wp2
  go_ret
  exact ⟨_, rfl, rowS_newG (Below.refl _ _) rfl, gr⟩
set_option maxRecDepth 100000 in
theorem readersA (w : World) : ∃ W9, Grew w W9 ∧ w.heap.size < W9.heap.size ∧ W9.heap[w.heap.size]? = some (.map base9 9) ∧
    (Instr.makeMap 77 none).run Tryz.prog w = .ok (.map (some w.heap.size)) (w.alloc (.map #[] 0)) ∧ ∃ W1 W2 W3 W4 W5 W6 W7 W8,
    (Instr.mapUpdate 77 (.map (some w.heap.size)) (.string ⟨(nameT 5).toArray⟩) (.func (.func 76) #[] #[])).run Tryz.prog (w.alloc (.map #[] 0)) = .ok () W1 ∧
    (Instr.mapUpdate 77 (.map (some w.heap.size)) (.string ⟨(nameT 6).toArray⟩) (.func (.func 79) #[] #[])).run Tryz.prog W1 = .ok () W2 ∧
    (Instr.mapUpdate 77 (.map (some w.heap.size)) (.string ⟨(nameT 7).toArray⟩) (.func (.func 80) #[] #[])).run Tryz.prog W2 = .ok () W3 ∧
    (Instr.mapUpdate 77 (.map (some w.heap.size)) (.string ⟨(nameT 9).toArray⟩) (.func (.func 81) #[] #[])).run Tryz.prog W3 = .ok () W4 ∧
    (Instr.mapUpdate 77 (.map (some w.heap.size)) (.string ⟨(nameT 10).toArray⟩) (.func (.func 82) #[] #[])).run Tryz.prog W4 = .ok () W5 ∧
    (Instr.mapUpdate 77 (.map (some w.heap.size)) (.string ⟨(nameT 12).toArray⟩) (.func (.func 83) #[] #[])).run Tryz.prog W5 = .ok () W6 ∧
    (Instr.mapUpdate 77 (.map (some w.heap.size)) (.string ⟨(setT).toArray⟩) (.func (.func 84) #[] #[])).run Tryz.prog W6 = .ok () W7 ∧
    (Instr.mapUpdate 77 (.map (some w.heap.size)) (.string ⟨(nameT 8).toArray⟩) (.func (.func 85) #[] #[])).run Tryz.prog W7 = .ok () W8 ∧
    (Instr.mapUpdate 77 (.map (some w.heap.size)) (.string ⟨(nameT 11).toArray⟩) (.func (.func 87) #[] #[])).run Tryz.prog W8 = .ok () W9 := by
  have hmm := run_mkMap (P := Tryz.prog) 77 w
  have h0 : (w.alloc (.map #[] 0)).heap[w.heap.size]? = some (.map #[] 0) := heap_alloc_new w _
  have g0 := grew_al (Below.refl _ w) (.map #[] 0)
  have s0 : w.heap.size < (w.alloc (.map #[] 0)).heap.size := by simp
  have q1 := mapPutS (P := Tryz.prog) (w.alloc (.map #[] 0)) 77 9 75 0 w.heap.size ⟨(nameT 5).toArray⟩ (#[] : Array MapEntry) (.func (.func 76) #[] #[]) (by kernel_rfl) (by kernel_rfl) h0 (by kernel_rfl)
  have h1 : (putW (w.alloc (.map #[] 0)) w.heap.size (.map (#[entF (nameT 5) 76 0] : Array MapEntry) 1)).heap[w.heap.size]? = some (.map (#[entF (nameT 5) 76 0] : Array MapEntry) 1) := putW_self s0
  have g1 : Grew w (putW (w.alloc (.map #[] 0)) w.heap.size (.map (#[entF (nameT 5) 76 0] : Array MapEntry) 1)) := putW_grew g0 (Nat.le_refl _)
  have s1 : w.heap.size < (putW (w.alloc (.map #[] 0)) w.heap.size (.map (#[entF (nameT 5) 76 0] : Array MapEntry) 1)).heap.size := by rw [putW_size]; exact s0
  generalize hW1 : putW (w.alloc (.map #[] 0)) w.heap.size (.map (#[entF (nameT 5) 76 0] : Array MapEntry) 1) = W1 at h1 g1 s1
  have q1 : (Instr.mapUpdate 77 (.map (some w.heap.size)) (.string ⟨(nameT 5).toArray⟩) (.func (.func 76) #[] #[])).run Tryz.prog (w.alloc (.map #[] 0)) = .ok () W1 := by rw [← hW1]; exact q1
  clear hW1
  have q2 := mapPutS (P := Tryz.prog) W1 77 9 75 1 w.heap.size ⟨(nameT 6).toArray⟩ (#[entF (nameT 5) 76 0] : Array MapEntry) (.func (.func 79) #[] #[]) (by kernel_rfl) (by kernel_rfl) h1 (by kernel_rfl)
  have h2 : (putW W1 w.heap.size (.map (#[entF (nameT 5) 76 0, entF (nameT 6) 79 1] : Array MapEntry) 2)).heap[w.heap.size]? = some (.map (#[entF (nameT 5) 76 0, entF (nameT 6) 79 1] : Array MapEntry) 2) := putW_self s1
  have g2 : Grew w (putW W1 w.heap.size (.map (#[entF (nameT 5) 76 0, entF (nameT 6) 79 1] : Array MapEntry) 2)) := putW_grew g1 (Nat.le_refl _)
  have s2 : w.heap.size < (putW W1 w.heap.size (.map (#[entF (nameT 5) 76 0, entF (nameT 6) 79 1] : Array MapEntry) 2)).heap.size := by rw [putW_size]; exact s1
  generalize hW2 : putW W1 w.heap.size (.map (#[entF (nameT 5) 76 0, entF (nameT 6) 79 1] : Array MapEntry) 2) = W2 at h2 g2 s2
  have q2 : (Instr.mapUpdate 77 (.map (some w.heap.size)) (.string ⟨(nameT 6).toArray⟩) (.func (.func 79) #[] #[])).run Tryz.prog W1 = .ok () W2 := by rw [← hW2]; exact q2
  clear hW2
  have q3 := mapPutS (P := Tryz.prog) W2 77 9 75 2 w.heap.size ⟨(nameT 7).toArray⟩ (#[entF (nameT 5) 76 0, entF (nameT 6) 79 1] : Array MapEntry) (.func (.func 80) #[] #[]) (by kernel_rfl) (by kernel_rfl) h2 (by kernel_rfl)
  have h3 : (putW W2 w.heap.size (.map (#[entF (nameT 5) 76 0, entF (nameT 6) 79 1, entF (nameT 7) 80 2] : Array MapEntry) 3)).heap[w.heap.size]? = some (.map (#[entF (nameT 5) 76 0, entF (nameT 6) 79 1, entF (nameT 7) 80 2] : Array MapEntry) 3) := putW_self s2
  have g3 : Grew w (putW W2 w.heap.size (.map (#[entF (nameT 5) 76 0, entF (nameT 6) 79 1, entF (nameT 7) 80 2] : Array MapEntry) 3)) := putW_grew g2 (Nat.le_refl _)
  have s3 : w.heap.size < (putW W2 w.heap.size (.map (#[entF (nameT 5) 76 0, entF (nameT 6) 79 1, entF (nameT 7) 80 2] : Array MapEntry) 3)).heap.size := by rw [putW_size]; exact s2
  generalize hW3 : putW W2 w.heap.size (.map (#[entF (nameT 5) 76 0, entF (nameT 6) 79 1, entF (nameT 7) 80 2] : Array MapEntry) 3) = W3 at h3 g3 s3
  have q3 : (Instr.mapUpdate 77 (.map (some w.heap.size)) (.string ⟨(nameT 7).toArray⟩) (.func (.func 80) #[] #[])).run Tryz.prog W2 = .ok () W3 := by rw [← hW3]; exact q3
  clear hW3
  have q4 := mapPutS (P := Tryz.prog) W3 77 9 75 3 w.heap.size ⟨(nameT 9).toArray⟩ (#[entF (nameT 5) 76 0, entF (nameT 6) 79 1, entF (nameT 7) 80 2] : Array MapEntry) (.func (.func 81) #[] #[]) (by kernel_rfl) (by kernel_rfl) h3 (by kernel_rfl)
  have h4 : (putW W3 w.heap.size (.map (#[entF (nameT 5) 76 0, entF (nameT 6) 79 1, entF (nameT 7) 80 2, entF (nameT 9) 81 3] : Array MapEntry) 4)).heap[w.heap.size]? = some (.map (#[entF (nameT 5) 76 0, entF (nameT 6) 79 1, entF (nameT 7) 80 2, entF (nameT 9) 81 3] : Array MapEntry) 4) := putW_self s3
  have g4 : Grew w (putW W3 w.heap.size (.map (#[entF (nameT 5) 76 0, entF (nameT 6) 79 1, entF (nameT 7) 80 2, entF (nameT 9) 81 3] : Array MapEntry) 4)) := putW_grew g3 (Nat.le_refl _)
  have s4 : w.heap.size < (putW W3 w.heap.size (.map (#[entF (nameT 5) 76 0, entF (nameT 6) 79 1, entF (nameT 7) 80 2, entF (nameT 9) 81 3] : Array MapEntry) 4)).heap.size := by rw [putW_size]; exact s3
  generalize hW4 : putW W3 w.heap.size (.map (#[entF (nameT 5) 76 0, entF (nameT 6) 79 1, entF (nameT 7) 80 2, entF (nameT 9) 81 3] : Array MapEntry) 4) = W4 at h4 g4 s4
  have q4 : (Instr.mapUpdate 77 (.map (some w.heap.size)) (.string ⟨(nameT 9).toArray⟩) (.func (.func 81) #[] #[])).run Tryz.prog W3 = .ok () W4 := by rw [← hW4]; exact q4
  clear hW4
  have q5 := mapPutS (P := Tryz.prog) W4 77 9 75 4 w.heap.size ⟨(nameT 10).toArray⟩ (#[entF (nameT 5) 76 0, entF (nameT 6) 79 1, entF (nameT 7) 80 2, entF (nameT 9) 81 3] : Array MapEntry) (.func (.func 82) #[] #[]) (by kernel_rfl) (by kernel_rfl) h4 (by kernel_rfl)
  have h5 : (putW W4 w.heap.size (.map (#[entF (nameT 5) 76 0, entF (nameT 6) 79 1, entF (nameT 7) 80 2, entF (nameT 9) 81 3, entF (nameT 10) 82 4] : Array MapEntry) 5)).heap[w.heap.size]? = some (.map (#[entF (nameT 5) 76 0, entF (nameT 6) 79 1, entF (nameT 7) 80 2, entF (nameT 9) 81 3, entF (nameT 10) 82 4] : Array MapEntry) 5) := putW_self s4
  have g5 : Grew w (putW W4 w.heap.size (.map (#[entF (nameT 5) 76 0, entF (nameT 6) 79 1, entF (nameT 7) 80 2, entF (nameT 9) 81 3, entF (nameT 10) 82 4] : Array MapEntry) 5)) := putW_grew g4 (Nat.le_refl _)
  have s5 : w.heap.size < (putW W4 w.heap.size (.map (#[entF (nameT 5) 76 0, entF (nameT 6) 79 1, entF (nameT 7) 80 2, entF (nameT 9) 81 3, entF (nameT 10) 82 4] : Array MapEntry) 5)).heap.size := by rw [putW_size]; exact s4
  generalize hW5 : putW W4 w.heap.size (.map (#[entF (nameT 5) 76 0, entF (nameT 6) 79 1, entF (nameT 7) 80 2, entF (nameT 9) 81 3, entF (nameT 10) 82 4] : Array MapEntry) 5) = W5 at h5 g5 s5
  have q5 : (Instr.mapUpdate 77 (.map (some w.heap.size)) (.string ⟨(nameT 10).toArray⟩) (.func (.func 82) #[] #[])).run Tryz.prog W4 = .ok () W5 := by rw [← hW5]; exact q5
  clear hW5
  have q6 := mapPutS (P := Tryz.prog) W5 77 9 75 5 w.heap.size ⟨(nameT 12).toArray⟩ (#[entF (nameT 5) 76 0, entF (nameT 6) 79 1, entF (nameT 7) 80 2, entF (nameT 9) 81 3, entF (nameT 10) 82 4] : Array MapEntry) (.func (.func 83) #[] #[]) (by kernel_rfl) (by kernel_rfl) h5 (by kernel_rfl)
  have h6 : (putW W5 w.heap.size (.map (#[entF (nameT 5) 76 0, entF (nameT 6) 79 1, entF (nameT 7) 80 2, entF (nameT 9) 81 3, entF (nameT 10) 82 4, entF (nameT 12) 83 5] : Array MapEntry) 6)).heap[w.heap.size]? = some (.map (#[entF (nameT 5) 76 0, entF (nameT 6) 79 1, entF (nameT 7) 80 2, entF (nameT 9) 81 3, entF (nameT 10) 82 4, entF (nameT 12) 83 5] : Array MapEntry) 6) := putW_self s5
  have g6 : Grew w (putW W5 w.heap.size (.map (#[entF (nameT 5) 76 0, entF (nameT 6) 79 1, entF (nameT 7) 80 2, entF (nameT 9) 81 3, entF (nameT 10) 82 4, entF (nameT 12) 83 5] : Array MapEntry) 6)) := putW_grew g5 (Nat.le_refl _)
  have s6 : w.heap.size < (putW W5 w.heap.size (.map (#[entF (nameT 5) 76 0, entF (nameT 6) 79 1, entF (nameT 7) 80 2, entF (nameT 9) 81 3, entF (nameT 10) 82 4, entF (nameT 12) 83 5] : Array MapEntry) 6)).heap.size := by rw [putW_size]; exact s5
  generalize hW6 : putW W5 w.heap.size (.map (#[entF (nameT 5) 76 0, entF (nameT 6) 79 1, entF (nameT 7) 80 2, entF (nameT 9) 81 3, entF (nameT 10) 82 4, entF (nameT 12) 83 5] : Array MapEntry) 6) = W6 at h6 g6 s6
  have q6 : (Instr.mapUpdate 77 (.map (some w.heap.size)) (.string ⟨(nameT 12).toArray⟩) (.func (.func 83) #[] #[])).run Tryz.prog W5 = .ok () W6 := by rw [← hW6]; exact q6
  clear hW6
  have q7 := mapPutS (P := Tryz.prog) W6 77 9 75 6 w.heap.size ⟨(setT).toArray⟩ (#[entF (nameT 5) 76 0, entF (nameT 6) 79 1, entF (nameT 7) 80 2, entF (nameT 9) 81 3, entF (nameT 10) 82 4, entF (nameT 12) 83 5] : Array MapEntry) (.func (.func 84) #[] #[]) (by kernel_rfl) (by kernel_rfl) h6 (by kernel_rfl)
  have h7 : (putW W6 w.heap.size (.map (#[entF (nameT 5) 76 0, entF (nameT 6) 79 1, entF (nameT 7) 80 2, entF (nameT 9) 81 3, entF (nameT 10) 82 4, entF (nameT 12) 83 5, entF (setT) 84 6] : Array MapEntry) 7)).heap[w.heap.size]? = some (.map (#[entF (nameT 5) 76 0, entF (nameT 6) 79 1, entF (nameT 7) 80 2, entF (nameT 9) 81 3, entF (nameT 10) 82 4, entF (nameT 12) 83 5, entF (setT) 84 6] : Array MapEntry) 7) := putW_self s6
  have g7 : Grew w (putW W6 w.heap.size (.map (#[entF (nameT 5) 76 0, entF (nameT 6) 79 1, entF (nameT 7) 80 2, entF (nameT 9) 81 3, entF (nameT 10) 82 4, entF (nameT 12) 83 5, entF (setT) 84 6] : Array MapEntry) 7)) := putW_grew g6 (Nat.le_refl _)
  have s7 : w.heap.size < (putW W6 w.heap.size (.map (#[entF (nameT 5) 76 0, entF (nameT 6) 79 1, entF (nameT 7) 80 2, entF (nameT 9) 81 3, entF (nameT 10) 82 4, entF (nameT 12) 83 5, entF (setT) 84 6] : Array MapEntry) 7)).heap.size := by rw [putW_size]; exact s6
  generalize hW7 : putW W6 w.heap.size (.map (#[entF (nameT 5) 76 0, entF (nameT 6) 79 1, entF (nameT 7) 80 2, entF (nameT 9) 81 3, entF (nameT 10) 82 4, entF (nameT 12) 83 5, entF (setT) 84 6] : Array MapEntry) 7) = W7 at h7 g7 s7
  have q7 : (Instr.mapUpdate 77 (.map (some w.heap.size)) (.string ⟨(setT).toArray⟩) (.func (.func 84) #[] #[])).run Tryz.prog W6 = .ok () W7 := by rw [← hW7]; exact q7
  clear hW7
  have q8 := mapPutS (P := Tryz.prog) W7 77 9 75 7 w.heap.size ⟨(nameT 8).toArray⟩ (#[entF (nameT 5) 76 0, entF (nameT 6) 79 1, entF (nameT 7) 80 2, entF (nameT 9) 81 3, entF (nameT 10) 82 4, entF (nameT 12) 83 5, entF (setT) 84 6] : Array MapEntry) (.func (.func 85) #[] #[]) (by kernel_rfl) (by kernel_rfl) h7 (by kernel_rfl)
  have h8 : (putW W7 w.heap.size (.map (#[entF (nameT 5) 76 0, entF (nameT 6) 79 1, entF (nameT 7) 80 2, entF (nameT 9) 81 3, entF (nameT 10) 82 4, entF (nameT 12) 83 5, entF (setT) 84 6, entF (nameT 8) 85 7] : Array MapEntry) 8)).heap[w.heap.size]? = some (.map (#[entF (nameT 5) 76 0, entF (nameT 6) 79 1, entF (nameT 7) 80 2, entF (nameT 9) 81 3, entF (nameT 10) 82 4, entF (nameT 12) 83 5, entF (setT) 84 6, entF (nameT 8) 85 7] : Array MapEntry) 8) := putW_self s7
  have g8 : Grew w (putW W7 w.heap.size (.map (#[entF (nameT 5) 76 0, entF (nameT 6) 79 1, entF (nameT 7) 80 2, entF (nameT 9) 81 3, entF (nameT 10) 82 4, entF (nameT 12) 83 5, entF (setT) 84 6, entF (nameT 8) 85 7] : Array MapEntry) 8)) := putW_grew g7 (Nat.le_refl _)
  have s8 : w.heap.size < (putW W7 w.heap.size (.map (#[entF (nameT 5) 76 0, entF (nameT 6) 79 1, entF (nameT 7) 80 2, entF (nameT 9) 81 3, entF (nameT 10) 82 4, entF (nameT 12) 83 5, entF (setT) 84 6, entF (nameT 8) 85 7] : Array MapEntry) 8)).heap.size := by rw [putW_size]; exact s7
  generalize hW8 : putW W7 w.heap.size (.map (#[entF (nameT 5) 76 0, entF (nameT 6) 79 1, entF (nameT 7) 80 2, entF (nameT 9) 81 3, entF (nameT 10) 82 4, entF (nameT 12) 83 5, entF (setT) 84 6, entF (nameT 8) 85 7] : Array MapEntry) 8) = W8 at h8 g8 s8
  have q8 : (Instr.mapUpdate 77 (.map (some w.heap.size)) (.string ⟨(nameT 8).toArray⟩) (.func (.func 85) #[] #[])).run Tryz.prog W7 = .ok () W8 := by rw [← hW8]; exact q8
  clear hW8
  have q9 := mapPutS (P := Tryz.prog) W8 77 9 75 8 w.heap.size ⟨(nameT 11).toArray⟩ (#[entF (nameT 5) 76 0, entF (nameT 6) 79 1, entF (nameT 7) 80 2, entF (nameT 9) 81 3, entF (nameT 10) 82 4, entF (nameT 12) 83 5, entF (setT) 84 6, entF (nameT 8) 85 7] : Array MapEntry) (.func (.func 87) #[] #[]) (by kernel_rfl) (by kernel_rfl) h8 (by kernel_rfl)
  have h9 : (putW W8 w.heap.size (.map (#[entF (nameT 5) 76 0, entF (nameT 6) 79 1, entF (nameT 7) 80 2, entF (nameT 9) 81 3, entF (nameT 10) 82 4, entF (nameT 12) 83 5, entF (setT) 84 6, entF (nameT 8) 85 7, entF (nameT 11) 87 8] : Array MapEntry) 9)).heap[w.heap.size]? = some (.map (#[entF (nameT 5) 76 0, entF (nameT 6) 79 1, entF (nameT 7) 80 2, entF (nameT 9) 81 3, entF (nameT 10) 82 4, entF (nameT 12) 83 5, entF (setT) 84 6, entF (nameT 8) 85 7, entF (nameT 11) 87 8] : Array MapEntry) 9) := putW_self s8
  have g9 : Grew w (putW W8 w.heap.size (.map (#[entF (nameT 5) 76 0, entF (nameT 6) 79 1, entF (nameT 7) 80 2, entF (nameT 9) 81 3, entF (nameT 10) 82 4, entF (nameT 12) 83 5, entF (setT) 84 6, entF (nameT 8) 85 7, entF (nameT 11) 87 8] : Array MapEntry) 9)) := putW_grew g8 (Nat.le_refl _)
  have s9 : w.heap.size < (putW W8 w.heap.size (.map (#[entF (nameT 5) 76 0, entF (nameT 6) 79 1, entF (nameT 7) 80 2, entF (nameT 9) 81 3, entF (nameT 10) 82 4, entF (nameT 12) 83 5, entF (setT) 84 6, entF (nameT 8) 85 7, entF (nameT 11) 87 8] : Array MapEntry) 9)).heap.size := by rw [putW_size]; exact s8
  generalize hW9 : putW W8 w.heap.size (.map (#[entF (nameT 5) 76 0, entF (nameT 6) 79 1, entF (nameT 7) 80 2, entF (nameT 9) 81 3, entF (nameT 10) 82 4, entF (nameT 12) 83 5, entF (setT) 84 6, entF (nameT 8) 85 7, entF (nameT 11) 87 8] : Array MapEntry) 9) = W9 at h9 g9 s9
  have q9 : (Instr.mapUpdate 77 (.map (some w.heap.size)) (.string ⟨(nameT 11).toArray⟩) (.func (.func 87) #[] #[])).run Tryz.prog W8 = .ok () W9 := by rw [← hW9]; exact q9
  clear hW9
  exact ⟨W9, g9, s9, h9, hmm, W1, W2, W3, W4, W5, W6, W7, W8, q1, q2, q3, q4, q5, q6, q7, q8, q9⟩

/-- The entry of an operation's name: a reader that captures the operation's number. -/
def entA (j c : Nat) : MapEntry := { key := .string ⟨(arithL.getD j []).toArray⟩, val := .func (.func 89) #[] #[.pointer (some ⟨c, 0, none⟩)], born := 9 + j }
def entsA : List Nat → Nat → List MapEntry
  | [], _ => []
  | c :: cs, j => entA j c :: entsA cs (j + 1)
/-- What stands behind k rounds. -/
structure MapI (w : World) (g t k : Nat) (cs : List Nat) (W : World) : Prop where
  grew : Grew w W
  ge : w.heap.size ≤ g
  len : cs.length = k
  map : W.heap[g]? = some (.map (base9 ++ (entsA cs 0).toArray) (9 + k))
  caps : ∀ (j c : Nat), cs[j]? = some c → c ≠ g ∧ W.cell? ⟨c, 0, none⟩ = some (.int .i64 j)
  row : ∀ (j : Nat) (x : List UInt8), arithL[j]? = some x → W.cell? ⟨t, j, none⟩ = some (.string ⟨x.toArray⟩)
  tl : t < W.heap.size
  tn : t ≠ g
theorem MapI.lt {w W : World} {g t k : Nat} {cs : List Nat} (h : MapI w g t k cs W) : g < W.heap.size := by
  rcases Nat.lt_or_ge g W.heap.size with h' | h'
  · exact h'
  · have := h.map; rw [Array.getElem?_eq_none h'] at this; cases this
theorem entsA_snoc : ∀ (cs : List Nat) (j c : Nat), entsA (cs ++ [c]) j = entsA cs j ++ [entA (j + cs.length) c]
  | [], j, c => rfl
  | d :: cs, j, c => by
    simp only [List.cons_append, entsA, entsA_snoc cs (j + 1) c, List.length_cons]
    rw [show j + 1 + cs.length = j + (cs.length + 1) by omega]
theorem findNow_app (x : Value) : ∀ (es fs : List MapEntry) (i : Nat), Instr.findNow .string x es i = some none → Instr.findNow .string x (es ++ fs) i = Instr.findNow .string x fs (i + es.length)
  | [], fs, i, _ => by simp
  | e :: es, fs, i, h => by
    simp only [List.cons_append, Instr.findNow] at h ⊢
    cases hs : Instr.sameNow .string x e.key with
    | none => rw [hs] at h; cases h
    | some b =>
      rw [hs] at h
      cases b with
      | true => cases h
      | false =>
        simp only at h ⊢
        rw [findNow_app x es fs (i + 1) h, List.length_cons, show i + 1 + es.length = i + (es.length + 1) by omega]
theorem findNow_ents (x : Value) (k : Nat) (hx : ∀ j, j < k → Instr.sameNow .string x (.string ⟨(arithL.getD j []).toArray⟩) = some false) : ∀ (cs : List Nat) (j i : Nat), j + cs.length ≤ k → Instr.findNow .string x (entsA cs j) i = some none
  | [], _, _, _ => rfl
  | c :: cs, j, i, h => by
    rw [List.length_cons] at h
    simp only [entsA, Instr.findNow, entA, hx j (by omega)]
    exact findNow_ents x k hx cs (j + 1) (i + 1) (by omega)
/-- One round: a new box for the number, a new entry. -/
theorem MapI.step {w W : World} {g t k : Nat} {cs : List Nat} (h : MapI w g t k cs W) (hk : k < 5) :
    (Instr.mapUpdate 77 (.map (some g)) (.string ⟨(arithL.getD k []).toArray⟩) (.func (.func 89) #[] #[.pointer (some ⟨W.heap.size, 0, none⟩)])).run Tryz.prog (W.alloc (.cells #[.int .i64 k] 3)) =
      .ok () (putW (W.alloc (.cells #[.int .i64 k] 3)) g (.map (base9 ++ (entsA (cs ++ [W.heap.size]) 0).toArray) (9 + (k + 1)))) ∧
    MapI w g t (k + 1) (cs ++ [W.heap.size]) (putW (W.alloc (.cells #[.int .i64 k] 3)) g (.map (base9 ++ (entsA (cs ++ [W.heap.size]) 0).toArray) (9 + (k + 1)))) := by
  have hlt := h.lt
  have hm : (W.alloc (.cells #[.int .i64 k] 3)).heap[g]? = some (.map (base9 ++ (entsA cs 0).toArray) (9 + k)) := (Below.heap_alloc W _ g hlt).trans h.map
  have hlen := h.len
  have hf : Instr.findNow .string (.string ⟨(arithL.getD k []).toArray⟩) (base9 ++ (entsA cs 0).toArray).toList 0 = some none := by
    rw [Array.toList_append]
    have hb : Instr.findNow .string (.string ⟨(arithL.getD k []).toArray⟩) base9.toList 0 = some none := by
      have : k = 0 ∨ k = 1 ∨ k = 2 ∨ k = 3 ∨ k = 4 := by omega
      rcases this with rfl | rfl | rfl | rfl | rfl <;> rfl
    rw [findNow_app _ _ _ _ hb]
    refine findNow_ents _ k (fun j hj => ?_) cs 0 _ (by omega)
    have : k = 0 ∨ k = 1 ∨ k = 2 ∨ k = 3 ∨ k = 4 := by omega
    have hj' : j = 0 ∨ j = 1 ∨ j = 2 ∨ j = 3 := by omega
    rcases this with rfl | rfl | rfl | rfl | rfl <;> rcases hj' with rfl | rfl | rfl | rfl <;> first | omega | rfl
  have hp := mapPutS (P := Tryz.prog) (W.alloc (.cells #[.int .i64 k] 3)) 77 9 75 (9 + k) g ⟨(arithL.getD k []).toArray⟩ (base9 ++ (entsA cs 0).toArray) (.func (.func 89) #[] #[.pointer (some ⟨W.heap.size, 0, none⟩)]) (by kernel_rfl) (by kernel_rfl) hm hf
  have he : (base9 ++ (entsA cs 0).toArray).push { key := .string ⟨(arithL.getD k []).toArray⟩, val := .func (.func 89) #[] #[.pointer (some ⟨W.heap.size, 0, none⟩)], born := 9 + k } = base9 ++ (entsA (cs ++ [W.heap.size]) 0).toArray := by
    rw [entsA_snoc, Nat.zero_add, hlen]
    apply Array.toList_inj.1
    simp [entA]
  rw [he] at hp
  have hs : (W.alloc (.cells #[.int .i64 k] 3)).heap.size = W.heap.size + 1 := by simp
  refine ⟨hp, ?_, h.ge, by simp [hlen], putW_self (by omega), fun j c hj => ?_, fun j x hx => ?_, by rw [putW_size, hs]; have := h.tl; omega, h.tn⟩
  · exact putW_grew (grew_al h.grew _) h.ge
  · have hcell : ∀ (d : Nat) (v : Value), d ≠ g → (W.alloc (.cells #[.int .i64 k] 3)).cell? ⟨d, 0, none⟩ = some v → (putW (W.alloc (.cells #[.int .i64 k] 3)) g (.map (base9 ++ (entsA (cs ++ [W.heap.size]) 0).toArray) (9 + (k + 1)))).cell? ⟨d, 0, none⟩ = some v := fun d v hd hv =>
      (World.cell?_of_block (putW_ne hd)).trans hv
    rcases Nat.lt_or_ge j cs.length with hjl | hjl
    · rw [List.getElem?_append_left hjl] at hj
      obtain ⟨h1, h2⟩ := h.caps j c hj
      exact ⟨h1, hcell c _ h1 (gk (grew_al (Below.refl _ W) _) h2)⟩
    · rw [List.getElem?_append_right hjl] at hj
      obtain rfl : j = cs.length := by
        rcases Nat.lt_or_ge 0 (j - cs.length) with h' | h'
        · rw [List.getElem?_eq_none (by simp; omega)] at hj; cases hj
        · omega
      simp at hj
      subst hj
      refine ⟨by omega, hcell _ _ (by omega) ?_⟩
      rw [(Blk.new W 3 _).cell]
      simp [hlen]
  · exact (World.cell?_of_block (putW_ne h.tn)).trans (gk (grew_al (Below.refl _ W) _) (h.row j x hx))

set_option maxRecDepth 100000 in
theorem readersM (w : World) : Calls Tryz.prog 38 #[] w fun e w' => ∃ g t cs, e = .returned (.map (some g)) ∧ MapI w g t 5 cs w' := by
  obtain ⟨W9, g9, s9, h9, hmm, W1, W2, W3, W4, W5, W6, W7, W8, q1, q2, q3, q4, q5, q6, q7, q8, q9⟩ := readersA w
  generalize hW0 : w.alloc (.map #[] 0) = W0 at hmm q1
  clear hW0
  have CA := Lib.hid fun w => implArithN w
  have HG9 := Lib.hid g9
  have HS9 := Lib.hid s9
  have H9 := Lib.hid h9
  clear g9 s9 h9
  generalize hg : w.heap.size = g at *
  have HGG := Lib.hid hg
  clear hg
  simp [nameT, setT] at q1 q2 q3 q4 q5 q6 q7 q8 q9
  go_enter Tryz.func38, Tryz.ntmps38
  go_wp2_with fail
  refine (CA.out _).mono ?_
  rintro e w10 ⟨v, rfl, ⟨t, rfl, hB, hlt, hc⟩, g10⟩
  have HM : Hid (MapI w g t 0 [] w10) := Lib.hid ⟨grew_tr HG9.out g10, by rw [HGG.out]; exact Nat.le_refl _, rfl, (g10.block g HS9.out).trans H9.out, fun j c hj => (by cases hj), hc, hlt, by have := HS9.out; omega⟩
  clear hB hlt hc g10
  go_wp2_with fail
  go_loopw [8] (fun i wr => ∃ k : Nat, k ≤ 5 ∧ i = .int .i64 k ∧ ∃ cs, MapI w g t k cs wr) (fun i _ => 5 - (Go.RowKit.intOf i).toNat)
  case atStart => exact ⟨0, Nat.zero_le _, rfl, [], HM.out⟩
  case round =>
    obtain ⟨k, hk, rfl, cs, hI⟩ := hrel
    have HI := Lib.hid hI
    by_cases hlt : k < 5
    · have hx : arithL[k]? = some (arithL.getD k []) := by
        have : k = 0 ∨ k = 1 ∨ k = 2 ∨ k = 3 ∨ k = 4 := by omega
        rcases this with rfl | rfl | rfl | rfl | rfl <;> rfl
      have hcell := hI.row k _ hx
      have htl := hI.tl
      obtain ⟨hq, hN⟩ := hI.step hlt
      have HN := Lib.hid hN
      clear hN hI hx
      generalize arithL.getD k [] = nm at *
      generalize hZ : putW (wr.alloc (.cells #[.int .i64 k] 3)) g (.map (base9 ++ (entsA (cs ++ [wr.heap.size]) 0).toArray) (9 + (k + 1))) = Z at *
      clear hZ
      go_wp2_with fail
      go_roundw
      case rel => exact ⟨k + 1, by omega, by go_num, _, HN.out⟩
      case measure => simp [Go.RowKit.intOf]; omega
    · obtain rfl : k = 5 := by omega
      clear hI
      go_wp2_with fail
      go_ret
      exact ⟨g, t, cs, rfl, HI.out⟩

theorem MapI.grow {w W W' : World} {g t k : Nat} {cs : List Nat} (h : MapI w g t k cs W) (r : Grew W W') : MapI w g t k cs W' :=
  ⟨grew_tr h.grew r, h.ge, h.len, (r.block g h.lt).trans h.map, fun j c hj => ⟨(h.caps j c hj).1, gk r (h.caps j c hj).2⟩, fun j x hx => gk r (h.row j x hx), Nat.lt_of_lt_of_le h.tl r.size, h.tn⟩
theorem lookS {P : Program} (w : World) (mty kt et clock g : Nat) (k : ByteArray) (es : Array MapEntry) (hm : P.underlying mty = some (.map kt et)) (hk : P.underlying kt = some .string) (hb : w.heap[g]? = some (.map es clock)) (he : es.isEmpty = false) {r : Option (Nat × Value)} (hf : Instr.findNow .string (.string k) es.toList 0 = some r)
    (v : Value) (b : Bool) (hr : (match r with | some (_, v) => (v, true) | none => (v, false)) = (v, b)) (hz : r = none → (zeroValue et).run P w = .ok v w) :
    (Instr.lookup mty (.map (some g)) (.string k) true).run P w = .ok (.tuple #[v, .bool b]) w := by
  have hc : ∀ e, (Instr.checkKey e 10000 kt (.string k)).run P w = .ok () w := fun e => MapKept.run_checkKey (k := .string k) hk (by simp [MapKept.IsKey]) e 9999
  cases r with
  | none =>
    simp only [Prod.mk.injEq, true_and] at hr
    subst hr
    simp [Instr.lookup, run_underlying hm, MapKept.run_getObj_map hb, hc, MapKept.run_findKey hk hf, Result.andThen, hz rfl]
  | some q =>
    obtain ⟨i, v'⟩ := q
    simp only [Prod.mk.injEq] at hr
    obtain ⟨rfl, rfl⟩ := hr
    simp [Instr.lookup, run_underlying hm, MapKept.run_getObj_map hb, hc, MapKept.run_findKey hk hf, Result.andThen]
end Go.Proofs.YtcdfomoglkhboaaGreatDoor
