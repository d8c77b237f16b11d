/-
  THE TEXT OF A PROGRAM, plain: its lines, its reader (both sides' reader is this one), and that a program that is ok is read from its lines.
-/
import Derived.Test.YtcdfomoglkhboaaGreatDoorTxD
import Derived.Test.YtcdfomoglkhboaaGreatDoorPrgOk
namespace Go.Proofs.YtcdfomoglkhboaaGreatDoor
open Go.Lib
set_option linter.unusedSimpArgs false

def procsT : List UInt8 := [112, 114, 111, 99, 115]
def procT : List UInt8 := [112, 114, 111, 99]
def sizeT : List UInt8 := [115, 105, 122, 101]
def headL (n : Int) : List UInt8 := join [procsT, itoa n] [32]
def prcL (lo hi n : Int) : List UInt8 := join [procT, itoa lo, itoa hi, sizeT, itoa n] [32]
/-- The lines of a procedure. -/
def linesC (p : Prc) : List (List UInt8) := prcL p.lo p.hi p.code.length :: p.code.map textI
/-- The lines of a program. -/
def printL (ps : List Prc) : List (List UInt8) := headL ps.length :: ps.flatMap linesC

/-! ### The reader -/

/-- A line that is a step. -/
def lineI (s : List UInt8) (procs size : Int) : Option Ins := if 60 < s.length then none else insReadP s procs size

/-! ### A program is read from its lines -/

theorem numOk_small {n : Int} (h1 : 0 ≤ n) (h2 : n ≤ 100) : numOkB n = true := numOkB_iff.2 (by omega)

theorem to_small {i : Ins} {procs size : Int} (h : insOkB i procs size = true) (hp : procs ≤ 100) (hs : size ≤ 100) : numOkB i.to = true := by
  obtain ⟨op, d, a, b, rel, lo, hi, to⟩ := i
  simp only [insOkB, headB, Bool.and_eq_true, decide_eq_true_eq] at h
  obtain ⟨⟨⟨h1, h2⟩, hf, -⟩, ht⟩ := h
  have ho : op = 1 ∨ op = 2 ∨ op = 3 ∨ op = 4 ∨ op = 5 ∨ op = 6 ∨ op = 7 ∨ op = 8 ∨ op = 9 ∨ op = 10 ∨ op = 11 ∨ op = 12 := by omega
  rcases ho with rfl | rfl | rfl | rfl | rfl | rfl | rfl | rfl | rfl | rfl | rfl | rfl <;> simp [formV, tailB] at hf ht <;> refine numOkB_iff.2 ?_ <;> simp only <;> omega

theorem relT_len (k : Int) : (relT k).length ≤ 2 := by
  unfold relT
  repeat' split
  all_goals simp
theorem nameT_len (k : Int) : (nameT k).length ≤ 6 := by
  rcases Decidable.em (1 ≤ k ∧ k ≤ 12) with h | h
  · have : k = 1 ∨ k = 2 ∨ k = 3 ∨ k = 4 ∨ k = 5 ∨ k = 6 ∨ k = 7 ∨ k = 8 ∨ k = 9 ∨ k = 10 ∨ k = 11 ∨ k = 12 := by omega
    rcases this with rfl | rfl | rfl | rfl | rfl | rfl | rfl | rfl | rfl | rfl | rfl | rfl <;> decide
  · have e : nameT k = [] := by
      unfold nameT
      repeat rw [if_neg (by omega)]
    rw [e]; decide
theorem textI_short {i : Ins} {procs size : Int} (h : insOkB i procs size = true) (ht : numOkB i.to = true) : (textI i).length ≤ 60 := by
  obtain ⟨hh, -, hl, -⟩ := rdable h ht
  obtain ⟨op, d, a, b, rel, lo, hi, to⟩ := i
  simp only [headB, Bool.and_eq_true, decide_eq_true_eq] at hh hl ht
  obtain ⟨⟨h1, h2⟩, -⟩ := hh
  have e := itoa_length (n := to) (by have := numOkB_iff.1 ht; omega) (by have := numOkB_iff.1 ht; omega)
  have hlo : op = 5 → (itoa lo).length ≤ 6 := fun x => itoa_length (by have := numOkB_iff.1 (hl x).1; omega) (by have := numOkB_iff.1 (hl x).1; omega)
  have hhi : op = 5 → (itoa hi).length ≤ 6 := fun x => itoa_length (by have := numOkB_iff.1 (hl x).2; omega) (by have := numOkB_iff.1 (hl x).2; omega)
  have hv : ∀ k, (varT k).length = 1 := fun _ => rfl
  have hr := relT_len
  have hn := nameT_len
  have n5 := hn 5
  have n6 := hn 6
  have n7 := hn 7
  have n8 := hn 8
  have n9 := hn 9
  have n10 := hn 10
  have n11 := hn 11
  have n12 := hn 12
  have hst : setT.length = 3 := rfl
  have h2' := hr rel
  have h3' := hn op
  have ho : op = 5 ∨ op ≠ 5 := by omega
  rcases ho with rfl | ho
  · have := hlo rfl
    have := hhi rfl
    simp only [textI, wordsI, if_true]
    split <;> simp only [join_length, lens, List.map_cons, List.map_nil, List.sum_cons, List.sum_nil, List.length_cons, List.length_nil, hv, hst] <;> omega
  · simp only [textI, wordsI, if_neg ho]
    repeat' split
    all_goals
      simp only [join_length, lens, List.map_cons, List.map_nil, List.sum_cons, List.sum_nil, List.length_cons, List.length_nil, hv]
      have e' : op = 8 ∨ op = 9 ∨ op = 10 → (itoa to).length ≤ 6 := fun _ => e
      omega

theorem lineI_T {i : Ins} {procs size : Int} (h : insOkB i procs size = true) (hp : procs ≤ 100) (hs : size ≤ 100) : lineI (textI i) procs size = some i := by
  have ht := to_small h hp hs
  unfold lineI
  rw [if_neg (by have := textI_short h ht; omega)]
  exact insReadP_some.2 ⟨h, ht, rfl⟩

theorem linesC_length (p : Prc) : (linesC p).length = 1 + p.code.length := by simp [linesC]; omega
/-- The place behind the first k procedures. -/
def behind (ps : List Prc) : Nat := 1 + (ps.flatMap linesC).length

/-- How many lines a program has. -/
theorem printL_length (ps : List Prc) : (printL ps).length = 1 + ps.length + (ps.map fun p => p.code.length).sum := by
  have h : ∀ qs : List Prc, (qs.flatMap linesC).length = qs.length + (qs.map fun p => p.code.length).sum := by
    intro qs
    induction qs with
    | nil => rfl
    | cons q qs ih =>
      simp only [List.flatMap_cons, List.length_append, linesC_length, ih, List.map_cons, List.sum_cons, List.length_cons]
      omega
  simp only [printL, List.length_cons, h]
  omega

end Go.Proofs.YtcdfomoglkhboaaGreatDoor
