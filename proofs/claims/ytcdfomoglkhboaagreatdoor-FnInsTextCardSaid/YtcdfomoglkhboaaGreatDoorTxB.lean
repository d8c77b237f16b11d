/-
  THE TEXT OF AN INSTRUCTION, plain: its words, and that both readers read the words of one that is ok as it.
-/
import Derived.Test.YtcdfomoglkhboaaGreatDoorTxA
import Derived.Test.YtcdfomoglkhboaaGreatDoorInsOk
namespace Go.Proofs.YtcdfomoglkhboaaGreatDoor
open Go.Lib

def varT (k : Int) : List UInt8 := [UInt8.ofNat (97 + k.toNat)]
def relT (r : Int) : List UInt8 := if r = 1 then [60] else if r = 2 then [60, 61] else if r = 3 then [61] else if r = 4 then [33, 61] else []
/-- The word of a kind. -/
def nameT (o : Int) : List UInt8 :=
  if o = 1 then [97, 100, 100] else if o = 2 then [115, 117, 98] else if o = 3 then [109, 117, 108] else if o = 4 then [100, 105, 118]
  else if o = 5 then [97, 110, 121] else if o = 6 then [108, 111, 97, 100] else if o = 7 then [115, 116, 111, 114, 101] else if o = 8 then [105, 102]
  else if o = 9 then [106, 117, 109, 112] else if o = 10 then [99, 97, 108, 108] else if o = 11 then [97, 115, 115, 101, 114, 116] else if o = 12 then [114, 101, 116] else []
def setT : List UInt8 := [115, 101, 116]

/-- The words of an instruction that is ok. -/
def wordsI (i : Ins) : List (List UInt8) :=
  if i.op = 5 then (if i.lo = i.hi then [setT, varT i.d, itoa i.lo] else [nameT 5, varT i.d, itoa i.lo, itoa i.hi])
  else if i.op = 6 then [nameT 6, varT i.d, varT i.a]
  else if i.op = 7 then [nameT 7, varT i.a, varT i.b]
  else if i.op = 8 then [nameT 8, varT i.a, relT i.rel, varT i.b, itoa i.to]
  else if i.op = 9 then [nameT 9, itoa i.to]
  else if i.op = 10 then [nameT 10, varT i.d, itoa i.to, varT i.a]
  else if i.op = 11 then [nameT 11, varT i.a, relT i.rel, varT i.b]
  else if i.op = 12 then [nameT 12, varT i.a]
  else [nameT i.op, varT i.d, varT i.a, varT i.b]
def textI (i : Ins) : List UInt8 := join (wordsI i) [32]

/-- A number of the program. -/
def numOkB (n : Int) : Bool := decide (-32768 ≤ n) && decide (n ≤ 32767)
/-- What a text is read as, if it is a number's. -/
def readN (s : List UInt8) : Option Int := match atoi s with
  | some n => if numOkB n && decide (itoa n = s) then some n else none
  | none => none

theorem readN_some {s : List UInt8} {n : Int} : readN s = some n ↔ numOkB n = true ∧ itoa n = s := by
  unfold readN
  constructor
  · intro h
    cases ha : atoi s with
    | none => rw [ha] at h; cases h
    | some m =>
      rw [ha] at h
      simp only at h
      split at h
      · rename_i hc
        simp only [Bool.and_eq_true, decide_eq_true_eq] at hc
        injection h with h
        rw [← h]; exact hc
      · cases h
  · rintro ⟨h1, rfl⟩
    rw [atoi_itoa]
    simp [h1]

theorem readN_itoa {n : Int} (h : numOkB n = true) : readN (itoa n) = some n := readN_some.2 ⟨h, rfl⟩

/-! ### The reference's reader -/

def varOfS (s : List UInt8) : Int := match s with
  | [c] => if c.toNat < 97 ∨ 101 ≤ c.toNat then -1 else (c.toNat : Int) - 97
  | _ => -1
def numOfS (s : List UInt8) : Int := (readN s).getD (-1)
def relOfS (s : List UInt8) : Int := if s = [60] then 1 else if s = [60, 61] then 2 else if s = [61] then 3 else if s = [33, 61] then 4 else 0
def opOfS (s : List UInt8) : Int :=
  if s = setT then 5 else if s = nameT 1 then 1 else if s = nameT 2 then 2 else if s = nameT 3 then 3 else if s = nameT 4 then 4 else if s = nameT 5 then 5
  else if s = nameT 6 then 6 else if s = nameT 7 then 7 else if s = nameT 8 then 8 else if s = nameT 9 then 9 else if s = nameT 10 then 10
  else if s = nameT 11 then 11 else if s = nameT 12 then 12 else 0
def atS (ws : List (List UInt8)) (k : Nat) : List UInt8 := ws.getD k []
def stepS (ws : List (List UInt8)) : Ins :=
  if opOfS (atS ws 0) = 5 then ⟨5, varOfS (atS ws 1), 0, 0, 0, numOfS (atS ws 2), if atS ws 0 = nameT 5 then numOfS (atS ws 3) else numOfS (atS ws 2), 0⟩
  else if opOfS (atS ws 0) = 6 then ⟨6, varOfS (atS ws 1), varOfS (atS ws 2), 0, 0, 0, 0, 0⟩
  else if opOfS (atS ws 0) = 7 then ⟨7, 0, varOfS (atS ws 1), varOfS (atS ws 2), 0, 0, 0, 0⟩
  else if opOfS (atS ws 0) = 8 then ⟨8, 0, varOfS (atS ws 1), varOfS (atS ws 3), relOfS (atS ws 2), 0, 0, numOfS (atS ws 4)⟩
  else if opOfS (atS ws 0) = 9 then ⟨9, 0, 0, 0, 0, 0, 0, numOfS (atS ws 1)⟩
  else if opOfS (atS ws 0) = 10 then ⟨10, varOfS (atS ws 1), varOfS (atS ws 3), 0, 0, 0, 0, numOfS (atS ws 2)⟩
  else if opOfS (atS ws 0) = 11 then ⟨11, 0, varOfS (atS ws 1), varOfS (atS ws 3), relOfS (atS ws 2), 0, 0, 0⟩
  else if opOfS (atS ws 0) = 12 then ⟨12, 0, varOfS (atS ws 1), 0, 0, 0, 0, 0⟩
  else ⟨opOfS (atS ws 0), varOfS (atS ws 1), varOfS (atS ws 2), varOfS (atS ws 3), 0, 0, 0, 0⟩

theorem var4 {k : Int} (h : varB k = true) : k = 0 ∨ k = 1 ∨ k = 2 ∨ k = 3 := by
  simp only [varB, Bool.and_eq_true, decide_eq_true_eq] at h
  omega
theorem varOfS_T {k : Int} (h : varB k = true) : varOfS (varT k) = k := by
  rcases var4 h with rfl | rfl | rfl | rfl <;> decide
theorem numOfS_T {n : Int} (h : numOkB n = true) : numOfS (itoa n) = n := by rw [numOfS, readN_itoa h]; rfl
theorem relOfS_T {r : Int} (h : 1 ≤ r ∧ r ≤ 4) : relOfS (relT r) = r := by
  have : r = 1 ∨ r = 2 ∨ r = 3 ∨ r = 4 := by omega
  rcases this with rfl | rfl | rfl | rfl <;> decide

/-- What is wanted of an instruction that is read: it is ok, and its place is a number of the program. -/
structure Rdable (i : Ins) : Prop where
  head : headB i = true
  rel : i.op = 8 ∨ i.op = 11 → 1 ≤ i.rel ∧ i.rel ≤ 4
  lo : i.op = 5 → numOkB i.lo = true ∧ numOkB i.hi = true
  to : i.op = 8 ∨ i.op = 9 ∨ i.op = 10 → numOkB i.to = true

theorem itvOkB_num {lo hi : Int} (h : itvOkB lo hi = true) : numOkB lo = true ∧ numOkB hi = true := by
  simp only [itvOkB, numOkB, Bool.and_eq_true, decide_eq_true_eq] at h ⊢
  omega

theorem rdable {i : Ins} {procs size : Int} (h : insOkB i procs size = true) (ht : numOkB i.to = true) : Rdable i := by
  simp only [insOkB, Bool.and_eq_true] at h
  obtain ⟨h1, h2⟩ := h
  refine ⟨h1, fun e => ?_, fun e => ?_, fun _ => ht⟩
  · rcases e with e | e <;>
      · simp only [tailB, e] at h2
        simp at h2
        omega
  · simp only [tailB, e] at h2
    exact itvOkB_num (by simpa using h2)

/-- The reference reads the words of an instruction as it. -/
theorem stepS_words {i : Ins} (h : Rdable i) : stepS (wordsI i) = i := by
  obtain ⟨op, d, a, b, rel, lo, hi, to⟩ := i
  obtain ⟨hh, hr, hl, ht⟩ := h
  simp only [headB, Bool.and_eq_true, decide_eq_true_eq] at hh hr hl ht
  obtain ⟨⟨h1, h2⟩, hf, hd, ha, hb⟩ := hh
  have ho : op = 1 ∨ op = 2 ∨ op = 3 ∨ op = 4 ∨ op = 5 ∨ op = 6 ∨ op = 7 ∨ op = 8 ∨ op = 9 ∨ op = 10 ∨ op = 11 ∨ op = 12 := by omega
  clear h1 h2
  rcases ho with rfl | rfl | rfl | rfl | rfl | rfl | rfl | rfl | rfl | rfl | rfl | rfl <;> simp [formV] at hf hr hl ht
  all_goals first
    | (by_cases e : lo = hi
       · subst e
         simp [wordsI, stepS, atS, opOfS, nameT, setT, varOfS_T, numOfS_T, relOfS_T, *]
       · simp [wordsI, stepS, atS, opOfS, nameT, setT, varOfS_T, numOfS_T, relOfS_T, *])
    | simp [wordsI, stepS, atS, opOfS, nameT, setT, varOfS_T, numOfS_T, relOfS_T, *]

end Go.Proofs.YtcdfomoglkhboaaGreatDoor
