/- Lemmas and walks of this proof, some texts one behind the other. No condition. -/
import Derived.Test.YtcdfomoglkhboaaGreatDoorTxB
set_option linter.unusedSimpArgs false
set_option linter.unusedVariables false
/-
  THE PROGRAM'S READER of an instruction's words, plain: a row of words that is read from its head, and a mark that something was wrong.
-/
namespace Go.Proofs.YtcdfomoglkhboaaGreatDoor
open Go.Lib
set_option linter.unusedSimpArgs false

/-- The scanner: the words that are left, and whether it is bad. -/
structure Sc where
  ws : List (List UInt8)
  bad : Bool
def Sc.wrong (s : Sc) : Sc := ⟨s.ws, true⟩

def nextP (s : Sc) : List UInt8 × Sc := match s.ws with
  | [] => ([], s.wrong)
  | w :: r => (w, ⟨r, s.bad⟩)
/-- A word that is one of some: its place among them. -/
def oneP (at? : List UInt8 → Option Int) (s : Sc) : Int × Sc := match at? (nextP s).1 with
  | some k => (k, (nextP s).2)
  | none => (0, (nextP s).2.wrong)
def varAt (w : List UInt8) : Option Int := if w = [97] then some 0 else if w = [98] then some 1 else if w = [99] then some 2 else if w = [100] then some 3 else none
def relAt (w : List UInt8) : Option Int := if w = [60] then some 1 else if w = [60, 61] then some 2 else if w = [61] then some 3 else if w = [33, 61] then some 4 else none
def varP (s : Sc) : Int × Sc := oneP varAt s
def relP (s : Sc) : Int × Sc := oneP relAt s
def numP (s : Sc) : Int × Sc := oneP readN s

def arithP (op : Int) (s : Sc) : Ins × Sc :=
  (⟨op, (varP s).1, (varP (varP s).2).1, (varP (varP (varP s).2).2).1, 0, 0, 0, 0⟩, (varP (varP (varP s).2).2).2)
def anyP (s : Sc) : Ins × Sc :=
  (⟨5, (varP s).1, 0, 0, 0, (numP (varP s).2).1, (numP (numP (varP s).2).2).1, 0⟩, (numP (numP (varP s).2).2).2)
def setP (s : Sc) : Ins × Sc :=
  (⟨5, (varP s).1, 0, 0, 0, (numP (varP s).2).1, (numP (varP s).2).1, 0⟩, (numP (varP s).2).2)
def loadP (s : Sc) : Ins × Sc := (⟨6, (varP s).1, (varP (varP s).2).1, 0, 0, 0, 0, 0⟩, (varP (varP s).2).2)
def storeP (s : Sc) : Ins × Sc := (⟨7, 0, (varP s).1, (varP (varP s).2).1, 0, 0, 0, 0⟩, (varP (varP s).2).2)
def ifP (s : Sc) : Ins × Sc :=
  (⟨8, 0, (varP s).1, (varP (relP (varP s).2).2).1, (relP (varP s).2).1, 0, 0, (numP (varP (relP (varP s).2).2).2).1⟩, (numP (varP (relP (varP s).2).2).2).2)
def jumpP (s : Sc) : Ins × Sc := (⟨9, 0, 0, 0, 0, 0, 0, (numP s).1⟩, (numP s).2)
def callP (s : Sc) : Ins × Sc :=
  (⟨10, (varP s).1, (varP (numP (varP s).2).2).1, 0, 0, 0, 0, (numP (varP s).2).1⟩, (varP (numP (varP s).2).2).2)
def assertP (s : Sc) : Ins × Sc :=
  (⟨11, 0, (varP s).1, (varP (relP (varP s).2).2).1, (relP (varP s).2).1, 0, 0, 0⟩, (varP (relP (varP s).2).2).2)
def retP (s : Sc) : Ins × Sc := (⟨12, 0, (varP s).1, 0, 0, 0, 0, 0⟩, (varP s).2)

/-- The reader of a keyword. -/
def readerP (w : List UInt8) : Option (Sc → Ins × Sc) :=
  if w = nameT 5 then some anyP else if w = nameT 6 then some loadP else if w = nameT 7 then some storeP else if w = nameT 9 then some jumpP
  else if w = nameT 10 then some callP else if w = nameT 12 then some retP else if w = setT then some setP else if w = nameT 8 then some ifP
  else if w = nameT 11 then some assertP else if w = nameT 1 then some (arithP 1) else if w = nameT 2 then some (arithP 2)
  else if w = nameT 3 then some (arithP 3) else if w = nameT 4 then some (arithP 4) else none

/-- What words are read as, if nothing is wrong. -/
def stepP (ws : List (List UInt8)) : Option Ins := match readerP (ws.headD []) with
  | none => none
  | some f => if (f ⟨ws.tail, false⟩).2.bad then none else some (f ⟨ws.tail, false⟩).1

theorem varAt_T {k : Int} (h : varB k = true) : varAt (varT k) = some k := by
  rcases var4 h with rfl | rfl | rfl | rfl <;> decide
theorem relAt_T {r : Int} (h : 1 ≤ r ∧ r ≤ 4) : relAt (relT r) = some r := by
  have : r = 1 ∨ r = 2 ∨ r = 3 ∨ r = 4 := by omega
  rcases this with rfl | rfl | rfl | rfl <;> decide
theorem varP_T {k : Int} (h : varB k = true) (r : List (List UInt8)) (b : Bool) : varP ⟨varT k :: r, b⟩ = (k, ⟨r, b⟩) := by simp [varP, oneP, nextP, varAt_T h]
theorem relP_T {k : Int} (h : 1 ≤ k ∧ k ≤ 4) (r : List (List UInt8)) (b : Bool) : relP ⟨relT k :: r, b⟩ = (k, ⟨r, b⟩) := by simp [relP, oneP, nextP, relAt_T h]
theorem numP_T {n : Int} (h : numOkB n = true) (r : List (List UInt8)) (b : Bool) : numP ⟨itoa n :: r, b⟩ = (n, ⟨r, b⟩) := by simp [numP, oneP, nextP, readN_itoa h]

/-- The program reads the words of an instruction as it. -/
theorem stepP_words {i : Ins} (h : Rdable i) : stepP (wordsI i) = some i := by
  obtain ⟨op, d, a, b, rel, lo, hi, to⟩ := i
  obtain ⟨hh, hr, hl, ht⟩ := h
  simp only [headB, Bool.and_eq_true, decide_eq_true_eq] at hh hr hl ht
  obtain ⟨⟨h1, h2⟩, hf, hd, ha, hb⟩ := hh
  have ho : op = 1 ∨ op = 2 ∨ op = 3 ∨ op = 4 ∨ op = 5 ∨ op = 6 ∨ op = 7 ∨ op = 8 ∨ op = 9 ∨ op = 10 ∨ op = 11 ∨ op = 12 := by omega
  clear h1 h2
  rcases ho with rfl | rfl | rfl | rfl | rfl | rfl | rfl | rfl | rfl | rfl | rfl | rfl <;> simp [formV] at hf hr hl ht
  all_goals first
    | (by_cases e : lo = hi
       · subst e
         simp [wordsI, stepP, readerP, nameT, setT, arithP, anyP, setP, loadP, storeP, ifP, jumpP, callP, assertP, retP, varP_T, numP_T, relP_T, *]
       · simp [wordsI, stepP, readerP, nameT, setT, arithP, anyP, setP, loadP, storeP, ifP, jumpP, callP, assertP, retP, varP_T, numP_T, relP_T, *])
    | simp [wordsI, stepP, readerP, nameT, setT, arithP, anyP, setP, loadP, storeP, ifP, jumpP, callP, assertP, retP, varP_T, numP_T, relP_T, *]

/-! ### The law: both readers say the same of a text -/

theorem varT_noSpace {k : Int} (h : varB k = true) : ∀ c ∈ varT k, c ≠ 32 := by
  rcases var4 h with rfl | rfl | rfl | rfl <;> decide
theorem relT_noSpace {r : Int} (h : 1 ≤ r ∧ r ≤ 4) : ∀ c ∈ relT r, c ≠ 32 := by
  have : r = 1 ∨ r = 2 ∨ r = 3 ∨ r = 4 := by omega
  rcases this with rfl | rfl | rfl | rfl <;> decide
theorem nameT_noSpace {o : Int} (h : 1 ≤ o ∧ o ≤ 12) : ∀ c ∈ nameT o, c ≠ 32 := by
  have : o = 1 ∨ o = 2 ∨ o = 3 ∨ o = 4 ∨ o = 5 ∨ o = 6 ∨ o = 7 ∨ o = 8 ∨ o = 9 ∨ o = 10 ∨ o = 11 ∨ o = 12 := by omega
  rcases this with rfl | rfl | rfl | rfl | rfl | rfl | rfl | rfl | rfl | rfl | rfl | rfl <;> decide
theorem setT_noSpace : ∀ c ∈ setT, c ≠ 32 := by decide

def IsNum (u : List UInt8) : Prop := ∃ n, u = itoa n
theorem isNum_itoa (n : Int) : IsNum (itoa n) := ⟨n, rfl⟩
/-- The words of an instruction that is ok are words. -/
theorem wordsI_noSpace {i : Ins} {procs size : Int} (h : insOkB i procs size = true) : ∀ u ∈ wordsI i, ∀ c ∈ u, c ≠ 32 := by
  obtain ⟨op, d, a, b, rel, lo, hi, to⟩ := i
  simp only [insOkB, headB, Bool.and_eq_true, decide_eq_true_eq] at h
  obtain ⟨⟨⟨h1, h2⟩, hf, hd, ha, hb⟩, ht⟩ := h
  have hr : op = 8 ∨ op = 11 → 1 ≤ rel ∧ rel ≤ 4 := by
    rintro (e | e) <;>
      · simp only [tailB, e] at ht
        simp at ht
        omega
  have vd := varT_noSpace hd
  have va := varT_noSpace ha
  have vb := varT_noSpace hb
  have vn := nameT_noSpace ⟨h1, h2⟩
  have hw : ∀ u ∈ wordsI ⟨op, d, a, b, rel, lo, hi, to⟩, u = nameT op ∨ u = setT ∨ u = varT d ∨ u = varT a ∨ u = varT b ∨ (u = relT rel ∧ (op = 8 ∨ op = 11)) ∨ IsNum u := by
    intro u hu
    unfold wordsI at hu
    simp only at hu
    split at hu
    · rename_i e
      split at hu <;> simp only [List.mem_cons, List.not_mem_nil, or_false] at hu <;> rcases hu with rfl | rfl | rfl | rfl <;> simp [e, isNum_itoa]
    all_goals skip
    repeat' (split at hu)
    all_goals
      rename_i e
      simp only [List.mem_cons, List.not_mem_nil, or_false] at hu
      try simp only [e]
      rcases hu with rfl | rfl | rfl | rfl | rfl <;> simp [isNum_itoa]
  intro u hu
  rcases hw u hu with rfl | rfl | rfl | rfl | rfl | ⟨rfl, e⟩ | ⟨n, rfl⟩
  · exact vn
  · exact setT_noSpace
  · exact vd
  · exact va
  · exact vb
  · exact relT_noSpace (hr e)
  · exact itoa_noSpace n

theorem wordsI_ne (i : Ins) : wordsI i ≠ [] := by
  unfold wordsI
  repeat' split
  all_goals simp

/-- The words of an instruction's text are its words. -/
theorem words_textI {i : Ins} {procs size : Int} (h : insOkB i procs size = true) : split (textI i) [32] = wordsI i := by
  unfold textI
  cases e : wordsI i with
  | nil => exact absurd e (wordsI_ne i)
  | cons x r => exact split_join x r (by rw [← e]; exact wordsI_noSpace h)

end Go.Proofs.YtcdfomoglkhboaaGreatDoor

/-
  THE READERS of numbers and of instructions, plain: the reference's reader of a number says what the program's says; both readers of an instruction say the same.
-/
namespace Go.Proofs.YtcdfomoglkhboaaGreatDoor
open Go.Lib
set_option linter.unusedSimpArgs false

/-! ### Numbers -/

theorem numOkB_iff {n : Int} : numOkB n = true ↔ -32768 ≤ n ∧ n ≤ 32767 := by simp [numOkB]

theorem numP_ok (s : Sc) : numOkB (numP s).1 = true := by
  unfold numP oneP
  split
  · rename_i k h
    exact (readN_some.1 h).1
  · rfl

/-! ### Instructions -/

theorem ite_some {α : Type} {c : Prop} [Decidable c] {a f : α} {b : Option α} {Q : α → Prop} (ha : Q a) (hb : b = some f → Q f) (h : (if c then some a else b) = some f) : Q f := by
  split at h
  · injection h with h; rw [← h]; exact ha
  · exact hb h
theorem readerP_to {w : List UInt8} {f : Sc → Ins × Sc} (h : readerP w = some f) : ∀ s : Sc, numOkB (f s).1.to = true := by
  unfold readerP at h
  revert h
  refine ite_some (Q := fun (f : Sc → Ins × Sc) => ∀ s, numOkB (f s).1.to = true) (fun _ => rfl) ?_
  refine ite_some (Q := fun (f : Sc → Ins × Sc) => ∀ s, numOkB (f s).1.to = true) (fun _ => rfl) ?_
  refine ite_some (Q := fun (f : Sc → Ins × Sc) => ∀ s, numOkB (f s).1.to = true) (fun _ => rfl) ?_
  refine ite_some (Q := fun (f : Sc → Ins × Sc) => ∀ s, numOkB (f s).1.to = true) (fun _ => numP_ok _) ?_
  refine ite_some (Q := fun (f : Sc → Ins × Sc) => ∀ s, numOkB (f s).1.to = true) (fun _ => numP_ok _) ?_
  refine ite_some (Q := fun (f : Sc → Ins × Sc) => ∀ s, numOkB (f s).1.to = true) (fun _ => rfl) ?_
  refine ite_some (Q := fun (f : Sc → Ins × Sc) => ∀ s, numOkB (f s).1.to = true) (fun _ => rfl) ?_
  refine ite_some (Q := fun (f : Sc → Ins × Sc) => ∀ s, numOkB (f s).1.to = true) (fun _ => numP_ok _) ?_
  refine ite_some (Q := fun (f : Sc → Ins × Sc) => ∀ s, numOkB (f s).1.to = true) (fun _ => rfl) ?_
  refine ite_some (Q := fun (f : Sc → Ins × Sc) => ∀ s, numOkB (f s).1.to = true) (fun _ => rfl) ?_
  refine ite_some (Q := fun (f : Sc → Ins × Sc) => ∀ s, numOkB (f s).1.to = true) (fun _ => rfl) ?_
  refine ite_some (Q := fun (f : Sc → Ins × Sc) => ∀ s, numOkB (f s).1.to = true) (fun _ => rfl) ?_
  refine ite_some (Q := fun (f : Sc → Ins × Sc) => ∀ s, numOkB (f s).1.to = true) (fun _ => rfl) ?_
  intro h
  cases h

theorem stepP_to {ws : List (List UInt8)} {i : Ins} (h : stepP ws = some i) : numOkB i.to = true := by
  unfold stepP at h
  split at h
  · cases h
  · rename_i f hf
    split at h
    · cases h
    · injection h with h
      rw [← h]
      exact readerP_to hf _

/-- An instruction's text, as both write it: empty, if it is not ok. -/
def textB (i : Ins) (procs size : Int) : List UInt8 := if insOkB i procs size then textI i else []
/-- What the program reads. -/
def insReadP (s : List UInt8) (procs size : Int) : Option Ins := match stepP (split s [32]) with
  | none => none
  | some i => if textB i procs size = s then some i else none

theorem split_ne (s : List UInt8) : split s [32] ≠ [] := by
  rw [split_words _ s (Nat.lt_succ_self _)]
  exact wordsFrom_ne s []

theorem insReadP_some {s : List UInt8} {procs size : Int} {i : Ins} :
    insReadP s procs size = some i ↔ insOkB i procs size = true ∧ numOkB i.to = true ∧ textI i = s := by
  constructor
  · intro h
    unfold insReadP at h
    split at h
    · cases h
    · rename_i j hj
      split at h
      · rename_i ht
        injection h with h
        subst h
        by_cases ho : insOkB j procs size = true
        · simp only [textB, ho, if_true] at ht
          exact ⟨ho, stepP_to hj, ht⟩
        · simp only [textB, ho] at ht
          have : s = [] := by simpa using ht.symm
          subst this
          have e : stepP (split [] [32]) = none := by decide
          rw [e] at hj
          cases hj
      · cases h
  · rintro ⟨h1, h2, rfl⟩
    have hw := words_textI h1
    have hs := stepP_words (rdable h1 h2)
    unfold insReadP
    rw [hw, hs]
    simp [textB, h1]

end Go.Proofs.YtcdfomoglkhboaaGreatDoor
