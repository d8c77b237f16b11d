/-
  THE READERS of numbers and of instructions, plain: the reference's reader of a number says what the program's says; both readers of an instruction say the same.
-/
import Derived.Test.YtcdfomoglkhboaaGreatDoorTxC
namespace Go.Proofs.YtcdfomoglkhboaaGreatDoor
open Go.Lib
set_option linter.unusedSimpArgs false

/-! ### Numbers -/

def bareS (s : List UInt8) : List UInt8 := match s with
  | c :: r => if c = 45 then r else c :: r
  | [] => []
def valueS (t : List UInt8) : Option Nat := if t.length = 0 ∨ 6 < t.length then none else decFrom 0 t
/-- What the reference reads a text as. -/
def readS (s : List UInt8) : Option Int := match valueS (bareS s) with
  | none => none
  | some n =>
    if numOkB (if (bareS s).length < s.length then -(n : Int) else n) && decide (itoa (if (bareS s).length < s.length then -(n : Int) else n) = s) then
      some (if (bareS s).length < s.length then -(n : Int) else n) else none

theorem numOkB_iff {n : Int} : numOkB n = true ↔ -32768 ≤ n ∧ n ≤ 32767 := by simp [numOkB]

theorem readS_eq (s : List UInt8) : readS s = readN s := by
  cases h : readN s with
  | some n =>
    obtain ⟨h1, rfl⟩ := readN_some.1 h
    obtain ⟨h2, h3⟩ := numOkB_iff.1 h1
    by_cases hn : n < 0
    · have e : itoa n = 45 :: decDigits n.natAbs := by unfold itoa; rw [if_pos hn]
      have el : (decDigits n.natAbs).length ≤ 5 := by rw [decDigits_length]; exact nDigits_le5 (by omega)
      have e0 : (decDigits n.natAbs).length ≠ 0 := fun e => decDigits_ne _ (List.eq_nil_of_length_eq_zero e)
      have eb : bareS (itoa n) = decDigits n.natAbs := by rw [e]; rfl
      have ev : valueS (bareS (itoa n)) = some n.natAbs := by
        rw [eb, valueS, if_neg (by omega), decFrom_dec]
      have elt : (bareS (itoa n)).length < (itoa n).length := by rw [eb, e, List.length_cons]; omega
      have ei : -((n.natAbs : Nat) : Int) = n := by omega
      simp only [readS, ev, if_pos elt, ei]
      simp [h1]
    · have e : itoa n = decDigits n.toNat := by unfold itoa; rw [if_neg hn]
      have el : (decDigits n.toNat).length ≤ 5 := by rw [decDigits_length]; exact nDigits_le5 (by omega)
      have e0 : (decDigits n.toNat).length ≠ 0 := fun e => decDigits_ne _ (List.eq_nil_of_length_eq_zero e)
      have eb : bareS (itoa n) = decDigits n.toNat := by
        rw [e]
        have ha := decDigits_all n.toNat
        cases hx : decDigits n.toNat with
        | nil => rfl
        | cons c r =>
          rw [hx] at ha
          have hc := ha c (by simp)
          have : ¬ c = 45 := fun e => by rw [e] at hc; exact absurd hc.1 (by decide)
          simp [bareS, this]
      have ev : valueS (bareS (itoa n)) = some n.toNat := by
        rw [eb, valueS, if_neg (by omega), decFrom_dec]
      have elt : ¬ (bareS (itoa n)).length < (itoa n).length := by rw [eb, e]; omega
      have ei : ((n.toNat : Nat) : Int) = n := by omega
      simp only [readS, ev, if_neg elt, ei]
      simp [h1]
  | none =>
    unfold readS
    cases hv : valueS (bareS s) with
    | none => rfl
    | some n =>
      simp only
      generalize (if (bareS s).length < s.length then -(n : Int) else (n : Int)) = m
      split
      · rename_i hc
        simp only [Bool.and_eq_true, decide_eq_true_eq] at hc
        rw [readN_some.2 hc] at h
        cases h
      · rfl

theorem numOfS_ok (s : List UInt8) : numOkB (numOfS s) = true := by
  unfold numOfS
  cases h : readN s with
  | none => rfl
  | some n => exact (readN_some.1 h).1
theorem numP_ok (s : Sc) : numOkB (numP s).1 = true := by
  unfold numP oneP
  split
  · rename_i k h
    exact (readN_some.1 h).1
  · rfl

/-! ### Instructions -/

theorem stepS_to (ws : List (List UInt8)) : numOkB (stepS ws).to = true := by
  unfold stepS
  repeat' split
  all_goals first
    | rfl
    | exact numOfS_ok _

theorem ite_some {α : Type} {c : Prop} [Decidable c] {a f : α} {b : Option α} {Q : α → Prop} (ha : Q a) (hb : b = some f → Q f) (h : (if c then some a else b) = some f) : Q f := by
  split at h
  · injection h with h; rw [← h]; exact ha
  · exact hb h
theorem readerP_to {w : List UInt8} {f : Sc → Ins × Sc} (h : readerP w = some f) : ∀ s : Sc, numOkB (f s).1.to = true := by
  unfold readerP at h
  revert h
  refine ite_some (Q := fun (f : Sc → Ins × Sc) => ∀ s, numOkB (f s).1.to = true) (fun _ => rfl) ?_
  refine ite_some (Q := fun (f : Sc → Ins × Sc) => ∀ s, numOkB (f s).1.to = true) (fun _ => rfl) ?_
  refine ite_some (Q := fun (f : Sc → Ins × Sc) => ∀ s, numOkB (f s).1.to = true) (fun _ => rfl) ?_
  refine ite_some (Q := fun (f : Sc → Ins × Sc) => ∀ s, numOkB (f s).1.to = true) (fun _ => numP_ok _) ?_
  refine ite_some (Q := fun (f : Sc → Ins × Sc) => ∀ s, numOkB (f s).1.to = true) (fun _ => numP_ok _) ?_
  refine ite_some (Q := fun (f : Sc → Ins × Sc) => ∀ s, numOkB (f s).1.to = true) (fun _ => rfl) ?_
  refine ite_some (Q := fun (f : Sc → Ins × Sc) => ∀ s, numOkB (f s).1.to = true) (fun _ => rfl) ?_
  refine ite_some (Q := fun (f : Sc → Ins × Sc) => ∀ s, numOkB (f s).1.to = true) (fun _ => numP_ok _) ?_
  refine ite_some (Q := fun (f : Sc → Ins × Sc) => ∀ s, numOkB (f s).1.to = true) (fun _ => rfl) ?_
  refine ite_some (Q := fun (f : Sc → Ins × Sc) => ∀ s, numOkB (f s).1.to = true) (fun _ => rfl) ?_
  refine ite_some (Q := fun (f : Sc → Ins × Sc) => ∀ s, numOkB (f s).1.to = true) (fun _ => rfl) ?_
  refine ite_some (Q := fun (f : Sc → Ins × Sc) => ∀ s, numOkB (f s).1.to = true) (fun _ => rfl) ?_
  refine ite_some (Q := fun (f : Sc → Ins × Sc) => ∀ s, numOkB (f s).1.to = true) (fun _ => rfl) ?_
  intro h
  cases h

theorem stepP_to {ws : List (List UInt8)} {i : Ins} (h : stepP ws = some i) : numOkB i.to = true := by
  unfold stepP at h
  split at h
  · cases h
  · rename_i f hf
    split at h
    · cases h
    · injection h with h
      rw [← h]
      exact readerP_to hf _

/-- An instruction's text, as both write it: empty, if it is not ok. -/
def textB (i : Ins) (procs size : Int) : List UInt8 := if insOkB i procs size then textI i else []
theorem textI_ne (i : Ins) (h : headB i = true) : textI i ≠ [] := by
  obtain ⟨op, d, a, b, rel, lo, hi, to⟩ := i
  simp only [headB, Bool.and_eq_true, decide_eq_true_eq] at h
  obtain ⟨⟨h1, h2⟩, -⟩ := h
  have ho : op = 1 ∨ op = 2 ∨ op = 3 ∨ op = 4 ∨ op = 5 ∨ op = 6 ∨ op = 7 ∨ op = 8 ∨ op = 9 ∨ op = 10 ∨ op = 11 ∨ op = 12 := by omega
  rcases ho with rfl | rfl | rfl | rfl | rfl | rfl | rfl | rfl | rfl | rfl | rfl | rfl 
  all_goals
    by_cases e : lo = hi <;> simp [textI, wordsI, e, join_cons, nameT, setT]

/-- What the reference reads. -/
def insReadS (s : List UInt8) (procs size : Int) : Option Ins :=
  if textB (stepS (split s [32])) procs size = [] ∨ textB (stepS (split s [32])) procs size ≠ s then none else some (stepS (split s [32]))
/-- What the program reads. -/
def insReadP (s : List UInt8) (procs size : Int) : Option Ins := match stepP (split s [32]) with
  | none => none
  | some i => if textB i procs size = s then some i else none

theorem split_ne (s : List UInt8) : split s [32] ≠ [] := by
  rw [split_words _ s (Nat.lt_succ_self _)]
  exact wordsFrom_ne s []

theorem insReadS_some {s : List UInt8} {procs size : Int} {i : Ins} :
    insReadS s procs size = some i ↔ insOkB i procs size = true ∧ numOkB i.to = true ∧ textI i = s := by
  constructor
  · intro h
    unfold insReadS at h
    split at h
    · cases h
    · rename_i hc
      injection h with h
      rw [h] at hc
      have ht := stepS_to (split s [32])
      rw [h] at ht
      by_cases ho : insOkB i procs size = true
      · simp only [textB, ho, if_true, not_or, Decidable.not_not] at hc
        exact ⟨ho, ht, hc.2⟩
      · simp [textB, ho] at hc
  · rintro ⟨h1, h2, rfl⟩
    have hw := words_textI h1
    have hs := stepS_words (rdable h1 h2)
    have hh : headB i = true := (rdable h1 h2).head
    unfold insReadS
    rw [hw, hs, if_neg]
    simp [textB, h1, textI_ne i hh]

theorem insReadP_some {s : List UInt8} {procs size : Int} {i : Ins} :
    insReadP s procs size = some i ↔ insOkB i procs size = true ∧ numOkB i.to = true ∧ textI i = s := by
  constructor
  · intro h
    unfold insReadP at h
    split at h
    · cases h
    · rename_i j hj
      split at h
      · rename_i ht
        injection h with h
        subst h
        by_cases ho : insOkB j procs size = true
        · simp only [textB, ho, if_true] at ht
          exact ⟨ho, stepP_to hj, ht⟩
        · simp only [textB, ho] at ht
          have : s = [] := by simpa using ht.symm
          subst this
          have e : stepP (split [] [32]) = none := by decide
          rw [e] at hj
          cases hj
      · cases h
  · rintro ⟨h1, h2, rfl⟩
    have hw := words_textI h1
    have hs := stepP_words (rdable h1 h2)
    unfold insReadP
    rw [hw, hs]
    simp [textB, h1]

/-- Both readers read the same. -/
theorem insRead_same (s : List UInt8) (procs size : Int) : insReadS s procs size = insReadP s procs size := by
  cases h : insReadP s procs size with
  | some i => exact insReadS_some.2 (insReadP_some.1 h)
  | none =>
    cases h' : insReadS s procs size with
    | none => rfl
    | some i => rw [insReadP_some.2 (insReadS_some.1 h')] at h; cases h

end Go.Proofs.YtcdfomoglkhboaaGreatDoor
