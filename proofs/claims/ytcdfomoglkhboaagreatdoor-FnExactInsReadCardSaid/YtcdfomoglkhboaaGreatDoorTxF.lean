/-
  THE FIRST LINES, plain: the reference's readers of a program's and of a procedure's first line say what XTxE's say.
-/
import Derived.Test.YtcdfomoglkhboaaGreatDoorTxE
namespace Go.Proofs.YtcdfomoglkhboaaGreatDoor
open Go.Lib
set_option linter.unusedSimpArgs false

theorem join_cons2 (x y : List UInt8) (r : List (List UInt8)) : join (x :: y :: r) [32] = x ++ (32 :: join (y :: r) [32]) := by
  rw [join_cons, join_cons]
  simp [joinTail]
theorem join_wordsFrom (s : List UInt8) : ∀ w, join (wordsFrom w s) [32] = w ++ s := by
  induction s with
  | nil => intro w; simp [wordsFrom, join_one]
  | cons c s ih =>
    intro w
    rw [wordsFrom]
    split
    · rename_i hc
      subst hc
      have h := ih []
      cases hr : wordsFrom [] s with
      | nil => exact absurd hr (wordsFrom_ne s [])
      | cons y r =>
        rw [hr] at h
        rw [join_cons2, h]
        simp
    · rw [ih]; simp
/-- A text is the join of its words. -/
theorem join_split (s : List UInt8) : join (split s [32]) [32] = s := by
  rw [split_words _ s (Nat.lt_succ_self _), join_wordsFrom]
  rfl

theorem headN_iff {s : List UInt8} {n : Int} : headN s = some n ↔ (1 ≤ n ∧ n ≤ 4) ∧ s = headL n := by
  constructor
  · intro h
    have hj := join_split s
    unfold headN at h
    split at h
    · rename_i w0 w1 hw
      split at h
      · rename_i h0
        subst h0
        split at h
        · rename_i m hm
          split at h
          · rename_i hr
            injection h with h
            subst h
            refine ⟨hr, ?_⟩
            rw [← hj, hw, headL, (readN_some.1 hm).2]
          · cases h
        · cases h
      · cases h
    · cases h
  · rintro ⟨⟨h1, h2⟩, rfl⟩
    exact headN_L h1 h2

theorem prcN_iff {s : List UInt8} {lo hi n : Int} : prcN s = some (lo, hi, n) ↔ itvOkB lo hi = true ∧ (1 ≤ n ∧ n ≤ 10) ∧ s = prcL lo hi n := by
  constructor
  · intro h
    have hj := join_split s
    unfold prcN at h
    split at h
    · rename_i w0 w1 w2 w3 w4 hw
      split at h
      · rename_i h0
        obtain ⟨rfl, rfl⟩ := h0
        split at h
        · rename_i a b c ha hb hc
          split at h
          · rename_i hr
            simp only [Option.some.injEq, Prod.mk.injEq] at h
            obtain ⟨rfl, rfl, rfl⟩ := h
            refine ⟨?_, hr.2, ?_⟩
            · have e1 := numOkB_iff.1 (readN_some.1 ha).1
              have e2 := numOkB_iff.1 (readN_some.1 hb).1
              simp only [itvOkB, Bool.and_eq_true, decide_eq_true_eq]
              omega
            · rw [← hj, hw, prcL, (readN_some.1 ha).2, (readN_some.1 hb).2, (readN_some.1 hc).2]
          · cases h
        · cases h
      · cases h
    · cases h
  · rintro ⟨h, ⟨h1, h2⟩, rfl⟩
    exact prcN_L h h1 h2

/-- The reference's first line: 0, if it is wrong. -/
def headS (s : List UInt8) : Int :=
  if ¬ (1 ≤ numOfS (atS (split s [32]) 1) ∧ numOfS (atS (split s [32]) 1) ≤ 4) ∨ s ≠ headL (numOfS (atS (split s [32]) 1)) then 0 else numOfS (atS (split s [32]) 1)
theorem words_head {n : Int} : split (headL n) [32] = [procsT, itoa n] := split_join _ _ (by
  intro u hu
  simp only [List.mem_cons, List.not_mem_nil, or_false] at hu
  rcases hu with rfl | rfl
  · decide
  · exact itoa_noSpace n)
theorem headS_eq (s : List UInt8) : headS s = (headN s).getD 0 := by
  cases h : headN s with
  | some n =>
    obtain ⟨hr, rfl⟩ := headN_iff.1 h
    have e : numOfS (atS (split (headL n) [32]) 1) = n := by
      rw [words_head]
      exact numOfS_T (numOk_small (by omega) (by omega))
    unfold headS
    rw [e, if_neg]
    · rfl
    · simp [hr]
  | none =>
    unfold headS
    split
    · rfl
    · rename_i hc
      simp only [ne_eq, not_or, Decidable.not_not] at hc
      generalize numOfS (atS (split s [32]) 1) = m at hc
      rw [headN_iff.2 hc] at h
      cases h

/-- The reference's reader of a procedure's first line. -/
def prcS (s : List UInt8) : Option (Int × Int × Int) := match readN (atS (split s [32]) 1), readN (atS (split s [32]) 2) with
  | some lo, some hi =>
    if hi < lo ∨ ¬ (1 ≤ numOfS (atS (split s [32]) 4) ∧ numOfS (atS (split s [32]) 4) ≤ 10) ∨ s ≠ prcL lo hi (numOfS (atS (split s [32]) 4)) then none
    else some (lo, hi, numOfS (atS (split s [32]) 4))
  | _, _ => none
theorem words_prc {lo hi n : Int} : split (prcL lo hi n) [32] = [procT, itoa lo, itoa hi, sizeT, itoa n] := split_join _ _ (by
  intro u hu
  simp only [List.mem_cons, List.not_mem_nil, or_false] at hu
  rcases hu with rfl | rfl | rfl | rfl | rfl
  · decide
  · exact itoa_noSpace _
  · exact itoa_noSpace _
  · decide
  · exact itoa_noSpace _)
theorem prcS_eq (s : List UInt8) : prcS s = prcN s := by
  cases h : prcN s with
  | some x =>
    obtain ⟨lo, hi, n⟩ := x
    obtain ⟨hb, hr, rfl⟩ := prcN_iff.1 h
    obtain ⟨hlo, hhi⟩ := itvOkB_num hb
    have hle : lo ≤ hi := by
      simp only [itvOkB, Bool.and_eq_true, decide_eq_true_eq] at hb
      exact hb.2
    have e : numOfS (itoa n) = n := numOfS_T (numOk_small (by omega) (by omega))
    unfold prcS
    rw [words_prc]
    simp only [atS, List.getD_cons_succ, List.getD_cons_zero, readN_itoa hlo, readN_itoa hhi, e]
    rw [if_neg]
    simp only [ne_eq, not_true_eq_false, or_false, not_or, Decidable.not_not]
    exact ⟨by omega, hr⟩
  | none =>
    unfold prcS
    split
    · rename_i lo hi hlo hhi
      split
      · rfl
      · rename_i hc
        simp only [ne_eq, not_or, Decidable.not_not] at hc
        obtain ⟨h1, h2, h3⟩ := hc
        generalize numOfS (atS (split s [32]) 4) = n at h2 h3
        have hb : itvOkB lo hi = true := by
          have e1 := numOkB_iff.1 (readN_some.1 hlo).1
          have e2 := numOkB_iff.1 (readN_some.1 hhi).1
          simp only [itvOkB, Bool.and_eq_true, decide_eq_true_eq]
          omega
        rw [prcN_iff.2 ⟨hb, h2, h3⟩] at h
        cases h
    · rfl

/-- The reference's reader of a line that is a step. -/
theorem lineS_eq (s : List UInt8) (procs size : Int) : (if 60 < s.length then none else insReadS s procs size) = lineI s procs size := by
  unfold lineI
  rw [insRead_same]

end Go.Proofs.YtcdfomoglkhboaaGreatDoor
