/- The program's reader of a line. The numbers want the table, the two errors and strings.Split's bound. -/
import Derived.Test.YtcdfomoglkhboaaGreatDoorTj
import Derived.Test.YtcdfomoglkhboaaGreatDoorTk
import Derived.Test.YtcdfomoglkhboaaGreatDoorTsr
namespace Go.Proofs.YtcdfomoglkhboaaGreatDoor
open Go.RowKit Go.Lib
set_option linter.unusedVariables false

theorem implInsRead (s : List UInt8) (procs size : Int) (w : World) (En : Env w) (ML : MaxL w) :
    Calls Tryz.prog 16 #[.string ⟨s.toArray⟩, .int .i64 procs, .int .i64 size] w fun e w' => e = .returned (insV (lineI s procs size)) ∧ Grew w w' := by
  unfold lineI
  by_cases h : 60 < s.length
  · rw [if_pos h]
    exact insReadA s procs size w h
  rw [if_neg h]
  have hl : s.length ≤ 60 := by omega
  obtain ⟨x, r, hsp⟩ : ∃ x r, split s [32] = x :: r := by
    cases hs : split s [32] with
    | nil => exact absurd hs (split_ne s)
    | cons x r => exact ⟨x, r, rfl⟩
  have hsr : ShortW r := fun y hy => by
    have := split_short s y (by rw [hsp]; exact List.mem_cons_of_mem _ hy)
    omega
  have hrm : r.length ≤ maxLen := by
    have := split_cnt s
    rw [hsp, List.length_cons] at this
    unfold maxLen
    omega
  by_cases hx : x = []
  · have e : insReadP s procs size = none := by
      unfold insReadP stepP
      rw [hsp]
      subst hx
      have e0 : readerP [] = none := by decide
      simp only [List.headD_cons, e0]
    rw [e]
    exact insReadE s x r procs size w hl hsp hsr En ML hx
  cases hrf : readerP x with
  | none =>
    have e : insReadP s procs size = none := by
      unfold insReadP stepP
      rw [hsp]
      simp only [List.headD_cons, hrf]
    rw [e]
    exact insReadN s x r procs size w hl hsp hsr En ML hrf hx
  | some f =>
    obtain ⟨⟨op, d, a, bI, rel, lo, hi, tv⟩, s2, hf⟩ : ∃ i s2, f ⟨r, false⟩ = (i, s2) := ⟨_, _, rfl⟩
    have hto : tv ≤ 9223372036854775807 := by
      have := numOkB_iff.1 (readerP_to hrf ⟨r, false⟩)
      rw [hf] at this
      simp only at this
      omega
    have e : insReadP s procs size = (if s2.bad then none else if textB ⟨op, d, a, bI, rel, lo, hi, tv⟩ procs size = s then some ⟨op, d, a, bI, rel, lo, hi, tv⟩ else none) := by
      unfold insReadP stepP
      rw [hsp]
      simp only [List.headD_cons, hrf, List.tail_cons, hf]
      cases s2.bad <;> simp
    rw [e]
    by_cases hr0 : r = []
    · exact insReadF0 s x r procs size w hl hsp hsr En ML hx f hrf op d a bI rel lo hi tv s2 hf hto hrm hr0
    · exact insReadF1 s x r procs size w hl hsp hsr En ML hx f hrf op d a bI rel lo hi tv s2 hf hto hrm hr0
end Go.Proofs.YtcdfomoglkhboaaGreatDoor
