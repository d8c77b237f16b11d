/- Lemmas and walks of this proof, some texts one behind the other. No condition. -/
import Derived.Test.YtcdfomoglkhboaaGreatDoorTs
import Derived.Test.YtcdfomoglkhboaaGreatDoorRgA
import Derived.Test.YtcdfomoglkhboaaGreatDoorTxD
import Derived.Test.YtcdfomoglkhboaaGreatDoorTir
import Derived.Test.YtcdfomoglkhboaaGreatDoorTxF
import Derived.Test.YtcdfomoglkhboaaGreatDoorTj
import Derived.Test.YtcdfomoglkhboaaGreatDoorTk
set_option linter.unusedSimpArgs false
set_option linter.unusedVariables false
/- The reference's reader of a number, and its words. No condition. -/
namespace Go.Proofs.YtcdfomoglkhboaaGreatDoor
open Go.RowKit Go.Lib
set_option linter.unusedVariables false
set_option linter.unusedSimpArgs false
attribute [local go_sem] ext_cell ext_frozen ext_lt ext_le ext_le1 lt_s2 lt_s3 lt_s4 lt_s5 lt_s6 ext_lt1 ext_lt2 ext_lt3
attribute [local go_sem] ByteArray.mk_append_mk ByteArray.extract_mk

theorem ba_lt {l : List UInt8} {i : Nat} (h : i < (ByteArray.mk l.toArray).size) : i < l.length := by
  have : (ByteArray.mk l.toArray).size = l.length := by show l.toArray.size = _; rw [List.size_toArray]
  omega
theorem baGet (l : List UInt8) (i : Nat) (h : i < (ByteArray.mk l.toArray).size) : (ByteArray.mk l.toArray)[i]'h = l[i]'(ba_lt h) := rfl
attribute [local go_sem] baGet
end Go.Proofs.YtcdfomoglkhboaaGreatDoor

/- The reference's reader of a line. No condition. -/
namespace Go.Proofs.YtcdfomoglkhboaaGreatDoor
open Go.RowKit Go.Lib
set_option linter.unusedVariables false
set_option linter.unusedSimpArgs false
attribute [local go_sem] ext_cell ext_frozen ext_lt ext_le ext_le1 lt_s2 lt_s3 lt_s4 lt_s5 lt_s6 ext_lt1 ext_lt2 ext_lt3

theorem words_len : ∀ (s w y : List UInt8), y ∈ wordsFrom w s → y.length ≤ w.length + s.length := by
  intro s
  induction s with
  | nil => intro w y h; simp only [wordsFrom, List.mem_singleton] at h; rw [h]; simp
  | cons c s ih =>
    intro w y h
    rw [wordsFrom] at h
    by_cases hc : c = 32
    · rw [if_pos hc, List.mem_cons] at h
      rcases h with rfl | h
      · simp only [List.length_cons]; omega
      · have := ih [] y h
        simp only [List.length_cons, List.length_nil] at *; omega
    · rw [if_neg hc] at h
      have := ih _ y h
      simp only [List.length_append, List.length_cons, List.length_nil] at *; omega
theorem words_cnt : ∀ (s w : List UInt8), (wordsFrom w s).length ≤ s.length + 1 := by
  intro s
  induction s with
  | nil => intro w; simp [wordsFrom]
  | cons c s ih =>
    intro w
    rw [wordsFrom]
    split
    · have := ih []
      simp only [List.length_cons]; omega
    · have := ih (w ++ [c])
      simp only [List.length_cons]; omega
theorem split_short (s y : List UInt8) (h : y ∈ split s [32]) : y.length ≤ s.length := by
  rw [split_words _ s (Nat.lt_succ_self _)] at h
  have := words_len s [] y h
  simpa using this
theorem split_cnt (s : List UInt8) : (split s [32]).length ≤ s.length + 1 := by
  rw [split_words _ s (Nat.lt_succ_self _)]
  exact words_cnt s []
end Go.Proofs.YtcdfomoglkhboaaGreatDoor

/- The program's reader of a line. The numbers want the table, the two errors and strings.Split's bound. -/
namespace Go.Proofs.YtcdfomoglkhboaaGreatDoor
open Go.RowKit Go.Lib
set_option linter.unusedVariables false

theorem implInsRead (s : List UInt8) (procs size : Int) (w : World) (En : Env w) (ML : MaxL w) :
    Calls Tryz.prog 16 #[.string ⟨s.toArray⟩, .int .i64 procs, .int .i64 size] w fun e w' => e = .returned (insV (lineI s procs size)) ∧ Grew w w' := by
  unfold lineI
  by_cases h : 60 < s.length
  · rw [if_pos h]
    exact insReadA s procs size w h
  rw [if_neg h]
  have hl : s.length ≤ 60 := by omega
  obtain ⟨x, r, hsp⟩ : ∃ x r, split s [32] = x :: r := by
    cases hs : split s [32] with
    | nil => exact absurd hs (split_ne s)
    | cons x r => exact ⟨x, r, rfl⟩
  have hsr : ShortW r := fun y hy => by
    have := split_short s y (by rw [hsp]; exact List.mem_cons_of_mem _ hy)
    omega
  have hrm : r.length ≤ maxLen := by
    have := split_cnt s
    rw [hsp, List.length_cons] at this
    unfold maxLen
    omega
  by_cases hx : x = []
  · have e : insReadP s procs size = none := by
      unfold insReadP stepP
      rw [hsp]
      subst hx
      have e0 : readerP [] = none := by decide
      simp only [List.headD_cons, e0]
    rw [e]
    exact insReadE s x r procs size w hl hsp hsr En ML hx
  cases hrf : readerP x with
  | none =>
    have e : insReadP s procs size = none := by
      unfold insReadP stepP
      rw [hsp]
      simp only [List.headD_cons, hrf]
    rw [e]
    exact insReadN s x r procs size w hl hsp hsr En ML hrf hx
  | some f =>
    obtain ⟨⟨op, d, a, bI, rel, lo, hi, tv⟩, s2, hf⟩ : ∃ i s2, f ⟨r, false⟩ = (i, s2) := ⟨_, _, rfl⟩
    have hto : tv ≤ 9223372036854775807 := by
      have := numOkB_iff.1 (readerP_to hrf ⟨r, false⟩)
      rw [hf] at this
      simp only at this
      omega
    have e : insReadP s procs size = (if s2.bad then none else if textB ⟨op, d, a, bI, rel, lo, hi, tv⟩ procs size = s then some ⟨op, d, a, bI, rel, lo, hi, tv⟩ else none) := by
      unfold insReadP stepP
      rw [hsp]
      simp only [List.headD_cons, hrf, List.tail_cons, hf]
      cases s2.bad <;> simp
    rw [e]
    by_cases hr0 : r = []
    · exact insReadF0 s x r procs size w hl hsp hsr En ML hx f hrf op d a bI rel lo hi tv s2 hf hto hrm hr0
    · exact insReadF1 s x r procs size w hl hsp hsr En ML hx f hrf op d a bI rel lo hi tv s2 hf hto hrm hr0
end Go.Proofs.YtcdfomoglkhboaaGreatDoor
