/-
  THE TEXT OF A PROGRAM, plain: the numeral is read as its number; a row of words without spaces, joined by spaces, is split into the same words.
-/
import Derived.Lib.ItoaNum
import Derived.Lib.Join
import Derived.Lib.AtoiTie
import Derived.Lib.Split
import Derived.Lib.IndexLaws
import Derived.Lib.IndexBytes
namespace Go.Proofs.YtcdfomoglkhboaaGreatDoor
open Go.Lib

/-! ### Numbers -/

theorem decFrom_append (l r : List UInt8) (acc : Nat) : decFrom acc (l ++ r) = (decFrom acc l).bind fun a => decFrom a r := by
  induction l generalizing acc with
  | nil => rfl
  | cons c l ih =>
    simp only [List.cons_append, decFrom]
    cases digitVal c with
    | none => rfl
    | some d => exact ih _

theorem digitVal_ofNat {d : Nat} (h : d < 10) : digitVal (UInt8.ofNat (48 + d)) = some d := by
  have e : (UInt8.ofNat (48 + d)).toNat = 48 + d := by
    rw [UInt8.toNat_ofNat']; omega
  unfold digitVal
  rw [e, if_pos (by omega)]
  congr 1; omega

theorem decFrom_dec (u : Nat) : decFrom 0 (decDigits u) = some u := by
  induction u using Nat.strongRecOn with
  | ind u ih =>
    by_cases h : u < 10
    · rw [decDigits, dif_pos h]
      simp only [decFrom, digitVal_ofNat h, Nat.zero_mul, Nat.zero_add]
    · rw [decDigits, dif_neg h, decFrom_append, ih (u / 10) (by omega)]
      simp only [Option.bind_some, decFrom, digitVal_ofNat (Nat.mod_lt u (by decide : 0 < 10))]
      congr 1; omega

theorem decDigits_ne (u : Nat) : decDigits u ≠ [] := by
  intro e
  have h1 := decDigits_length u
  have h2 := nDigits_pos u
  rw [e, List.length_nil] at h1
  omega

theorem decDigits_all (u : Nat) : ∀ c ∈ decDigits u, 48 ≤ c.toNat ∧ c.toNat ≤ 57 := by
  intro c hc
  obtain ⟨k, hk⟩ := List.getElem?_of_mem hc
  obtain ⟨d, hd⟩ := digit_of_decFrom _ 0 u (decFrom_dec u) k c hk
  unfold digitVal at hd
  split at hd
  · assumption
  · cases hd

theorem decNat_dec (u : Nat) : decNat (decDigits u) = some u := by
  unfold decNat
  rw [if_neg (by simp [decDigits_ne u])]
  exact decFrom_dec u

/-- A numeral is read as its number. -/
theorem atoi_itoa (n : Int) : atoi (itoa n) = some n := by
  unfold itoa
  by_cases h : n < 0
  · rw [if_pos h]
    simp only [atoi, beq_self_eq_true, if_true]
    rw [decNat_dec]
    simp only [Option.map_some, Option.some.injEq]
    omega
  · rw [if_neg h]
    have hd := decNat_dec n.toNat
    have ha := decDigits_all n.toNat
    cases hx : decDigits n.toNat with
    | nil => exact absurd hx (decDigits_ne _)
    | cons c r =>
      rw [hx] at hd ha
      have hc := ha c (by simp)
      have h1 : ¬ c = 45 := fun e => by rw [e] at hc; exact absurd hc.1 (by decide)
      have h2 : ¬ c = 43 := fun e => by rw [e] at hc; exact absurd hc.1 (by decide)
      simp only [atoi, beq_iff_eq, h1, h2, if_false, hd, Option.map_some, Option.some.injEq]
      omega

/-- A numeral has no space. -/
theorem itoa_noSpace (n : Int) : ∀ c ∈ itoa n, c ≠ 32 := by
  have key : ∀ u, ∀ c ∈ decDigits u, c ≠ 32 := fun u c hc e => by
    have h := decDigits_all u c hc
    rw [e] at h
    exact absurd h.1 (by decide)
  unfold itoa
  split
  · intro c hc
    rcases List.mem_cons.1 hc with e | hc
    · rw [e]; decide
    · exact key _ c hc
  · exact key _

theorem nDigits_le5 {u : Nat} (h : u < 100000) : nDigits u ≤ 5 := by
  by_cases h1 : u < 10
  · rw [nDigits_small h1]; omega
  rw [nDigits_big h1]
  by_cases h2 : u / 10 < 10
  · rw [nDigits_small h2]; omega
  rw [nDigits_big h2]
  by_cases h3 : u / 10 / 10 < 10
  · rw [nDigits_small h3]; omega
  rw [nDigits_big h3]
  by_cases h4 : u / 10 / 10 / 10 < 10
  · rw [nDigits_small h4]; omega
  rw [nDigits_big h4, nDigits_small (by omega)]
  omega

theorem itoa_length {n : Int} (h1 : -100000 < n) (h2 : n < 100000) : (itoa n).length ≤ 6 := by
  unfold itoa
  split
  · have := nDigits_le5 (u := n.natAbs) (by omega)
    rw [List.length_cons, decDigits_length]; omega
  · have := nDigits_le5 (u := n.toNat) (by omega)
    rw [decDigits_length]; omega

/-! ### Words -/

/-- The words of a text, one space between; w is what stands of the first one. -/
def wordsFrom (w : List UInt8) : List UInt8 → List (List UInt8)
  | [] => [w]
  | c :: s => if c = 32 then w :: wordsFrom [] s else wordsFrom (w ++ [c]) s

theorem wordsFrom_word (u : List UInt8) : ∀ (w s : List UInt8), (∀ c ∈ u, c ≠ 32) → wordsFrom w (u ++ s) = wordsFrom (w ++ u) s := by
  induction u with
  | nil => intro w s _; simp
  | cons c u ih =>
    intro w s h
    rw [List.cons_append, wordsFrom, if_neg (h c (by simp)), ih _ _ fun x hx => h x (by simp [hx])]
    simp

theorem wordsFrom_all (w u : List UInt8) (h : ∀ c ∈ u, c ≠ 32) : wordsFrom w u = [w ++ u] := by
  have := wordsFrom_word u w [] h
  rw [List.append_nil] at this
  rw [this]
  rfl

theorem wordsFrom_join (r : List (List UInt8)) : ∀ (x : List UInt8), (∀ u ∈ x :: r, ∀ c ∈ u, c ≠ 32) → wordsFrom [] (join (x :: r) [32]) = x :: r := by
  induction r with
  | nil => intro x h; rw [join_one, wordsFrom_all [] x (h x (by simp))]; rfl
  | cons y r ih =>
    intro x h
    have e : join (x :: y :: r) [32] = x ++ (32 :: join (y :: r) [32]) := by
      rw [join_cons, join_cons]
      simp [joinTail]
    rw [e, wordsFrom_word x [] _ (h x (by simp)), wordsFrom, if_pos rfl, ih y fun u hu => h u (by simp [hu])]
    rfl

/-- strings.Split at one space is these words. -/
theorem split_words (k : Nat) : ∀ s : List UInt8, s.length < k → split s [32] = wordsFrom [] s := by
  induction k with
  | zero => intro s h; omega
  | succ k ih =>
    intro s h
    unfold split
    rcases Int.lt_or_le (index s [32]) 0 with hi | hi
    · have hm : index s [32] = -1 := by have := index_ge s [32]; omega
      rw [count_miss hm]
      have hn := indexByte_none (l := s) (c := 32) (by rw [← index_one]; exact hm)
      rw [wordsFrom_all [] s fun c hc e => by
        obtain ⟨j, hj⟩ := List.getElem?_of_mem hc
        exact hn j (by rw [hj, e])]
      rfl
    · obtain ⟨i, hi'⟩ : ∃ i : Nat, index s [32] = i := ⟨(index s [32]).toNat, by omega⟩
      obtain ⟨h1, h2⟩ := indexByte_some (l := s) (c := 32) (o := i) (by rw [← index_one]; exact hi')
      have hlt : i < s.length := (List.getElem?_eq_some_iff.1 h1).1
      rw [count_hit (by simp) hi', Nat.add_comm 1, splitK, if_neg (by rw [hi']; simp), hi']
      have es : s = s.take i ++ 32 :: s.drop (i + 1) := by
        have e1 := (List.take_append_drop i s).symm
        have e2 : s.drop i = 32 :: s.drop (i + 1) := by
          rw [List.drop_eq_getElem_cons hlt]
          congr 1
          exact (List.getElem?_eq_some_iff.1 h1).2
        rw [e2] at e1
        exact e1
      have et : wordsFrom [] s = s.take i :: wordsFrom [] (s.drop (i + 1)) := by
        conv => lhs; rw [es]
        rw [wordsFrom_word _ _ _ fun c hc e => by
          obtain ⟨j, hj⟩ := List.getElem?_of_mem hc
          have hj' : j < i := by
            have := (List.getElem?_eq_some_iff.1 hj).1
            rw [List.length_take] at this; omega
          rw [List.getElem?_take_of_lt hj'] at hj
          exact h2 j hj' (by rw [hj, e])]
        rw [wordsFrom, if_pos rfl]
        rfl
      have := ih (s.drop (i + 1)) (by rw [List.length_drop]; omega)
      unfold split at this
      rw [et, ← this]
      simp

theorem split_join (x : List UInt8) (r : List (List UInt8)) (h : ∀ u ∈ x :: r, ∀ c ∈ u, c ≠ 32) : split (join (x :: r) [32]) [32] = x :: r := by
  rw [split_words _ _ (Nat.lt_succ_self _), wordsFrom_join r x h]

/-- A text that is a row's join has that row's words. -/
theorem wordsFrom_ne (s : List UInt8) : ∀ w, wordsFrom w s ≠ [] := by
  induction s with
  | nil => intro w e; cases e
  | cons c s ih =>
    intro w
    rw [wordsFrom]
    split
    · intro e; cases e
    · exact ih _

end Go.Proofs.YtcdfomoglkhboaaGreatDoor
