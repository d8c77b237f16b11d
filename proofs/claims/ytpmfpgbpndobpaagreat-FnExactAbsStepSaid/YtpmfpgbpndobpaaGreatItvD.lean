/- Plain laws of bounds: what can be reckoned of two bounds, by the program's way and by the reference's. No condition. -/
import Derived.Test.YtpmfpgbpndobpaaGreatItvM
import Derived.Test.YtpmfpgbpndobpaaGreatHas
namespace Go.Proofs.YtpmfpgbpndobpaaGreat
open Go.RowKit
set_option linter.unusedVariables false
set_option linter.unusedSimpArgs false

def w16 (n : Int) : Int := if 32768 ≤ n % 65536 then n % 65536 - 65536 else n % 65536
theorem w16_wrap (n : Int) : IntKind.i16.wrap n = w16 n := by
  simp [IntKind.wrap, IntKind.bits, IntKind.signed, w16]
theorem w16_le (n : Int) : -32768 ≤ w16 n ∧ w16 n ≤ 32767 := by
  unfold w16
  split <;> omega
/-- The bounds of what is wrapped. -/
def foldI (lo hi : Int) : Itv := if lo - w16 lo = hi - w16 hi then ⟨w16 lo, w16 hi⟩ else ⟨-32768, 32767⟩
/-- The reference's remainder and turns. -/
def remS (n : Int) : Int := if (if n.tmod 65536 < 0 then n.tmod 65536 + 65536 else n.tmod 65536) > 32767 then (if n.tmod 65536 < 0 then n.tmod 65536 + 65536 else n.tmod 65536) - 65536 else (if n.tmod 65536 < 0 then n.tmod 65536 + 65536 else n.tmod 65536)
def turnS (n : Int) : Int := if (n + 32768).tmod 65536 < 0 then (n + 32768).tdiv 65536 - 1 else (n + 32768).tdiv 65536
theorem tmod_cases (n : Int) : (n.tmod 65536 = n % 65536 ∨ n.tmod 65536 = n % 65536 - 65536) ∧ (n.tmod 65536 < 0 → n.tmod 65536 = n % 65536 - 65536) ∧ (0 ≤ n.tmod 65536 → n.tmod 65536 = n % 65536) := by
  have h1 := Int.mul_tdiv_add_tmod n 65536
  have h2 := Int.tmod_lt_of_pos n (show (0 : Int) < 65536 by omega)
  have h3 : -65536 < n.tmod 65536 := by
    have := Int.lt_tmod_of_pos n (show (0 : Int) < 65536 by omega)
    omega
  omega
theorem remS_eq (n : Int) : remS n = w16 n := by
  have h := tmod_cases n
  unfold remS w16
  split <;> split <;> split <;> omega
theorem turnS_eq (n : Int) : 65536 * turnS n = n - w16 n := by
  have h := tmod_cases (n + 32768)
  have h1 := Int.mul_tdiv_add_tmod (n + 32768) 65536
  unfold turnS w16
  split <;> split <;> omega
theorem turn_iff (lo hi : Int) : turnS lo = turnS hi ↔ lo - w16 lo = hi - w16 hi := by
  have h1 := turnS_eq lo
  have h2 := turnS_eq hi
  omega
/-- The least and the greatest of some. -/
def minL : List Int → Int
  | [] => 0
  | x :: xs => xs.foldl min x
def maxL : List Int → Int
  | [] => 0
  | x :: xs => xs.foldl max x
def IsMin (l : List Int) (m : Int) : Prop := m ∈ l ∧ ∀ x ∈ l, m ≤ x
def IsMax (l : List Int) (m : Int) : Prop := m ∈ l ∧ ∀ x ∈ l, x ≤ m
theorem foldl_min : ∀ (xs : List Int) (x : Int), IsMin (x :: xs) (xs.foldl min x)
  | [], x => ⟨by simp, by simp⟩
  | y :: ys, x => by
    obtain ⟨h1, h2⟩ := foldl_min ys (min x y)
    refine ⟨?_, fun z hz => ?_⟩
    · simp only [List.foldl_cons, List.mem_cons] at *
      rcases h1 with h1 | h1
      · rw [h1]
        omega
      · exact .inr (.inr h1)
    · simp only [List.foldl_cons, List.mem_cons] at *
      have h3 := h2 (min x y) (.inl rfl)
      rcases hz with rfl | rfl | hz
      · omega
      · omega
      · exact h2 z (.inr hz)
theorem foldl_max : ∀ (xs : List Int) (x : Int), IsMax (x :: xs) (xs.foldl max x)
  | [], x => ⟨by simp, by simp⟩
  | y :: ys, x => by
    obtain ⟨h1, h2⟩ := foldl_max ys (max x y)
    refine ⟨?_, fun z hz => ?_⟩
    · simp only [List.foldl_cons, List.mem_cons] at *
      rcases h1 with h1 | h1
      · rw [h1]
        omega
      · exact .inr (.inr h1)
    · simp only [List.foldl_cons, List.mem_cons] at *
      have h3 := h2 (max x y) (.inl rfl)
      rcases hz with rfl | rfl | hz
      · omega
      · omega
      · exact h2 z (.inr hz)
theorem minL_is {l : List Int} (h : l ≠ []) : IsMin l (minL l) := by
  cases l with
  | nil => exact absurd rfl h
  | cons x xs => exact foldl_min xs x
theorem maxL_is {l : List Int} (h : l ≠ []) : IsMax l (maxL l) := by
  cases l with
  | nil => exact absurd rfl h
  | cons x xs => exact foldl_max xs x
theorem isMin_unique {l l' : List Int} {m m' : Int} (h : IsMin l m) (h' : IsMin l' m') (e : ∀ x, x ∈ l ↔ x ∈ l') : m = m' := by
  have h1 := h.2 m' ((e _).2 h'.1)
  have h2 := h'.2 m ((e _).1 h.1)
  omega
theorem isMax_unique {l l' : List Int} {m m' : Int} (h : IsMax l m) (h' : IsMax l' m') (e : ∀ x, x ∈ l ↔ x ∈ l') : m = m' := by
  have h1 := h.2 m' ((e _).2 h'.1)
  have h2 := h'.2 m ((e _).1 h.1)
  omega
/-- What the program reckons at the corners. -/
def opI (op n m : Int) : Int := if op = 1 then n + m else if op = 2 then n - m else if op = 3 then n * m else n.tdiv m
def secI (op : Int) (b : Itv) : List Int := if op = 4 then [b.lo, b.hi, -1, 1].filter (fun n => !decide (n = 0) && inB b.lo b.hi n) else [b.lo, b.hi]
def cornI (op : Int) (a b : Itv) : List (Int × Int) := (secI op b).flatMap fun n => [(a.lo, n), (a.hi, n)]
def ressI (op : Int) (a b : Itv) : List Int := if op = 2 then [a.lo - b.hi, a.hi - b.lo] else (cornI op a b).map fun c => opI op c.1 c.2
def doI (op : Int) (a b : Itv) : Option Itv := if ressI op a b = [] then none else some (foldI (minL (ressI op a b)) (maxL (ressI op a b)))
/-- The reference's way. -/
def spanI (a b c d : Int) : Itv := ⟨min (min a b) (min c d), max (max a b) (max c d)⟩
def divI (a b : Itv) : Itv :=
  if 0 ≤ b.lo then spanI (a.lo.tdiv (max b.lo 1)) (a.lo.tdiv b.hi) (a.hi.tdiv (max b.lo 1)) (a.hi.tdiv b.hi)
  else if b.hi ≤ 0 then spanI (a.lo.tdiv b.lo) (a.lo.tdiv (min b.hi (-1))) (a.hi.tdiv b.lo) (a.hi.tdiv (min b.hi (-1)))
  else ⟨min (spanI (a.lo.tdiv b.lo) (a.lo.tdiv (min b.hi (-1))) (a.hi.tdiv b.lo) (a.hi.tdiv (min b.hi (-1)))).lo (spanI a.lo (a.lo.tdiv b.hi) a.hi (a.hi.tdiv b.hi)).lo, max (spanI (a.lo.tdiv b.lo) (a.lo.tdiv (min b.hi (-1))) (a.hi.tdiv b.lo) (a.hi.tdiv (min b.hi (-1)))).hi (spanI a.lo (a.lo.tdiv b.hi) a.hi (a.hi.tdiv b.hi)).hi⟩
def doS (op : Int) (a b : Itv) : Option Itv :=
  if op = 1 then some (foldI (a.lo + b.lo) (a.hi + b.hi)) else if op = 2 then some (foldI (a.lo - b.hi) (a.hi - b.lo))
  else if op = 3 then some (foldI (spanI (a.lo * b.lo) (a.lo * b.hi) (a.hi * b.lo) (a.hi * b.hi)).lo (spanI (a.lo * b.lo) (a.lo * b.hi) (a.hi * b.lo) (a.hi * b.hi)).hi)
  else if b.lo ≠ 0 ∨ b.hi ≠ 0 then some (foldI (divI a b).lo (divI a b).hi) else none
theorem span_min (a b c d : Int) : IsMin [a, b, c, d] (spanI a b c d).lo := by
  simp only [IsMin, spanI, List.mem_cons, List.not_mem_nil, or_false]
  refine ⟨by omega, ?_⟩
  rintro x (rfl | rfl | rfl | rfl) <;> omega
theorem span_max (a b c d : Int) : IsMax [a, b, c, d] (spanI a b c d).hi := by
  simp only [IsMax, spanI, List.mem_cons, List.not_mem_nil, or_false]
  refine ⟨by omega, ?_⟩
  rintro x (rfl | rfl | rfl | rfl) <;> omega
theorem isMin_app {l l' : List Int} {m m' : Int} (h : IsMin l m) (h' : IsMin l' m') : IsMin (l ++ l') (min m m') := by
  refine ⟨?_, fun x hx => ?_⟩
  · rw [List.mem_append]
    by_cases e : m ≤ m'
    · rw [Int.min_eq_left e]
      exact .inl h.1
    · rw [Int.min_eq_right (by omega)]
      exact .inr h'.1
  · rcases List.mem_append.1 hx with hx | hx
    · have := h.2 x hx
      omega
    · have := h'.2 x hx
      omega
theorem isMax_app {l l' : List Int} {m m' : Int} (h : IsMax l m) (h' : IsMax l' m') : IsMax (l ++ l') (max m m') := by
  refine ⟨?_, fun x hx => ?_⟩
  · rw [List.mem_append]
    by_cases e : m ≤ m'
    · rw [Int.max_eq_right e]
      exact .inr h'.1
    · rw [Int.max_eq_left (by omega)]
      exact .inl h.1
  · rcases List.mem_append.1 hx with hx | hx
    · have := h.2 x hx
      omega
    · have := h'.2 x hx
      omega
theorem doI_of {op : Int} {a b : Itv} {l : List Int} {m M : Int} (hl : l ≠ []) (h1 : IsMin l m) (h2 : IsMax l M) (e : ∀ x, x ∈ ressI op a b ↔ x ∈ l) : doI op a b = some (foldI m M) := by
  have hne : ressI op a b ≠ [] := fun h => by
    have := (e m).2 h1.1
    rw [h] at this
    simp at this
  rw [doI, if_neg hne, isMin_unique (minL_is hne) h1 e, isMax_unique (maxL_is hne) h2 e]
theorem mem_ress {op : Int} {a b : Itv} (h2 : op ≠ 2) (x : Int) : x ∈ ressI op a b ↔ ∃ n, n ∈ secI op b ∧ (x = opI op a.lo n ∨ x = opI op a.hi n) := by
  simp only [ressI, h2, if_false, cornI, List.mem_map, List.mem_flatMap, List.mem_cons, List.not_mem_nil, or_false]
  constructor
  · rintro ⟨c, ⟨n, hn, rfl | rfl⟩, rfl⟩
    · exact ⟨n, hn, .inl rfl⟩
    · exact ⟨n, hn, .inr rfl⟩
  · rintro ⟨n, hn, rfl | rfl⟩
    · exact ⟨_, ⟨n, hn, .inl rfl⟩, rfl⟩
    · exact ⟨_, ⟨n, hn, .inr rfl⟩, rfl⟩
theorem sec4 (bl bh n : Int) : n ∈ secI 4 ⟨bl, bh⟩ ↔ n ≠ 0 ∧ bl ≤ n ∧ n ≤ bh ∧ (n = bl ∨ n = bh ∨ n = -1 ∨ n = 1) := by
  simp only [secI, if_true, List.mem_filter, List.mem_cons, List.not_mem_nil, or_false, inB, Bool.and_eq_true, decide_eq_true_eq, Bool.not_eq_true', decide_eq_false_iff_not]
  constructor
  · rintro ⟨h1, h2, h3, h4⟩
    exact ⟨h2, h3, h4, h1⟩
  · rintro ⟨h1, h2, h3, h4⟩
    exact ⟨h4, h1, h2, h3⟩
theorem ress4 {al ah bl bh : Int} {D l : List Int} (h1 : ∀ n, n ∈ secI 4 ⟨bl, bh⟩ ↔ n ∈ D) (h2 : ∀ x, (∃ n, n ∈ D ∧ (x = al.tdiv n ∨ x = ah.tdiv n)) ↔ x ∈ l) (x : Int) : x ∈ ressI 4 ⟨al, ah⟩ ⟨bl, bh⟩ ↔ x ∈ l := by
  rw [mem_ress (by omega), ← h2]
  constructor
  · rintro ⟨n, hn, h⟩
    exact ⟨n, (h1 n).1 hn, h⟩
  · rintro ⟨n, hn, h⟩
    exact ⟨n, (h1 n).2 hn, h⟩
theorem two_mem (al ah p q : Int) (x : Int) : (∃ n, n ∈ [p, q] ∧ (x = al.tdiv n ∨ x = ah.tdiv n)) ↔ x ∈ [al.tdiv p, al.tdiv q, ah.tdiv p, ah.tdiv q] := by
  simp only [List.mem_cons, List.not_mem_nil, or_false]
  constructor
  · rintro ⟨n, rfl | rfl, rfl | rfl⟩ <;> simp
  · rintro (rfl | rfl | rfl | rfl)
    · exact ⟨p, .inl rfl, .inl rfl⟩
    · exact ⟨q, .inr rfl, .inl rfl⟩
    · exact ⟨p, .inl rfl, .inr rfl⟩
    · exact ⟨q, .inr rfl, .inr rfl⟩
theorem four_mem (al ah p q r s : Int) (x : Int) : (∃ n, n ∈ [p, q, r, s] ∧ (x = al.tdiv n ∨ x = ah.tdiv n)) ↔ x ∈ [al.tdiv p, al.tdiv q, ah.tdiv p, ah.tdiv q] ++ [al.tdiv r, al.tdiv s, ah.tdiv r, ah.tdiv s] := by
  rw [List.mem_append, ← two_mem, ← two_mem]
  constructor
  · rintro ⟨n, hn, h⟩
    simp only [List.mem_cons, List.not_mem_nil, or_false] at hn
    rcases hn with rfl | rfl | rfl | rfl
    · exact .inl ⟨_, by simp, h⟩
    · exact .inl ⟨_, by simp, h⟩
    · exact .inr ⟨_, by simp, h⟩
    · exact .inr ⟨_, by simp, h⟩
  · rintro (⟨n, hn, h⟩ | ⟨n, hn, h⟩)
    · refine ⟨n, ?_, h⟩
      simp only [List.mem_cons, List.not_mem_nil, or_false] at hn ⊢
      rcases hn with rfl | rfl
      · exact .inl rfl
      · exact .inr (.inl rfl)
    · refine ⟨n, ?_, h⟩
      simp only [List.mem_cons, List.not_mem_nil, or_false] at hn ⊢
      rcases hn with rfl | rfl
      · exact .inr (.inr (.inl rfl))
      · exact .inr (.inr (.inr rfl))
theorem doS_eq {op : Int} {a b : Itv} (ha : itvB a = true) (hb : itvB b = true) (h1 : 1 ≤ op) (h4 : op ≤ 4) : doS op a b = doI op a b := by
  obtain ⟨al, ah⟩ := a
  obtain ⟨bl, bh⟩ := b
  rw [itvB_iff] at ha hb
  simp only at ha hb
  have hop : op = 1 ∨ op = 2 ∨ op = 3 ∨ op = 4 := by omega
  rcases hop with rfl | rfl | rfl | rfl
  · rw [doI_of (l := [al + bl, ah + bl, al + bh, ah + bh]) (m := al + bl) (M := ah + bh) (by simp) (by simp [IsMin]; omega) (by simp [IsMax]; omega)]
    · simp [doS]
    · intro x
      rw [mem_ress (by omega)]
      simp only [secI, opI, List.mem_cons, List.not_mem_nil, or_false]
      simp
      grind
  · rw [doI_of (l := [al - bh, ah - bl]) (m := al - bh) (M := ah - bl) (by simp) (by simp [IsMin]; omega) (by simp [IsMax]; omega)]
    · simp [doS]
    · intro x
      simp [ressI]
  · rw [doI_of (by simp) (span_min (al * bl) (al * bh) (ah * bl) (ah * bh)) (span_max _ _ _ _)]
    · simp [doS]
    · intro x
      rw [mem_ress (by omega)]
      simp only [secI, opI, List.mem_cons, List.not_mem_nil, or_false]
      simp
      grind
  · by_cases hz : bl ≠ 0 ∨ bh ≠ 0
    · have e : doS 4 ⟨al, ah⟩ ⟨bl, bh⟩ = some (foldI (divI ⟨al, ah⟩ ⟨bl, bh⟩).lo (divI ⟨al, ah⟩ ⟨bl, bh⟩).hi) := by
        simp only [doS]
        simp
        intro h
        omega
      rw [e]
      by_cases c1 : 0 ≤ bl
      · rw [show divI ⟨al, ah⟩ ⟨bl, bh⟩ = spanI (al.tdiv (max bl 1)) (al.tdiv bh) (ah.tdiv (max bl 1)) (ah.tdiv bh) by simp only [divI, c1, if_true]]
        refine (doI_of (by simp) (span_min _ _ _ _) (span_max _ _ _ _) (ress4 (D := [max bl 1, bh]) (fun n => ?_) (two_mem _ _ _ _))).symm
        rw [sec4]
        simp only [List.mem_cons, List.not_mem_nil, or_false]
        omega
      · by_cases c2 : bh ≤ 0
        · rw [show divI ⟨al, ah⟩ ⟨bl, bh⟩ = spanI (al.tdiv bl) (al.tdiv (min bh (-1))) (ah.tdiv bl) (ah.tdiv (min bh (-1))) by simp only [divI, c1, c2, if_true, if_false]]
          refine (doI_of (by simp) (span_min _ _ _ _) (span_max _ _ _ _) (ress4 (D := [bl, min bh (-1)]) (fun n => ?_) (two_mem _ _ _ _))).symm
          rw [sec4]
          simp only [List.mem_cons, List.not_mem_nil, or_false]
          omega
        · rw [show divI ⟨al, ah⟩ ⟨bl, bh⟩ = ⟨min (spanI (al.tdiv bl) (al.tdiv (min bh (-1))) (ah.tdiv bl) (ah.tdiv (min bh (-1)))).lo (spanI al (al.tdiv bh) ah (ah.tdiv bh)).lo, max (spanI (al.tdiv bl) (al.tdiv (min bh (-1))) (ah.tdiv bl) (ah.tdiv (min bh (-1)))).hi (spanI al (al.tdiv bh) ah (ah.tdiv bh)).hi⟩ by simp only [divI, c1, c2, if_true, if_false]]
          refine (doI_of (by simp) (isMin_app (span_min _ _ _ _) (span_min _ _ _ _)) (isMax_app (span_max _ _ _ _) (span_max _ _ _ _)) (ress4 (D := [bl, min bh (-1), 1, bh]) (fun n => ?_) (fun x => ?_))).symm
          · rw [sec4]
            simp only [List.mem_cons, List.not_mem_nil, or_false]
            omega
          · rw [four_mem]
            simp only [Int.tdiv_one]
    · have : bl = 0 ∧ bh = 0 := by omega
      obtain ⟨rfl, rfl⟩ := this
      simp [doS, doI, ressI, cornI, secI, inB]
theorem mul_le {a b : Int} (h1 : -32768 ≤ a) (h2 : a ≤ 32767) (h3 : -32768 ≤ b) (h4 : b ≤ 32767) : -2147483648 ≤ a * b ∧ a * b ≤ 2147483648 := by
  have e : (a * b).natAbs ≤ 32768 * 32768 := by
    rw [Int.natAbs_mul]
    exact Nat.mul_le_mul (by omega) (by omega)
  omega
theorem tdiv_le {a b : Int} (h1 : -32768 ≤ a) (h2 : a ≤ 32767) : -2147483648 ≤ a.tdiv b ∧ a.tdiv b ≤ 2147483648 := by
  have e : (a.tdiv b).natAbs ≤ 32768 := by
    rw [Int.natAbs_tdiv]
    exact Nat.le_trans (Nat.div_le_self _ _) (by omega)
  omega
theorem opI_le {op a b : Int} (h1 : -32768 ≤ a) (h2 : a ≤ 32767) (h3 : -32768 ≤ b) (h4 : b ≤ 32767) : -2147483648 ≤ opI op a b ∧ opI op a b ≤ 2147483648 := by
  have h5 := mul_le h1 h2 h3 h4
  have h6 := tdiv_le (b := b) h1 h2
  unfold opI
  split
  · omega
  · split
    · omega
    · split
      · exact h5
      · exact h6
theorem sec_le {op : Int} {b : Itv} (hb : itvB b = true) {n : Int} (h : n ∈ secI op b) : -32768 ≤ n ∧ n ≤ 32767 ∧ (op = 4 → n ≠ 0) := by
  obtain ⟨bl, bh⟩ := b
  rw [itvB_iff] at hb
  simp only at hb
  by_cases e : op = 4
  · subst e
    rw [sec4] at h
    omega
  · simp only [secI, e, if_false, List.mem_cons, List.not_mem_nil, or_false] at h
    omega
theorem ress_le {op : Int} {a b : Itv} (ha : itvB a = true) (hb : itvB b = true) {x : Int} (h : x ∈ ressI op a b) : -2147483648 ≤ x ∧ x ≤ 2147483648 := by
  by_cases e : op = 2
  · subst e
    obtain ⟨al, ah⟩ := a
    obtain ⟨bl, bh⟩ := b
    rw [itvB_iff] at ha hb
    simp only at ha hb
    simp [ressI] at h
    omega
  · rw [mem_ress e] at h
    obtain ⟨n, hn, h⟩ := h
    have h1 := sec_le hb hn
    rw [itvB_iff] at ha
    rcases h with rfl | rfl
    · exact opI_le (by omega) (by omega) h1.1 h1.2.1
    · exact opI_le (by omega) (by omega) h1.1 h1.2.1
end Go.Proofs.YtpmfpgbpndobpaaGreat
