/- Plain mathematics of sorted lists and of what can be come to in a graph. No condition. -/
import Derived.Lib.SlicesCompact
namespace Go.Proofs.YtdddhnepanjmfaaGreat

/-- Strictly rising. -/
abbrev Srt (l : List Int) : Prop := l.Pairwise (· < ·)

theorem srt_ext : ∀ {a b : List Int}, Srt a → Srt b → (∀ x, x ∈ a ↔ x ∈ b) → a = b
  | [], [], _, _, _ => rfl
  | [], y :: ys, _, _, h => absurd ((h y).2 (by simp)) (by simp)
  | x :: xs, [], _, _, h => absurd ((h x).1 (by simp)) (by simp)
  | x :: xs, y :: ys, ha, hb, h => by
    obtain ⟨ha1, ha2⟩ := List.pairwise_cons.1 ha
    obtain ⟨hb1, hb2⟩ := List.pairwise_cons.1 hb
    have hxy : x = y := by
      rcases List.mem_cons.1 ((h x).1 (by simp)) with e | e
      · exact e
      · rcases List.mem_cons.1 ((h y).2 (by simp)) with e' | e'
        · exact e'.symm
        · have := hb1 x e
          have := ha1 y e'
          omega
    subst hxy
    rw [srt_ext ha2 hb2 fun z => ?_]
    constructor
    · intro hz
      rcases List.mem_cons.1 ((h z).1 (by simp [hz])) with e | e
      · have := ha1 z hz
        omega
      · exact e
    · intro hz
      rcases List.mem_cons.1 ((h z).2 (by simp [hz])) with e | e
      · have := hb1 z hz
        omega
      · exact e

/-! What slices.Sort and slices.Compact make of a list: strictly rising, the same members. -/
theorem compact_upto (d : Array Int) (hd : ∀ i j, i ≤ j → j < d.size → d[i]! ≤ d[j]!) : ∀ m, m ≤ d.size →
    Srt (Lib.compactUpTo d m) ∧ (∀ x, x ∈ Lib.compactUpTo d m ↔ ∃ j, j < m ∧ d[j]! = x)
  | 0, _ => by simp [Lib.compactUpTo]
  | m + 1, hm => by
    obtain ⟨h1, h2⟩ := compact_upto d hd m (by omega)
    rw [Lib.compactUpTo_succ]
    by_cases hk : Lib.keeps d m = true
    · rw [if_pos hk]
      constructor
      · refine List.pairwise_append.2 ⟨h1, by simp, fun x hx y hy => ?_⟩
        obtain ⟨j, hj, rfl⟩ := (h2 x).1 hx
        obtain rfl : y = d[m]! := by simpa using hy
        have hle := hd j (m - 1) (by omega) (by omega)
        have hle2 := hd (m - 1) m (by omega) (by omega)
        simp only [Lib.keeps, decide_eq_true_eq] at hk
        rcases hk with h | h
        · omega
        · omega
      · intro x
        rw [List.mem_append, h2]
        constructor
        · rintro (⟨j, hj, rfl⟩ | h)
          · exact ⟨j, by omega, rfl⟩
          · exact ⟨m, by omega, (List.mem_singleton.1 h).symm⟩
        · rintro ⟨j, hj, rfl⟩
          by_cases hjm : j = m
          · subst hjm
            right
            simp
          · exact .inl ⟨j, by omega, rfl⟩
    · rw [if_neg hk, List.append_nil]
      refine ⟨h1, fun x => ?_⟩
      rw [h2]
      constructor
      · rintro ⟨j, hj, rfl⟩
        exact ⟨j, by omega, rfl⟩
      · rintro ⟨j, hj, rfl⟩
        by_cases hjm : j = m
        · subst hjm
          simp only [Lib.keeps, decide_eq_true_eq, not_or, Classical.not_not] at hk
          exact ⟨j - 1, by omega, hk.2.symm⟩
        · exact ⟨j, by omega, rfl⟩
theorem compact_srt {zs : List Int} (h : zs.Pairwise (· ≤ ·)) : Srt (Lib.compact zs) ∧ ∀ x, x ∈ Lib.compact zs ↔ x ∈ zs := by
  have hg : ∀ i, i < zs.length → zs.toArray[i]! = zs.getD i 0 := fun i hi => by simp [Array.getElem!_eq_getD, List.getD_eq_getElem?_getD]
  have := compact_upto zs.toArray (fun i j hij hj => by
    have hj' : j < zs.length := by simpa using hj
    rw [hg i (by omega), hg j hj']
    rcases Nat.lt_or_ge i j with h1 | h1
    · have := List.pairwise_iff_getElem.1 h i j (by omega) hj' h1
      simpa [List.getD_eq_getElem?_getD, List.getElem?_eq_getElem hj', List.getElem?_eq_getElem (show i < zs.length by omega)] using this
    · have : i = j := by omega
      subst this
      exact Int.le_refl _) zs.length (by simp)
  refine ⟨this.1, fun x => ?_⟩
  unfold Lib.compact
  rw [this.2, List.mem_iff_getElem?]
  constructor
  · rintro ⟨j, hj, rfl⟩
    exact ⟨j, by rw [hg j hj, List.getElem?_eq_getElem hj]; simp [List.getD_eq_getElem?_getD, List.getElem?_eq_getElem hj]⟩
  · rintro ⟨j, hj⟩
    have hjl := (List.getElem?_eq_some_iff.1 hj).1
    exact ⟨j, hjl, by rw [hg j hjl]; simp [List.getD_eq_getElem?_getD, hj]⟩
/-- slices.Sort of []int. -/
def msort (zs : List Int) : List Int := zs.mergeSort fun x y => decide (x ≤ y)
theorem msort_le (zs : List Int) : (msort zs).Pairwise (· ≤ ·) :=
  (List.pairwise_mergeSort (le := fun x y : Int => decide (x ≤ y)) (fun a b c h1 h2 => by simp at *; omega) (fun a b => by simp; omega) zs).imp (by simp)
theorem msort_mem (zs : List Int) (x : Int) : x ∈ msort zs ↔ x ∈ zs := by simp [msort]
def scomp (zs : List Int) : List Int := Lib.compact (msort zs)
theorem scomp_srt (zs : List Int) : Srt (scomp zs) := (compact_srt (msort_le zs)).1
theorem scomp_mem (zs : List Int) (x : Int) : x ∈ scomp zs ↔ x ∈ zs := ((compact_srt (msort_le zs)).2 x).trans (msort_mem zs x)
theorem msort_srt {zs : List Int} (h : zs.Nodup) : Srt (msort zs) := by
  have h1 := msort_le zs
  have h2 : (msort zs).Nodup := (List.mergeSort_perm zs _).nodup_iff.2 h
  exact List.pairwise_iff_getElem.2 fun i j hi hj hij => by
    have a := List.pairwise_iff_getElem.1 h1 i j hi hj hij
    have b := List.pairwise_iff_getElem.1 h2 i j hi hj hij
    omega

/-! The reference's way to put a number into a rising list. -/
def putS (n : Int) (s : List Int × Bool) (x : Int) : List Int × Bool :=
  let t := if !s.2 && decide (n < x) then (s.1 ++ [n], true) else s
  (t.1 ++ [x], t.2 || x == n)
def putP (n : Int) (l : List Int) : List Int × Bool := l.foldl (putS n) ([], false)
def putF (l : List Int) (n : Int) : List Int := if (putP n l).2 then (putP n l).1 else (putP n l).1 ++ [n]
theorem putP_snoc (n : Int) (l : List Int) (x : Int) : putP n (l ++ [x]) = putS n (putP n l) x := by simp [putP]
theorem putP_spec (n : Int) : ∀ l : List Int, Srt l → ((putP n l).2 = false → (putP n l).1 = l ∧ ∀ x, x ∈ l → x < n) ∧ ((putP n l).2 = true → Srt (putP n l).1 ∧ (∀ x, x ∈ (putP n l).1 ↔ x = n ∨ x ∈ l) ∧ ∃ y, y ∈ l ∧ n ≤ y) := by
  intro l
  induction hl : l.length generalizing l with
  | zero =>
    intro _
    obtain rfl := List.eq_nil_of_length_eq_zero hl
    simp [putP]
  | succ k ih =>
    intro hs
    obtain ⟨l0, x, rfl⟩ : ∃ l0 x, l = l0 ++ [x] := by
      rcases List.eq_nil_or_concat l with h | ⟨l0, x, h⟩
      · subst h; simp at hl
      · exact ⟨l0, x, by simpa using h⟩
    have hl0 : l0.length = k := by simpa using hl
    obtain ⟨hs0, _, hlt⟩ := List.pairwise_append.1 hs
    have hlx : ∀ y, y ∈ l0 → y < x := fun y hy => hlt y hy x (by simp)
    obtain ⟨i1, i2⟩ := ih l0 hl0 hs0
    rw [putP_snoc]
    cases hd : (putP n l0).2
    · obtain ⟨e1, e2⟩ := i1 hd
      by_cases hx : n < x
      · have hS : putS n (putP n l0) x = (l0 ++ [n] ++ [x], true) := by simp [putS, hd, hx, e1]
        rw [hS]
        refine ⟨by simp, fun _ => ⟨?_, ?_, x, by simp, by omega⟩⟩
        · refine List.pairwise_append.2 ⟨List.pairwise_append.2 ⟨hs0, by simp, fun y hy z hz => ?_⟩, by simp, fun y hy z hz => ?_⟩
          · obtain rfl : z = n := by simpa using hz
            exact e2 y hy
          · obtain rfl : z = x := by simpa using hz
            rcases List.mem_append.1 hy with h | h
            · exact hlx y h
            · obtain rfl : y = n := by simpa using h
              exact hx
        · intro y
          simp only [List.mem_append, List.mem_singleton]
          constructor
          · rintro ((h | h) | h) <;> simp [h]
          · rintro (h | h | h) <;> simp [h]
      · by_cases he : x = n
        · subst he
          have hS : putS x (putP x l0) x = (l0 ++ [x], true) := by simp [putS, hd, e1]
          rw [hS]
          refine ⟨by simp, fun _ => ⟨hs, fun y => ?_, x, by simp, Int.le_refl _⟩⟩
          simp only [List.mem_append, List.mem_singleton]
          constructor
          · rintro (h | h) <;> simp [h]
          · rintro (h | h | h) <;> simp [h]
        · have hS : putS n (putP n l0) x = (l0 ++ [x], false) := by simp [putS, hd, hx, e1, he]
          rw [hS]
          refine ⟨fun _ => ⟨rfl, fun y hy => ?_⟩, by simp⟩
          rcases List.mem_append.1 hy with h | h
          · exact e2 y h
          · obtain rfl : y = x := by simpa using h
            omega
    · obtain ⟨e1, e2, y0, hy0, hny⟩ := i2 hd
      have hS : putS n (putP n l0) x = ((putP n l0).1 ++ [x], true) := by simp [putS, hd]
      rw [hS]
      refine ⟨by simp, fun _ => ⟨?_, fun y => ?_, y0, by simp [hy0], hny⟩⟩
      · refine List.pairwise_append.2 ⟨e1, by simp, fun y hy z hz => ?_⟩
        obtain rfl : z = x := by simpa using hz
        rcases (e2 y).1 hy with h | h
        · subst h
          have := hlx y0 hy0
          omega
        · exact hlx y h
      · simp only [List.mem_append, List.mem_singleton, e2]
        constructor
        · rintro ((h | h) | h) <;> simp [h]
        · rintro (h | h | h) <;> simp [h]
theorem putF_srt {l : List Int} (h : Srt l) (n : Int) : Srt (putF l n) := by
  obtain ⟨h1, h2⟩ := putP_spec n l h
  unfold putF
  cases hd : (putP n l).2
  · obtain ⟨e1, e2⟩ := h1 hd
    simp only [Bool.false_eq_true, if_false, e1]
    exact List.pairwise_append.2 ⟨h, by simp, fun y hy z hz => by
      obtain rfl : z = n := by simpa using hz
      exact e2 y hy⟩
  · simp only [if_true]
    exact (h2 hd).1
theorem putF_mem {l : List Int} (h : Srt l) (n x : Int) : x ∈ putF l n ↔ x = n ∨ x ∈ l := by
  obtain ⟨h1, h2⟩ := putP_spec n l h
  unfold putF
  cases hd : (putP n l).2
  · simp only [Bool.false_eq_true, if_false, (h1 hd).1, List.mem_append, List.mem_singleton]
    exact Or.comm
  · simp only [if_true]
    exact (h2 hd).2.1 x
theorem putP_len (n : Int) : ∀ l : List Int, (putP n l).1.length ≤ l.length + 1 := by
  have key : ∀ l : List Int, (putP n l).1.length ≤ l.length + if (putP n l).2 then 1 else 0 := by
    intro l
    induction hl : l.length generalizing l with
    | zero =>
      obtain rfl := List.eq_nil_of_length_eq_zero hl
      simp [putP]
    | succ k ih =>
      obtain ⟨l0, x, rfl⟩ : ∃ l0 x, l = l0 ++ [x] := by
        rcases List.eq_nil_or_concat l with h | ⟨l0, x, h⟩
        · subst h; simp at hl
        · exact ⟨l0, x, by simpa using h⟩
      have := ih l0 (by simpa using hl)
      rw [putP_snoc]
      unfold putS
      cases hd : (putP n l0).2 <;> simp only [hd, Bool.false_eq_true, if_false, if_true, Bool.not_false, Bool.not_true, Bool.true_and, Bool.false_and, Bool.true_or] at this ⊢
      · by_cases hx : n < x
        · simp [hx]; simp at hl; omega
        · simp [hx]; simp at hl
          split <;> omega
      · simp; simp at hl; omega
  intro l
  have := key l
  split at this <;> omega
theorem putF_len (l : List Int) (n : Int) : (putF l n).length ≤ l.length + 2 := by
  have := putP_len n l
  unfold putF
  split
  · omega
  · simp
    omega

/-! What can be come to. -/
inductive Rch (c : Int → List Int) (a : Int) : Int → Prop
  | refl : Rch c a a
  | step {b x : Int} : Rch c a b → x ∈ c b → Rch c a x
theorem Rch.trans {c : Int → List Int} {a b d : Int} (h : Rch c a b) (k : Rch c b d) : Rch c a d := by
  induction k with
  | refl => exact h
  | step _ hx ih => exact ih.step hx
/-- A set that has the first one and all that one of it calls has all that can be come to. -/
theorem rch_closed {c : Int → List Int} {a : Int} {S : Int → Prop} (h0 : S a) (hs : ∀ b x, S b → x ∈ c b → S x) {d : Int} (h : Rch c a d) : S d := by
  induction h with
  | refl => exact h0
  | step _ hx ih => exact hs _ _ ih hx
theorem rch_bd {c : Int → List Int} {n : Nat} (hc : ∀ k x, x ∈ c k → 0 ≤ x ∧ x < n) {a d : Int} (ha : 0 ≤ a ∧ a < n) (h : Rch c a d) : 0 ≤ d ∧ d < n :=
  rch_closed (S := fun d => 0 ≤ d ∧ d < n) ha (fun _ x _ hx => hc _ x hx) h
/-- Rising numbers below n are n at most. -/
theorem srt_len : ∀ (n : Nat) (l : List Int), l.Nodup → (∀ x, x ∈ l → 0 ≤ x ∧ x < n) → l.length ≤ n
  | 0, [], _, _ => Nat.le_refl _
  | 0, x :: xs, _, h => by have := h x (by simp); omega
  | n + 1, l, hd, h => by
    have h1 := srt_len n (l.erase n) (hd.erase _) (fun x hx => by
      have h1 := h x (List.mem_of_mem_erase hx)
      have h2 : x ≠ (n : Int) := fun e => by subst e; exact absurd hx (by rw [hd.mem_erase_iff]; simp)
      omega)
    have h2 : l.length ≤ (l.erase (n : Int)).length + 1 := by
      rw [List.length_erase]
      split <;> omega
    omega
theorem nodup_sub : ∀ (a b : List Int), a.Nodup → (∀ x, x ∈ a → x ∈ b) → a.length ≤ b.length
  | [], _, _, _ => Nat.zero_le _
  | x :: xs, b, hd, h => by
    obtain ⟨hx, hd⟩ := List.nodup_cons.1 hd
    have hb := h x (by simp)
    have := nodup_sub xs (b.erase x) hd (fun y hy => (List.mem_erase_of_ne (by rintro rfl; exact hx hy)).2 (h y (by simp [hy])))
    rw [List.length_erase_of_mem hb] at this
    have := List.length_pos_of_mem hb
    simp
    omega
theorem nodup_all {a b : List Int} (hd : a.Nodup) (h : ∀ x, x ∈ a → x ∈ b) (hl : b.length ≤ a.length) {z : Int} (hz : z ∈ b) : z ∈ a := by
  refine Classical.byContradiction fun hn => ?_
  have := nodup_sub (z :: a) b (List.nodup_cons.2 ⟨hn, hd⟩) (fun y hy => by
    rcases List.mem_cons.1 hy with rfl | hy
    · exact hz
    · exact h y hy)
  simp at this
  omega
theorem srt_nodup {l : List Int} (h : Srt l) : l.Nodup := h.imp (fun h => by omega)

/-- A round of the reference's search. -/
def putA (l ns : List Int) : List Int := ns.foldl putF l
def roundA (c : Int → List Int) (out seen : List Int) : List Int := seen.foldl (fun acc i => putA acc (c i)) out
def iterA (c : Int → List Int) : Nat → List Int → List Int
  | 0, l => l
  | n + 1, l => iterA c n (roundA c l l)
def reachL (c : Int → List Int) (n : Nat) (a : Int) : List Int := iterA c n [a]
theorem iterA_succ (c : Int → List Int) : ∀ (n : Nat) (l : List Int), iterA c (n + 1) l = roundA c (iterA c n l) (iterA c n l)
  | 0, _ => rfl
  | n + 1, l => by rw [iterA, iterA_succ c n]; rfl
theorem putA_snoc (l ns : List Int) (x : Int) : putA l (ns ++ [x]) = putF (putA l ns) x := by simp [putA]
theorem roundA_snoc (c : Int → List Int) (out seen : List Int) (x : Int) : roundA c out (seen ++ [x]) = putA (roundA c out seen) (c x) := by simp [roundA]
theorem putA_spec : ∀ (ns l : List Int), Srt l → Srt (putA l ns) ∧ ∀ x, x ∈ putA l ns ↔ x ∈ l ∨ x ∈ ns
  | [], l, h => ⟨h, fun x => by simp [putA]⟩
  | n :: ns, l, h => by
    obtain ⟨h1, h2⟩ := putA_spec ns (putF l n) (putF_srt h n)
    refine ⟨h1, fun x => ?_⟩
    rw [show putA l (n :: ns) = putA (putF l n) ns from rfl, h2, putF_mem h]
    simp only [List.mem_cons]
    constructor
    · rintro ((h | h) | h) <;> simp [h]
    · rintro (h | h | h) <;> simp [h]
theorem roundA_spec (c : Int → List Int) : ∀ (seen out : List Int), Srt out → Srt (roundA c out seen) ∧ ∀ x, x ∈ roundA c out seen ↔ x ∈ out ∨ ∃ i, i ∈ seen ∧ x ∈ c i
  | [], out, h => ⟨h, fun x => by simp [roundA]⟩
  | i :: seen, out, h => by
    obtain ⟨p1, p2⟩ := putA_spec (c i) out h
    obtain ⟨h1, h2⟩ := roundA_spec c seen (putA out (c i)) p1
    refine ⟨h1, fun x => ?_⟩
    rw [show roundA c out (i :: seen) = roundA c (putA out (c i)) seen from rfl, h2, p2]
    constructor
    · rintro ((h | h) | ⟨j, hj, hx⟩)
      · exact .inl h
      · exact .inr ⟨i, by simp, h⟩
      · exact .inr ⟨j, by simp [hj], hx⟩
    · rintro (h | ⟨j, hj, hx⟩)
      · exact .inl (.inl h)
      · rcases List.mem_cons.1 hj with rfl | hj
        · exact .inl (.inr hx)
        · exact .inr ⟨j, hj, hx⟩
theorem iterA_inv (c : Int → List Int) (a : Int) : ∀ n : Nat, Srt (iterA c n [a]) ∧ a ∈ iterA c n [a] ∧ ∀ x, x ∈ iterA c n [a] → Rch c a x
  | 0 => ⟨by simp [iterA], by simp [iterA], fun x h => by
    obtain rfl : x = a := by simpa [iterA] using h
    exact Rch.refl⟩
  | n + 1 => by
    obtain ⟨h1, h2, h3⟩ := iterA_inv c a n
    obtain ⟨r1, r2⟩ := roundA_spec c (iterA c n [a]) _ h1
    rw [iterA_succ]
    refine ⟨r1, (r2 a).2 (.inl h2), fun x hx => ?_⟩
    rcases (r2 x).1 hx with h | ⟨i, hi, hx⟩
    · exact h3 x h
    · exact (h3 i hi).step hx
theorem iterA_grow (c : Int → List Int) (a : Int) : ∀ n : Nat, n + 1 ≤ (iterA c n [a]).length ∨ (∀ i x, i ∈ iterA c n [a] → x ∈ c i → x ∈ iterA c n [a])
  | 0 => .inl (by simp [iterA])
  | n + 1 => by
    obtain ⟨h1, h2, h3⟩ := iterA_inv c a n
    obtain ⟨r1, r2⟩ := roundA_spec c (iterA c n [a]) _ h1
    rw [iterA_succ]
    by_cases hcl : ∀ i x, i ∈ iterA c n [a] → x ∈ c i → x ∈ iterA c n [a]
    · right
      have e : roundA c (iterA c n [a]) (iterA c n [a]) = iterA c n [a] := srt_ext r1 h1 fun x => by
        rw [r2]
        constructor
        · rintro (h | ⟨i, hi, hx⟩)
          · exact h
          · exact hcl i x hi hx
        · exact .inl
      rw [e]
      exact hcl
    · left
      rcases iterA_grow c a n with h | h
      · have : (iterA c n [a]).length < (roundA c (iterA c n [a]) (iterA c n [a])).length := by
          refine Nat.lt_of_not_le fun hle => hcl fun i x hi hx => ?_
          exact nodup_all (srt_nodup h1) (fun y hy => (r2 y).2 (.inl hy)) hle ((r2 x).2 (.inr ⟨i, hi, hx⟩))
        omega
      · exact absurd h hcl
/-- GrfReach: what can be come to, rising. -/
theorem reachL_spec {c : Int → List Int} {n : Nat} (hc : ∀ k x, x ∈ c k → 0 ≤ x ∧ x < n) {a : Int} (ha : 0 ≤ a ∧ a < n) : Srt (reachL c n a) ∧ ∀ x, x ∈ reachL c n a ↔ Rch c a x := by
  obtain ⟨h1, h2, h3⟩ := iterA_inv c a n
  refine ⟨h1, fun x => ⟨h3 x, fun h => ?_⟩⟩
  rcases iterA_grow c a n with hl | hcl
  · have := srt_len n _ (srt_nodup h1) (fun x hx => rch_bd hc ha (h3 x hx))
    omega
  · exact rch_closed (S := fun d => d ∈ iterA c n [a]) h2 (fun b x hb hx => hcl b x hb hx) h

/-! The program's search: a stack, and what has been seen. 'rem': what is still to be looked at of the last one. -/
structure Dfs (c : Int → List Int) (a : Int) (pre st sn rem : List Int) : Prop where
  mem : ∀ x, x ∈ sn ↔ x ∈ pre ∨ x ∈ st
  nd : (pre ++ st).Nodup
  rch : ∀ x, x ∈ sn ∨ x ∈ rem → Rch c a x
  a0 : a ∈ sn
  cl : ∀ x y, x ∈ pre → y ∈ c x → y ∈ sn ∨ y ∈ rem
section
variable {c : Int → List Int} {a x y : Int} {pre st sn rem : List Int}
theorem Dfs.start (c : Int → List Int) (a : Int) : Dfs c a [] [a] [a] [] :=
  ⟨fun x => by simp, by simp, fun x h => by
    obtain rfl : x = a := by simpa using h
    exact Rch.refl, by simp, fun x y h => by simp at h⟩
theorem Dfs.pop (h : Dfs c a pre (st ++ [x]) sn []) : Dfs c a (pre ++ [x]) st sn (c x) := by
  have hx : x ∈ sn := (h.mem x).2 (by simp)
  refine ⟨fun y => ?_, ?_, fun y hy => ?_, h.a0, fun z y hz hy => ?_⟩
  · rw [h.mem]
    simp only [List.mem_append, List.mem_singleton]
    constructor
    · rintro (h | h | h) <;> simp [h]
    · rintro ((h | h) | h) <;> simp [h]
  · have hp : (pre ++ (st ++ [x])).Perm (pre ++ [x] ++ st) := by
      rw [List.append_assoc]
      exact List.Perm.append_left _ List.perm_append_comm
    exact hp.nodup_iff.1 h.nd
  · rcases hy with hy | hy
    · exact h.rch y (.inl hy)
    · exact (h.rch x (.inl hx)).step hy
  · rcases List.mem_append.1 hz with hz | hz
    · rcases h.cl z y hz hy with h | h
      · exact .inl h
      · cases h
    · obtain rfl : z = x := by simpa using hz
      exact .inr hy
theorem Dfs.seen (h : Dfs c a pre st sn (y :: rem)) (hy : y ∈ sn) : Dfs c a pre st sn rem :=
  ⟨h.mem, h.nd, fun z hz => h.rch z (hz.imp id (by simp +contextual)), h.a0, fun z x hz hx => by
    rcases h.cl z x hz hx with h | h
    · exact .inl h
    · rcases List.mem_cons.1 h with rfl | h
      · exact .inl hy
      · exact .inr h⟩
theorem Dfs.push (h : Dfs c a pre st sn (y :: rem)) (hy : ¬ y ∈ sn) : Dfs c a pre (st ++ [y]) (y :: sn) rem := by
  refine ⟨fun z => ?_, ?_, fun z hz => ?_, by simp [h.a0], fun z x hz hx => ?_⟩
  · simp only [List.mem_cons, List.mem_append, h.mem z, List.not_mem_nil, or_false]
    constructor
    · rintro (h | h | h) <;> simp [h]
    · rintro (h | h | h) <;> simp [h]
  · rw [← List.append_assoc]
    refine List.nodup_append.2 ⟨h.nd, by simp, fun z hz w hw => ?_⟩
    obtain rfl : w = y := by simpa using hw
    rintro rfl
    exact hy ((h.mem z).2 (by simpa using hz))
  · rcases hz with hz | hz
    · rcases List.mem_cons.1 hz with rfl | hz
      · exact h.rch z (.inr (by simp))
      · exact h.rch z (.inl hz)
    · exact h.rch z (.inr (by simp [hz]))
  · rcases h.cl z x hz hx with h | h
    · exact .inl (by simp [h])
    · rcases List.mem_cons.1 h with rfl | h
      · exact .inl (by simp)
      · exact .inr h
theorem Dfs.done (h : Dfs c a pre [] sn []) : pre.Nodup ∧ ∀ x, x ∈ pre ↔ Rch c a x := by
  have hm : ∀ x, x ∈ sn ↔ x ∈ pre := fun x => by rw [h.mem]; simp
  refine ⟨by simpa using h.nd, fun x => ⟨fun hx => h.rch x (.inl ((hm x).2 hx)), fun hx => ?_⟩⟩
  exact rch_closed (S := fun x => x ∈ pre) ((hm a).1 h.a0) (fun b z hb hz => (hm z).1 ((h.cl b z hb hz).resolve_right (by simp))) hx
theorem Dfs.len {n : Nat} (hc : ∀ k x, x ∈ c k → 0 ≤ x ∧ x < n) (ha : 0 ≤ a ∧ a < n) (h : Dfs c a pre st sn rem) : pre.length + st.length ≤ n := by
  have := srt_len n (pre ++ st) h.nd (fun x hx => rch_bd hc ha (h.rch x (.inl ((h.mem x).2 (by simpa using hx)))))
  simpa using this
theorem Dfs.bd {n : Nat} (hc : ∀ k x, x ∈ c k → 0 ≤ x ∧ x < n) (ha : 0 ≤ a ∧ a < n) (h : Dfs c a pre st sn rem) (hx : x ∈ pre ∨ x ∈ st ∨ x ∈ rem) : 0 ≤ x ∧ x < n := by
  refine rch_bd hc ha (h.rch x ?_)
  rcases hx with hx | hx | hx
  · exact .inl ((h.mem x).2 (.inl hx))
  · exact .inl ((h.mem x).2 (.inr hx))
  · exact .inr hx
end
theorem reach_of_dfs {c : Int → List Int} {n : Nat} (hc : ∀ k x, x ∈ c k → 0 ≤ x ∧ x < n) {a : Int} (ha : 0 ≤ a ∧ a < n) {pre : List Int} (h : pre.Nodup ∧ ∀ x, x ∈ pre ↔ Rch c a x) : msort pre = reachL c n a := by
  obtain ⟨h1, h2⟩ := reachL_spec hc ha
  exact srt_ext (msort_srt h.1) h1 fun x => by rw [msort_mem, h.2, h2]

/-! Parts. -/
def partL (c : Int → List Int) (n : Nat) (a : Int) : List Int := (reachL c n a).filter fun o => decide (a ∈ reachL c n o)
def firstB (c : Int → List Int) (n : Nat) (a : Int) : Bool := (partL c n a).headD (-1) == a
def partsP (c : Int → List Int) (n : Nat) (l : List Int) : List (List Int) := (l.filter (firstB c n)).map (partL c n)
def partsL (c : Int → List Int) (n : Nat) : List (List Int) := partsP c n (reachL c n 0)
section
variable {c : Int → List Int} {n : Nat} (hc : ∀ k x, x ∈ c k → 0 ≤ x ∧ x < n) {a b : Int}
include hc
theorem part_srt (ha : 0 ≤ a ∧ a < n) : Srt (partL c n a) := (reachL_spec hc ha).1.filter _
theorem part_mem (ha : 0 ≤ a ∧ a < n) (x : Int) : x ∈ partL c n a ↔ Rch c a x ∧ Rch c x a := by
  unfold partL
  rw [List.mem_filter, (reachL_spec hc ha).2]
  constructor
  · rintro ⟨h1, h2⟩
    exact ⟨h1, ((reachL_spec hc (rch_bd hc ha h1)).2 a).1 (by simpa using h2)⟩
  · rintro ⟨h1, h2⟩
    exact ⟨h1, by simpa using ((reachL_spec hc (rch_bd hc ha h1)).2 a).2 h2⟩
theorem part_self (ha : 0 ≤ a ∧ a < n) : a ∈ partL c n a := (part_mem hc ha a).2 ⟨Rch.refl, Rch.refl⟩
theorem part_eq (ha : 0 ≤ a ∧ a < n) (hb : b ∈ partL c n a) : partL c n b = partL c n a := by
  obtain ⟨h1, h2⟩ := (part_mem hc ha b).1 hb
  have hbb := rch_bd hc ha h1
  refine srt_ext (part_srt hc hbb) (part_srt hc ha) fun x => ?_
  rw [part_mem hc hbb, part_mem hc ha]
  exact ⟨fun ⟨k1, k2⟩ => ⟨h1.trans k1, k2.trans h2⟩, fun ⟨k1, k2⟩ => ⟨h2.trans k1, k2.trans h1⟩⟩
theorem part_head (ha : 0 ≤ a ∧ a < n) : ∃ h t, partL c n a = h :: t ∧ h ≤ a ∧ (firstB c n a = true ↔ h = a) := by
  have hs := part_self hc ha
  have hr := part_srt hc ha
  cases hp : partL c n a with
  | nil => rw [hp] at hs; cases hs
  | cons h t =>
    refine ⟨h, t, rfl, ?_, by simp [firstB, hp]⟩
    rw [hp] at hs hr
    rcases List.mem_cons.1 hs with e | e
    · omega
    · have := (List.pairwise_cons.1 hr).1 a e
      omega
/-- A procedure lies in a part that was found just if it does not begin its own. -/
theorem parts_seen {l r : List Int} (hn : 0 < n) (hl : reachL c n 0 = l ++ a :: r) : (∃ q, q ∈ partsP c n l ∧ a ∈ q) ↔ firstB c n a = false := by
  obtain ⟨hs, hm⟩ := reachL_spec hc (a := 0) ⟨by omega, by omega⟩
  have hbd : ∀ x, x ∈ reachL c n 0 → 0 ≤ x ∧ x < n := fun x hx => rch_bd hc ⟨by omega, by omega⟩ ((hm x).1 hx)
  rw [hl] at hs hbd
  have ha := hbd a (by simp)
  obtain ⟨_, hs2, hlt⟩ := List.pairwise_append.1 hs
  constructor
  · rintro ⟨q, hq, haq⟩
    obtain ⟨b, hb, rfl⟩ := List.mem_map.1 hq
    obtain ⟨hb1, hb2⟩ := List.mem_filter.1 hb
    have hbb := hbd b (by simp [hb1])
    have he := part_eq hc hbb haq
    obtain ⟨h, t, hp, hle, hiff⟩ := part_head hc hbb
    obtain rfl := hiff.1 hb2
    obtain ⟨h2, t2, hp2, hle2, hiff2⟩ := part_head hc ha
    have hba := hlt h hb1 a (by simp)
    rw [he, hp] at hp2
    simp only [List.cons.injEq] at hp2
    cases hh : firstB c n a
    · rfl
    · have := hiff2.1 hh
      omega
  · intro hh
    obtain ⟨h, t, hp, hle, hiff⟩ := part_head hc ha
    have hne : h ≠ a := fun e => by rw [hiff.2 e] at hh; cases hh
    have hmem : h ∈ partL c n a := by rw [hp]; simp
    obtain ⟨k1, k2⟩ := (part_mem hc ha h).1 hmem
    have hrh : h ∈ l ++ a :: r := by
      rw [← hl, hm]
      exact ((hm a).1 (by rw [hl]; simp)).trans k1
    have hhl : h ∈ l := by
      rcases List.mem_append.1 hrh with e | e
      · exact e
      · rcases List.mem_cons.1 e with e | e
        · exact absurd e hne
        · have := (List.pairwise_cons.1 hs2).1 h e
          omega
    have hbb := hbd h (by simp [hhl])
    have he := part_eq hc ha hmem
    refine ⟨partL c n h, List.mem_map.2 ⟨h, List.mem_filter.2 ⟨hhl, ?_⟩, rfl⟩, by rw [he]; exact part_self hc ha⟩
    rw [firstB, he, hp]
    simp
/-- All that can be come to lies in a part. -/
theorem parts_cover (hn : 0 < n) {x : Int} (hx : x ∈ reachL c n 0) : ∃ q, q ∈ partsL c n ∧ x ∈ q := by
  obtain ⟨l, r, hl⟩ := List.append_of_mem hx
  cases hh : firstB c n x
  · obtain ⟨q, hq, hxq⟩ := (parts_seen hc hn hl).2 hh
    refine ⟨q, ?_, hxq⟩
    unfold partsL
    rw [hl]
    unfold partsP at hq ⊢
    rw [List.filter_append, List.map_append]
    exact List.mem_append_left _ hq
  · have hb := rch_bd hc ⟨by omega, by omega⟩ (((reachL_spec hc (a := 0) ⟨by omega, by omega⟩).2 x).1 hx)
    exact ⟨partL c n x, List.mem_map.2 ⟨x, List.mem_filter.2 ⟨hx, hh⟩, rfl⟩, part_self hc hb⟩
omit hc in
theorem partsP_snoc (l : List Int) (a : Int) : partsP c n (l ++ [a]) = partsP c n l ++ if firstB c n a then [partL c n a] else [] := by
  unfold partsP
  rw [List.filter_append, List.map_append]
  congr 1
  cases h : firstB c n a <;> simp [h]
end

/-! What a part needs. -/
section
variable {c : Int → List Int} {n : Nat} (hc : ∀ k x, x ∈ c k → 0 ≤ x ∧ x < n) (hn : 0 < n)
end

/-! What is ready; the order. -/
section
variable {c : Int → List Int} {n : Nat} (hc : ∀ k x, x ∈ c k → 0 ≤ x ∧ x < n) (hn : 0 < n)
end
end Go.Proofs.YtdddhnepanjmfaaGreat
