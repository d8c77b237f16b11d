/- Plain laws of bounds: what a relation leaves of two bounds, by the program's way and by the reference's. No condition. -/
import Derived.Test.YtpmfpgbpndobpaaItvS
namespace Go.Proofs.Ytpmfpgbpndobpaa
open Go.RowKit
set_option linter.unusedVariables false
set_option linter.unusedSimpArgs false

theorem itvB_iff {x : Itv} : itvB x = true ↔ -32768 ≤ x.lo ∧ x.hi ≤ 32767 ∧ x.lo ≤ x.hi := by
  simp only [itvB, itvOkB, Bool.and_eq_true, decide_eq_true_eq]
  omega
/-- Bounds without the one number of others, at an end. -/
def woI (a b : Itv) : Itv := if b.lo = b.hi then (if a.lo = b.lo then ⟨a.lo + 1, a.hi⟩ else if a.hi = b.lo then ⟨a.lo, a.hi - 1⟩ else a) else a
def cutI (a : Itv) (lo hi : Int) : Itv := ⟨max a.lo lo, min a.hi hi⟩
def resI (rel : Int) (a b : Itv) : Itv × Itv :=
  if rel = 1 then (cutI a (-32768) (b.hi - 1), cutI b (a.lo + 1) 32767)
  else if rel = 2 then (cutI a (-32768) b.hi, cutI b a.lo 32767)
  else if rel = 3 then (cutI a b.lo b.hi, cutI a b.lo b.hi)
  else (woI a b, woI b a)
/-- What a relation leaves of two bounds. -/
def relI (rel : Int) (a b : Itv) : Option (Itv × Itv) := if itvB (resI rel a b).1 && itvB (resI rel a b).2 then some (resI rel a b) else none
def swapI (o : Option (Itv × Itv)) : Option (Itv × Itv) := o.map fun p => (p.2, p.1)
def notI (rel : Int) (a b : Itv) : Option (Itv × Itv) := if rel = 1 then swapI (relI 2 b a) else if rel = 2 then swapI (relI 1 b a) else if rel = 3 then relI 4 a b else relI 3 a b
def relV (o : Option (Itv × Itv)) : Value := match o with
  | none => .tuple #[(⟨0, 0⟩ : Itv).v, (⟨0, 0⟩ : Itv).v, .bool false]
  | some p => .tuple #[p.1.v, p.2.v, .bool true]
def optV (o : Option Itv) : Value := match o with
  | none => .tuple #[(⟨0, 0⟩ : Itv).v, .bool false]
  | some x => .tuple #[x.v, .bool true]
/-- What is in both. -/
def meetI (a b : Itv) : Option Itv := if itvB (cutI a b.lo b.hi) then some (cutI a b.lo b.hi) else none
/-- The reference's steps. -/
def bothI (x y : Itv) : Option (Itv × Itv) := if x.hi < x.lo ∨ y.hi < y.lo then none else some (x, y)
def endI (a : Itv) (n : Int) : Option Itv := if a.lo = n ∧ a.hi = n then none else some ⟨if a.lo = n then n + 1 else a.lo, if a.hi = n then n - 1 else a.hi⟩
def otherI (a b : Itv) : Option (Itv × Itv) :=
  match (if b.lo = b.hi then endI a b.lo else some a) with
  | none => none
  | some x => match (if a.lo = a.hi then endI b a.lo else some b) with
    | none => none
    | some y => some (x, y)
theorem relI_some {rel : Int} {a b x y : Itv} (h : resI rel a b = (x, y)) (hx : itvB x = true) (hy : itvB y = true) : relI rel a b = some (x, y) := by simp [relI, h, hx, hy]
theorem relI_none {rel : Int} {a b x y : Itv} (h : resI rel a b = (x, y)) (hx : ¬ (itvB x = true ∧ itvB y = true)) : relI rel a b = none := by
  simp only [relI, h]
  rw [if_neg]
  simpa using hx
theorem itv_eq {a b c d : Int} (h1 : a = c) (h2 : b = d) : (⟨a, b⟩ : Itv) = ⟨c, d⟩ := by subst h1 h2; rfl
theorem both_law {rel : Int} {a b x y u v : Itv} (h : resI rel a b = (u, v)) (hu : x.lo ≤ x.hi → y.lo ≤ y.hi → u = x ∧ v = y ∧ itvB x = true ∧ itvB y = true) (hn : itvB u = true → itvB v = true → x.lo ≤ x.hi ∧ y.lo ≤ y.hi) : bothI x y = relI rel a b := by
  unfold bothI
  by_cases h1 : x.hi < x.lo ∨ y.hi < y.lo
  · rw [if_pos h1, relI_none h]
    rintro ⟨h2, h3⟩
    have := hn h2 h3
    omega
  · rw [if_neg h1]
    obtain ⟨rfl, rfl, h2, h3⟩ := hu (by omega) (by omega)
    rw [relI_some h h2 h3]
theorem rel1_spec {a b : Itv} (ha : itvB a = true) (hb : itvB b = true) : bothI ⟨a.lo, min a.hi (b.hi - 1)⟩ ⟨max b.lo (a.lo + 1), b.hi⟩ = relI 1 a b := by
  obtain ⟨al, ah⟩ := a
  obtain ⟨bl, bh⟩ := b
  rw [itvB_iff] at ha hb
  simp only at ha hb ⊢
  refine both_law (u := cutI ⟨al, ah⟩ (-32768) (bh - 1)) (v := cutI ⟨bl, bh⟩ (al + 1) 32767) (by simp [resI]) ?_ ?_
  · intro h1 h2
    simp only [cutI, itvB_iff] at *
    refine ⟨itv_eq ?_ ?_, itv_eq ?_ ?_, ?_, ?_⟩ <;> omega
  · intro h1 h2
    simp only [cutI, itvB_iff] at *
    omega
theorem rel2_spec {a b : Itv} (ha : itvB a = true) (hb : itvB b = true) : bothI ⟨a.lo, min a.hi b.hi⟩ ⟨max b.lo a.lo, b.hi⟩ = relI 2 a b := by
  obtain ⟨al, ah⟩ := a
  obtain ⟨bl, bh⟩ := b
  rw [itvB_iff] at ha hb
  simp only at ha hb ⊢
  refine both_law (u := cutI ⟨al, ah⟩ (-32768) bh) (v := cutI ⟨bl, bh⟩ al 32767) (by simp [resI]) ?_ ?_
  · intro h1 h2
    simp only [cutI, itvB_iff] at *
    refine ⟨itv_eq ?_ ?_, itv_eq ?_ ?_, ?_, ?_⟩ <;> omega
  · intro h1 h2
    simp only [cutI, itvB_iff] at *
    omega
theorem rel3_spec {a b : Itv} (ha : itvB a = true) (hb : itvB b = true) : bothI ⟨max a.lo b.lo, min a.hi b.hi⟩ ⟨max a.lo b.lo, min a.hi b.hi⟩ = relI 3 a b := by
  obtain ⟨al, ah⟩ := a
  obtain ⟨bl, bh⟩ := b
  rw [itvB_iff] at ha hb
  simp only at ha hb ⊢
  refine both_law (u := cutI ⟨al, ah⟩ bl bh) (v := cutI ⟨al, ah⟩ bl bh) (by simp [resI]) ?_ ?_
  · intro h1 h2
    simp only [cutI, itvB_iff] at *
    refine ⟨trivial, trivial, ?_, ?_⟩ <;> omega
  · intro h1 h2
    simp only [cutI, itvB_iff] at *
    omega
theorem rel4_spec {a b : Itv} (ha : itvB a = true) (hb : itvB b = true) : otherI a b = relI 4 a b := by
  obtain ⟨al, ah⟩ := a
  obtain ⟨bl, bh⟩ := b
  have e : resI 4 ⟨al, ah⟩ ⟨bl, bh⟩ = (woI ⟨al, ah⟩ ⟨bl, bh⟩, woI ⟨bl, bh⟩ ⟨al, ah⟩) := by simp [resI]
  rw [itvB_iff] at ha hb
  simp only at ha hb
  by_cases h1 : bl = bh
  · subst h1
    by_cases h2 : al = ah
    · subst h2
      by_cases h3 : al = bl
      · subst h3
        rw [relI_none e]
        · simp [otherI, endI]
        · simp only [woI, itvB_iff]
          simp only [if_true]
          omega
      · have h4 : ¬ bl = al := fun h => h3 h.symm
        rw [relI_some (x := ⟨al, al⟩) (y := ⟨bl, bl⟩) (by rw [e]; simp [woI, h3, h4]) (itvB_iff.2 (by simp only; omega)) (itvB_iff.2 (by simp only; omega))]
        simp [otherI, endI, h3, h4]
    · by_cases h3 : al = bl
      · subst h3
        have h4 : ¬ ah = al := by omega
        rw [relI_some (x := ⟨al + 1, ah⟩) (y := ⟨al, al⟩) (by rw [e]; simp [woI, h2]) (itvB_iff.2 (by simp only; omega)) (itvB_iff.2 (by simp only; omega))]
        simp [otherI, endI, h2, h4]
      · by_cases h4 : ah = bl
        · subst h4
          rw [relI_some (x := ⟨al, ah - 1⟩) (y := ⟨ah, ah⟩) (by rw [e]; simp [woI, h2]) (itvB_iff.2 (by simp only; omega)) (itvB_iff.2 (by simp only; omega))]
          simp [otherI, endI, h2]
        · rw [relI_some (x := ⟨al, ah⟩) (y := ⟨bl, bl⟩) (by rw [e]; simp [woI, h2, h3, h4]) (itvB_iff.2 (by simp only; omega)) (itvB_iff.2 (by simp only; omega))]
          simp [otherI, endI, h2, h3, h4]
  · by_cases h2 : al = ah
    · subst h2
      by_cases h3 : bl = al
      · subst h3
        have h4 : ¬ bh = bl := by omega
        rw [relI_some (x := ⟨bl, bl⟩) (y := ⟨bl + 1, bh⟩) (by rw [e]; simp [woI, h1]) (itvB_iff.2 (by simp only; omega)) (itvB_iff.2 (by simp only; omega))]
        simp [otherI, endI, h1, h4]
      · by_cases h4 : bh = al
        · subst h4
          rw [relI_some (x := ⟨bh, bh⟩) (y := ⟨bl, bh - 1⟩) (by rw [e]; simp [woI, h1]) (itvB_iff.2 (by simp only; omega)) (itvB_iff.2 (by simp only; omega))]
          simp [otherI, endI, h1]
        · rw [relI_some (x := ⟨al, al⟩) (y := ⟨bl, bh⟩) (by rw [e]; simp [woI, h1, h3, h4]) (itvB_iff.2 (by simp only; omega)) (itvB_iff.2 (by simp only; omega))]
          simp [otherI, endI, h1, h3, h4]
    · rw [relI_some (x := ⟨al, ah⟩) (y := ⟨bl, bh⟩) (by rw [e]; simp [woI, h1, h2]) (itvB_iff.2 (by simp only; omega)) (itvB_iff.2 (by simp only; omega))]
      simp [otherI, h1, h2]
theorem relI_ok {rel : Int} {a b x y : Itv} (h : relI rel a b = some (x, y)) : itvB x = true ∧ itvB y = true := by
  unfold relI at h
  split at h
  · rename_i h1
    simp only [Bool.and_eq_true] at h1
    have := Option.some.inj h
    rw [this] at h1
    exact h1
  · cases h
theorem notI_ok {rel : Int} {a b x y : Itv} (h : notI rel a b = some (x, y)) : itvB x = true ∧ itvB y = true := by
  unfold notI at h
  split at h
  · simp only [swapI, Option.map_eq_some_iff] at h
    obtain ⟨⟨u, v⟩, h1, h2⟩ := h
    cases h2
    exact (relI_ok h1).symm
  · split at h
    · simp only [swapI, Option.map_eq_some_iff] at h
      obtain ⟨⟨u, v⟩, h1, h2⟩ := h
      cases h2
      exact (relI_ok h1).symm
    · split at h <;> exact relI_ok h
theorem meetI_ok {a b x : Itv} (h : meetI a b = some x) : itvB x = true := by
  unfold meetI at h
  split at h
  · rename_i h1
    cases h
    exact h1
  · cases h
end Go.Proofs.Ytpmfpgbpndobpaa
