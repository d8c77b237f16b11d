/-
  THE TEXT OF A PROGRAM, plain: its lines, its reader (both sides' reader is this one), and that a program that is ok is read from its lines.
-/
import Derived.Test.YtcdfomoglkhboaaGreatDoorTxD
import Derived.Test.YtcdfomoglkhboaaGreatDoorPrgOk
namespace Go.Proofs.YtcdfomoglkhboaaGreatDoor
open Go.Lib
set_option linter.unusedSimpArgs false

def procsT : List UInt8 := [112, 114, 111, 99, 115]
def procT : List UInt8 := [112, 114, 111, 99]
def sizeT : List UInt8 := [115, 105, 122, 101]
def headL (n : Int) : List UInt8 := join [procsT, itoa n] [32]
def prcL (lo hi n : Int) : List UInt8 := join [procT, itoa lo, itoa hi, sizeT, itoa n] [32]
/-- The lines of a procedure. -/
def linesC (p : Prc) : List (List UInt8) := prcL p.lo p.hi p.code.length :: p.code.map textI
/-- The lines of a program. -/
def printL (ps : List Prc) : List (List UInt8) := headL ps.length :: ps.flatMap linesC

/-! ### The reader -/

/-- A first line: how many procedures there are. -/
def headN (s : List UInt8) : Option Int := match split s [32] with
  | [w0, w1] => if w0 = procsT then (match readN w1 with
    | some n => if 1 ≤ n ∧ n ≤ 4 then some n else none
    | none => none) else none
  | _ => none
/-- A procedure's first line: its bounds and how many steps it has. -/
def prcN (s : List UInt8) : Option (Int × Int × Int) := match split s [32] with
  | [w0, w1, w2, w3, w4] => if w0 = procT ∧ w3 = sizeT then (match readN w1, readN w2, readN w4 with
    | some lo, some hi, some n => if lo ≤ hi ∧ 1 ≤ n ∧ n ≤ 10 then some (lo, hi, n) else none
    | _, _, _ => none) else none
  | _ => none
/-- A line that is a step. -/
def lineI (s : List UInt8) (procs size : Int) : Option Ins := if 60 < s.length then none else insReadP s procs size

def insE (lines : List (List UInt8)) (procs size : Int) (at_ k : Nat) : Except Nat Ins := match lines[at_ + k]? with
  | none => .error (lines.length + 1)
  | some s => match lineI s procs size with
    | none => .error (at_ + k + 1)
    | some i => if (k : Int) = size - 1 ∧ endsB i = false then .error (at_ + k + 1) else .ok i
/-- The first k steps from a line on. -/
def bodyE (lines : List (List UInt8)) (procs size : Int) (at_ : Nat) : Nat → Except Nat (List Ins)
  | 0 => .ok []
  | k + 1 => match bodyE lines procs size at_ k with
    | .error e => .error e
    | .ok xs => match insE lines procs size at_ k with
      | .error e => .error e
      | .ok i => .ok (xs ++ [i])
/-- A procedure from a line on, and the line behind it. -/
def prcE (lines : List (List UInt8)) (procs : Int) (at_ : Nat) : Except Nat (Prc × Nat) := match lines[at_]? with
  | none => .error (lines.length + 1)
  | some s => match prcN s with
    | none => .error (at_ + 1)
    | some (lo, hi, n) => match bodyE lines procs n (at_ + 1) n.toNat with
      | .error e => .error e
      | .ok xs => .ok (⟨lo, hi, xs⟩, at_ + 1 + n.toNat)
/-- The first k procedures, and the line behind them. -/
def prcsE (lines : List (List UInt8)) (procs : Int) : Nat → Except Nat (List Prc × Nat)
  | 0 => .ok ([], 1)
  | k + 1 => match prcsE lines procs k with
    | .error e => .error e
    | .ok (ps, at_) => match prcE lines procs at_ with
      | .error e => .error e
      | .ok (p, at') => .ok (ps ++ [p], at')
/-- A program, or the first line that is wrong. -/
def prgE (lines : List (List UInt8)) : Except Nat (List Prc) := match lines[0]? with
  | none => .error 1
  | some s => match headN s with
    | none => .error 1
    | some n => match prcsE lines n n.toNat with
      | .error e => .error e
      | .ok (ps, at_) => if at_ < lines.length then .error (at_ + 1) else .ok ps

/-! ### A program is read from its lines -/

theorem numOk_small {n : Int} (h1 : 0 ≤ n) (h2 : n ≤ 100) : numOkB n = true := numOkB_iff.2 (by omega)

theorem headN_L {n : Int} (h1 : 1 ≤ n) (h2 : n ≤ 4) : headN (headL n) = some n := by
  have hs : split (headL n) [32] = [procsT, itoa n] := split_join _ _ (by
    intro u hu
    simp only [List.mem_cons, List.not_mem_nil, or_false] at hu
    rcases hu with rfl | rfl
    · decide
    · exact itoa_noSpace n)
  unfold headN
  rw [hs]
  simp only [if_true, readN_itoa (numOk_small (n := n) (by omega) (by omega))]
  rw [if_pos ⟨h1, h2⟩]

theorem prcN_L {lo hi n : Int} (h : itvOkB lo hi = true) (h1 : 1 ≤ n) (h2 : n ≤ 10) : prcN (prcL lo hi n) = some (lo, hi, n) := by
  have hs : split (prcL lo hi n) [32] = [procT, itoa lo, itoa hi, sizeT, itoa n] := split_join _ _ (by
    intro u hu
    simp only [List.mem_cons, List.not_mem_nil, or_false] at hu
    rcases hu with rfl | rfl | rfl | rfl | rfl
    · decide
    · exact itoa_noSpace _
    · exact itoa_noSpace _
    · decide
    · exact itoa_noSpace _)
  obtain ⟨hlo, hhi⟩ := itvOkB_num h
  have hle : lo ≤ hi := by
    simp only [itvOkB, Bool.and_eq_true, decide_eq_true_eq] at h
    exact h.2
  unfold prcN
  rw [hs]
  simp only [and_self, if_true, readN_itoa hlo, readN_itoa hhi, readN_itoa (numOk_small (n := n) (by omega) (by omega))]
  rw [if_pos ⟨hle, h1, h2⟩]

theorem to_small {i : Ins} {procs size : Int} (h : insOkB i procs size = true) (hp : procs ≤ 100) (hs : size ≤ 100) : numOkB i.to = true := by
  obtain ⟨op, d, a, b, rel, lo, hi, to⟩ := i
  simp only [insOkB, headB, Bool.and_eq_true, decide_eq_true_eq] at h
  obtain ⟨⟨⟨h1, h2⟩, hf, -⟩, ht⟩ := h
  have ho : op = 1 ∨ op = 2 ∨ op = 3 ∨ op = 4 ∨ op = 5 ∨ op = 6 ∨ op = 7 ∨ op = 8 ∨ op = 9 ∨ op = 10 ∨ op = 11 ∨ op = 12 := by omega
  rcases ho with rfl | rfl | rfl | rfl | rfl | rfl | rfl | rfl | rfl | rfl | rfl | rfl <;> simp [formV, tailB] at hf ht <;> refine numOkB_iff.2 ?_ <;> simp only <;> omega

theorem relT_len (k : Int) : (relT k).length ≤ 2 := by
  unfold relT
  repeat' split
  all_goals simp
theorem nameT_len (k : Int) : (nameT k).length ≤ 6 := by
  rcases Decidable.em (1 ≤ k ∧ k ≤ 12) with h | h
  · have : k = 1 ∨ k = 2 ∨ k = 3 ∨ k = 4 ∨ k = 5 ∨ k = 6 ∨ k = 7 ∨ k = 8 ∨ k = 9 ∨ k = 10 ∨ k = 11 ∨ k = 12 := by omega
    rcases this with rfl | rfl | rfl | rfl | rfl | rfl | rfl | rfl | rfl | rfl | rfl | rfl <;> decide
  · have e : nameT k = [] := by
      unfold nameT
      repeat rw [if_neg (by omega)]
    rw [e]; decide
theorem textI_short {i : Ins} {procs size : Int} (h : insOkB i procs size = true) (ht : numOkB i.to = true) : (textI i).length ≤ 60 := by
  obtain ⟨hh, -, hl, -⟩ := rdable h ht
  obtain ⟨op, d, a, b, rel, lo, hi, to⟩ := i
  simp only [headB, Bool.and_eq_true, decide_eq_true_eq] at hh hl ht
  obtain ⟨⟨h1, h2⟩, -⟩ := hh
  have e := itoa_length (n := to) (by have := numOkB_iff.1 ht; omega) (by have := numOkB_iff.1 ht; omega)
  have hlo : op = 5 → (itoa lo).length ≤ 6 := fun x => itoa_length (by have := numOkB_iff.1 (hl x).1; omega) (by have := numOkB_iff.1 (hl x).1; omega)
  have hhi : op = 5 → (itoa hi).length ≤ 6 := fun x => itoa_length (by have := numOkB_iff.1 (hl x).2; omega) (by have := numOkB_iff.1 (hl x).2; omega)
  have hv : ∀ k, (varT k).length = 1 := fun _ => rfl
  have hr := relT_len
  have hn := nameT_len
  have n5 := hn 5
  have n6 := hn 6
  have n7 := hn 7
  have n8 := hn 8
  have n9 := hn 9
  have n10 := hn 10
  have n11 := hn 11
  have n12 := hn 12
  have hst : setT.length = 3 := rfl
  have h2' := hr rel
  have h3' := hn op
  have ho : op = 5 ∨ op ≠ 5 := by omega
  rcases ho with rfl | ho
  · have := hlo rfl
    have := hhi rfl
    simp only [textI, wordsI, if_true]
    split <;> simp only [join_length, lens, List.map_cons, List.map_nil, List.sum_cons, List.sum_nil, List.length_cons, List.length_nil, hv, hst] <;> omega
  · simp only [textI, wordsI, if_neg ho]
    repeat' split
    all_goals
      simp only [join_length, lens, List.map_cons, List.map_nil, List.sum_cons, List.sum_nil, List.length_cons, List.length_nil, hv]
      have e' : op = 8 ∨ op = 9 ∨ op = 10 → (itoa to).length ≤ 6 := fun _ => e
      omega

theorem lineI_T {i : Ins} {procs size : Int} (h : insOkB i procs size = true) (hp : procs ≤ 100) (hs : size ≤ 100) : lineI (textI i) procs size = some i := by
  have ht := to_small h hp hs
  unfold lineI
  rw [if_neg (by have := textI_short h ht; omega)]
  exact insReadP_some.2 ⟨h, ht, rfl⟩

theorem bodyE_T (lines : List (List UInt8)) (procs : Int) (at_ : Nat) (is : List Ins) (hp : procs ≤ 100) (hs : is.length ≤ 100)
    (hl : ∀ k, k < is.length → lines[at_ + k]? = (is.map textI)[k]?) (ho : ∀ i, i ∈ is → insOkB i procs is.length = true) (he : lastB is = true) :
    ∀ k, k ≤ is.length → bodyE lines procs is.length at_ k = .ok (is.take k) := by
  intro k
  induction k with
  | zero => intro _; rfl
  | succ k ih =>
    intro hk
    have hk' : k < is.length := hk
    obtain ⟨i, hi⟩ : ∃ i, is[k]? = some i := ⟨_, List.getElem?_eq_getElem hk'⟩
    have hmem : i ∈ is := List.mem_of_getElem? hi
    have hline : lines[at_ + k]? = some (textI i) := by rw [hl k hk', List.getElem?_map, hi]; rfl
    have hend : ¬ ((k : Int) = (is.length : Int) - 1 ∧ endsB i = false) := by
      rintro ⟨h1, h2⟩
      have h3 : k = is.length - 1 := by omega
      unfold lastB at he
      rw [List.getLast?_eq_getElem?, ← h3, hi] at he
      simp only at he
      rw [h2] at he; cases he
    have hins : insE lines procs is.length at_ k = .ok i := by
      unfold insE
      rw [hline]
      simp only [lineI_T (ho i hmem) hp (by omega)]
      rw [if_neg hend]
    rw [bodyE, ih (by omega)]
    simp only [hins]
    rw [List.take_add_one, hi]
    rfl

theorem linesC_length (p : Prc) : (linesC p).length = 1 + p.code.length := by simp [linesC]; omega
/-- The place behind the first k procedures. -/
def behind (ps : List Prc) : Nat := 1 + (ps.flatMap linesC).length

theorem prcE_T (lines : List (List UInt8)) (procs : Int) (at_ : Nat) (p : Prc) (hp : procs ≤ 100) (h : prcOkB p procs = true)
    (hl : ∀ k, k < (linesC p).length → lines[at_ + k]? = (linesC p)[k]?) : prcE lines procs at_ = .ok (p, at_ + (linesC p).length) := by
  obtain ⟨lo, hi, code⟩ := p
  simp only [prcOkB, Bool.and_eq_true, decide_eq_true_eq, List.all_eq_true] at h
  obtain ⟨⟨⟨h1, h2, h3⟩, h4⟩, h5⟩ := h
  rw [linesC_length] at hl ⊢
  simp only at hl ⊢
  have h0 : lines[at_]? = some (prcL lo hi code.length) := by have := hl 0 (by omega); simpa [linesC] using this
  have hb := bodyE_T lines procs (at_ + 1) code hp (by omega) (fun k hk => by
    have := hl (k + 1) (by omega)
    rw [show at_ + (k + 1) = at_ + 1 + k by omega] at this
    simpa [linesC] using this) h4 h5 code.length (Nat.le_refl _)
  unfold prcE
  rw [h0]
  simp only [prcN_L h1 (n := code.length) (by omega) (by omega), Int.toNat_natCast, hb, List.take_length]
  simp only [Except.ok.injEq, Prod.mk.injEq, true_and]
  omega

theorem prcsE_T (ps : List Prc) (procs : Int) (hp : procs ≤ 100) (h : ∀ p, p ∈ ps → prcOkB p procs = true) (s : List UInt8) :
    ∀ k, k ≤ ps.length → prcsE (s :: ps.flatMap linesC) procs k = .ok (ps.take k, behind (ps.take k)) := by
  intro k
  induction k with
  | zero => intro _; rfl
  | succ k ih =>
    intro hk
    have hk' : k < ps.length := hk
    have hi : ps[k]? = some ps[k] := List.getElem?_eq_getElem hk'
    have hmem : ps[k] ∈ ps := List.getElem_mem hk'
    have hcut : ps = ps.take k ++ ps[k] :: ps.drop (k + 1) := by
      conv => lhs; rw [← List.take_append_drop k ps, List.drop_eq_getElem_cons hk']
    have hcat : ps.flatMap linesC = (ps.take k).flatMap linesC ++ (linesC ps[k] ++ (ps.drop (k + 1)).flatMap linesC) := by
      conv => lhs; rw [hcut]
      rw [List.flatMap_append, List.flatMap_cons]
    have hE := prcE_T (s :: ps.flatMap linesC) procs (behind (ps.take k)) ps[k] hp (h _ hmem) (fun j hj => by
      rw [hcat, behind, show 1 + ((ps.take k).flatMap linesC).length + j = (((ps.take k).flatMap linesC).length + j) + 1 by omega, List.getElem?_cons_succ,
        List.getElem?_append_right (by omega), Nat.add_sub_cancel_left, List.getElem?_append_left hj])
    rw [prcsE, ih (by omega)]
    simp only [hE]
    rw [List.take_add_one, hi]
    simp only [Except.ok.injEq, Prod.mk.injEq, Option.toList_some, true_and]
    simp only [behind, List.flatMap_append, List.flatMap_cons, List.flatMap_nil, List.length_append, List.append_nil]
    omega

/-- How many lines a program has. -/
theorem printL_length (ps : List Prc) : (printL ps).length = 1 + ps.length + (ps.map fun p => p.code.length).sum := by
  have h : ∀ qs : List Prc, (qs.flatMap linesC).length = qs.length + (qs.map fun p => p.code.length).sum := by
    intro qs
    induction qs with
    | nil => rfl
    | cons q qs ih =>
      simp only [List.flatMap_cons, List.length_append, linesC_length, ih, List.map_cons, List.sum_cons, List.length_cons]
      omega
  simp only [printL, List.length_cons, h]
  omega

/-- A program that is ok is read from its lines. -/
theorem prgE_print (ps : List Prc) (h : prgOkB ps = true) : prgE (printL ps) = .ok ps := by
  simp only [prgOkB, Bool.and_eq_true, decide_eq_true_eq, List.all_eq_true] at h
  obtain ⟨⟨h1, h2⟩, h3⟩ := h
  have hE := prcsE_T ps ps.length (by omega) h3 (headL ps.length) ps.length (Nat.le_refl _)
  unfold prgE printL
  simp only [List.getElem?_cons_zero, headN_L (n := ps.length) (by omega) (by omega), Int.toNat_natCast, hE, List.take_length]
  rw [if_neg]
  simp only [behind, List.length_cons]
  omega

end Go.Proofs.YtcdfomoglkhboaaGreatDoor
