/- Lemmas and walks of this proof, some texts one behind the other. No condition. -/
import Derived.Test.YtpmfpgbpndobpaaGreatBase
import Derived.Deep.RegionHeld3
import Derived.Test.YtpmfpgbpndobpaaGreatState
set_option linter.unusedSimpArgs false
set_option linter.unusedVariables false
/- A rule for regions that draw their order: each slot has a property, whatever the order. No condition. -/
namespace Go.Proofs.YtpmfpgbpndobpaaGreat
open Go.RowKit
set_option linter.unusedVariables false
set_option linter.unusedSimpArgs false

def dstOf (ops : Array Oper) (i : Nat) : Option Tmp := (ops[i]?).bind (·.dst)
/-- No guards, the order goes down, no slot twice. -/
def regB (ops : Array Oper) (n : Nat) : Bool :=
  (List.range ops.size).all fun i =>
    ((ops[i]?).map fun o => o.guard.isNone && (o.after.all fun e => !Region.binds .any e || decide (e.on < i)) && (match o.dst with | some d => decide (d < n) | none => true)).getD true &&
    (List.range ops.size).all fun j => i == j || (dstOf ops i).isNone || (dstOf ops i != dstOf ops j)
/-- What is listed has what it waits for listed. -/
def Clo (ops : Array Oper) (L : Array Bool) : Prop := ∀ (i : Nat) (o : Oper) (e : Edge), ops[i]? = some o → L.getD i false = true → e ∈ o.after.toList → Region.binds .any e = true → L.getD e.on false = true
structure RegSt (ops : Array Oper) (a0 : Act) (I : Array Bool → World → Prop) (R : Nat → World → Value → Prop) (L : Array Bool) (a : Act) (w : World) : Prop where
  inv : I L w
  size : L.size = ops.size
  asz : a.tmps.size = a0.tmps.size
  defs : a.defers = a0.defers
  frame : ∀ d, (∀ i, dstOf ops i ≠ some d) → a.tmps.getD d undef = a0.tmps.getD d undef
  slots : ∀ i d, L.getD i false = true → dstOf ops i = some d → R i w (a.tmps.getD d undef)
  clo : Clo ops L
def putAll (ops : List Oper) (vs : Nat → Value) (k : Nat) (a : Act) : Act := match ops with
  | [] => a
  | o :: os => putAll os vs (k + 1) (a.put o.dst (vs k))

theorem put_size (a : Act) (d : Option Tmp) (v : Value) : (a.put d v).tmps.size = a.tmps.size := by cases d <;> simp [Act.put]
theorem put_defers (a : Act) (d : Option Tmp) (v : Value) : (a.put d v).defers = a.defers := by cases d <;> simp [Act.put]
theorem put_getD (a : Act) (d : Tmp) (v : Value) (t : Tmp) (h : d < a.tmps.size) : (a.put (some d) v).tmps.getD t undef = if d = t then v else a.tmps.getD t undef := by
  simp only [Act.put, Array.getD_eq_getD_getElem?, Array.getElem?_setIfInBounds]
  split
  · subst_vars
    simp [h]
  · rfl
theorem putAll_size (vs : Nat → Value) : ∀ (ops : List Oper) (k : Nat) (a : Act), (putAll ops vs k a).tmps.size = a.tmps.size
  | [], _, _ => rfl
  | o :: os, k, a => by rw [putAll, putAll_size vs os, put_size]
theorem putAll_defers (vs : Nat → Value) : ∀ (ops : List Oper) (k : Nat) (a : Act), (putAll ops vs k a).defers = a.defers
  | [], _, _ => rfl
  | o :: os, k, a => by rw [putAll, putAll_defers vs os, put_defers]
/-- A slot behind all: its own value, if one of the operations has it. -/
theorem putAll_getD (vs : Nat → Value) (u : Tmp → Value) : ∀ (ops : List Oper) (k : Nat) (a : Act), (∀ (i : Nat) (o : Oper) (d : Tmp), ops[i]? = some o → o.dst = some d → d < a.tmps.size ∧ vs (k + i) = u d) →
    ∀ t : Tmp, (∃ (i : Nat) (o : Oper), ops[i]? = some o ∧ o.dst = some t) ∧ (putAll ops vs k a).tmps.getD t undef = u t ∨ (∀ (i : Nat) (o : Oper), ops[i]? = some o → o.dst ≠ some t) ∧ (putAll ops vs k a).tmps.getD t undef = a.tmps.getD t undef
  | [], k, a, h, t => .inr ⟨fun i o ho => by simp at ho, rfl⟩
  | o :: os, k, a, h, t => by
    have ih := putAll_getD vs u os (k + 1) (a.put o.dst (vs k)) (fun i o' d h1 h2 => by
      have := h (i + 1) o' d (by rw [List.getElem?_cons_succ]; exact h1) h2
      rw [put_size]
      exact ⟨this.1, by rw [show k + 1 + i = k + (i + 1) from by omega]; exact this.2⟩) t
    rcases ih with ⟨⟨i, o', h1, h2⟩, h3⟩ | ⟨h1, h2⟩
    · exact .inl ⟨⟨i + 1, o', by rw [List.getElem?_cons_succ]; exact h1, h2⟩, by rw [putAll]; exact h3⟩
    · cases hd : o.dst with
      | none =>
        refine .inr ⟨fun i o' ho => ?_, by rw [putAll, h2, hd]; rfl⟩
        cases i with
        | zero => simp only [List.getElem?_cons_zero, Option.some.injEq] at ho; subst ho; rw [hd]; simp
        | succ i => exact h1 i o' (by rw [List.getElem?_cons_succ] at ho; exact ho)
      | some d =>
        have hh := h 0 o d (by simp) hd
        rw [hd, put_getD _ _ _ _ hh.1] at h2
        by_cases ht : d = t
        · subst ht
          rw [if_pos rfl] at h2
          exact .inl ⟨⟨0, o, by simp, hd⟩, by rw [putAll, hd, h2]; exact hh.2⟩
        · rw [if_neg ht] at h2
          refine .inr ⟨fun i o' ho => ?_, by rw [putAll, hd, h2]⟩
          cases i with
          | zero => simp only [List.getElem?_cons_zero, Option.some.injEq] at ho; subst ho; rw [hd]; simpa using ht
          | succ i => exact h1 i o' (by rw [List.getElem?_cons_succ] at ho; exact ho)

section
variable {P : Program} {ops : Array Oper} {Q : Exit → Act → World → Prop} {a0 : Act} {I : Array Bool → World → Prop} {R : Nat → World → Value → Prop}
theorem regB_op {n : Nat} (h : regB ops n = true) {i : Nat} {o : Oper} (ho : ops[i]? = some o) : o.guard = none ∧ (∀ e, e ∈ o.after.toList → Region.binds .any e = true → e.on < i) ∧ (∀ d, o.dst = some d → d < n) := by
  have hi : i < ops.size := (Array.getElem?_eq_some_iff.1 ho).1
  simp only [regB, List.all_eq_true, List.mem_range] at h
  have h1 := h i hi
  rw [ho] at h1
  simp only [Option.map_some, Option.getD_some, Bool.and_eq_true, Option.isNone_iff_eq_none, Array.all_eq_true', decide_eq_true_eq] at h1
  refine ⟨h1.1.1.1, fun e he hb => ?_, fun d hd => ?_⟩
  · have := h1.1.1.2 e (by simpa using he)
    simpa [hb] using this
  have := h1.1.2
  rw [hd] at this
  simpa using this
theorem regB_ne {n : Nat} (h : regB ops n = true) {i j : Nat} {d : Tmp} (hi : dstOf ops i = some d) (hij : i ≠ j) : dstOf ops j ≠ some d := by
  intro hj
  have hi' : i < ops.size := by
    rcases Nat.lt_or_ge i ops.size with h | h
    · exact h
    · simp [dstOf, Array.getElem?_eq_none h] at hi
  have hj' : j < ops.size := by
    rcases Nat.lt_or_ge j ops.size with h | h
    · exact h
    · simp [dstOf, Array.getElem?_eq_none h] at hj
  simp only [regB, List.all_eq_true, List.mem_range, Bool.and_eq_true] at h
  have h1 := (h i hi').2 j hj'
  rw [hi, hj] at h1
  simp [hij] at h1

end

def AllSteps (f : Nat → Oper → Prop) : Nat → List Oper → Prop
  | _, [] => True
  | k, o :: os => f k o ∧ AllSteps f (k + 1) os
theorem allSteps_get {f : Nat → Oper → Prop} : ∀ (os : List Oper) (k : Nat), AllSteps f k os → ∀ i o, os[i]? = some o → f (k + i) o
  | [], _, _, i, o, h => by simp at h
  | o :: os, k, hA, 0, o', h => by
    simp only [List.getElem?_cons_zero, Option.some.injEq] at h
    subst h
    exact hA.1
  | o :: os, k, hA, i + 1, o', h => by
    rw [List.getElem?_cons_succ] at h
    have := allSteps_get os (k + 1) hA.2 i o' h
    rwa [show k + 1 + i = k + (i + 1) from by omega] at this

theorem getD_set {L : Array Bool} {i j : Nat} {d : Bool} (h : i ≠ j) : (L.setIfInBounds i true).getD j d = L.getD j d := by
  simp only [Array.getD_eq_getD_getElem?, Array.getElem?_setIfInBounds, if_neg h]
theorem getD_set1 {L : Array Bool} {i : Nat} {d : Bool} (h : i < L.size) : (L.setIfInBounds i true).getD i d = true := by
  simp [Array.getD_eq_getD_getElem?, h]
end Go.Proofs.YtpmfpgbpndobpaaGreat

/- A region that draws its order and writes two boxes, each once. No condition. -/
namespace Go.Proofs.YtpmfpgbpndobpaaGreat
open Go.RowKit
set_option linter.unusedVariables false
set_option linter.unusedSimpArgs false
attribute [local go_sem] ext_cell ext_frozen ext_lt ext_le ext_le1 lt_s2 lt_s3 lt_s4 lt_s5 lt_s6 ext_lt1 ext_lt2 ext_lt3

theorem Chg.alw {F : Nat → Prop} {w W : World} {p : Addr} (h : Chg F w W) (hp : F p.block) (u : Value) : Chg F w (W.setCell p u) :=
  ⟨h.os, h.tape, h.output, Nat.le_trans h.size (by simp), fun k hk hn => (Below.heap_setCell W p u k (fun e => hn (e ▸ hp))).trans (h.block k hk hn)⟩
theorem chg_gr {F : Nat → Prop} {w W W' : World} (h : Chg F w W) (g : Grew W W') : Chg F w W' := h.trans (Chg.of_below g : Chg F W W') (fun _ _ h => h) (fun _ _ h => h)
theorem getD_ff {L : Array Bool} {i : Nat} (h : L.getD i true = false) : L.getD i false = false := by
  simp only [Array.getD_eq_getD_getElem?] at h ⊢
  cases e : L[i]? with
  | none => rfl
  | some b => rw [e] at h; exact h
theorem getD_rep {n i : Nat} : (Array.replicate n false).getD i false = false := by
  simp only [Array.getD_eq_getD_getElem?, Array.getElem?_replicate]
  split <;> rfl
def hasNoT (ops : Array Oper) (d : Tmp) : Bool := ops.all fun o => o.dst != some d
theorem hasNoT_spec {ops : Array Oper} {d : Tmp} (h : hasNoT ops d = true) (i : Nat) : dstOf ops i ≠ some d := by
  intro hi
  unfold dstOf at hi
  cases ho : ops[i]? with
  | none => simp [ho] at hi
  | some o =>
    rw [hasNoT, Array.all_eq_true'] at h
    have := h o (Array.mem_of_getElem? ho)
    simp [ho] at hi
    simp [hi] at this
def DepT (ops : Array Oper) (o : Oper) (k : Nat) (d : Tmp) : Prop := (∃ e, e ∈ o.after.toList ∧ e.on = k ∧ Region.binds .any e = true) ∧ dstOf ops k = some d
section
variable {P : Program} {ops : Array Oper} {Q : Exit → Act → World → Prop} {a0 : Act} {wo : World} {V : Nat → Value} {z1 z2 i1 i2 : Nat} {T1 T2 : TypeId} {o1 o2 n1 n2 : Array Value} {i : Nat} {o : Oper}
/-- What an operation may lean on. -/
structure TAt (ops : Array Oper) (a0 : Act) (V : Nat → Value) (wo : World) (z1 z2 : Nat) (o : Oper) (a : Act) (W : World) : Prop where
  chg : Chg (fun b => b = z1 ∨ b = z2) wo W
  fr : ∀ d, (∀ i, dstOf ops i ≠ some d) → a.eval (.tmp d) = a0.eval (.tmp d)
  dep : ∀ e, e ∈ o.after.toList → Region.binds .any e = true → ∀ d, dstOf ops e.on = some d → a.eval (.tmp d) = V e.on
theorem TAt.old {a : Act} {W : World} (h : TAt ops a0 V wo z1 z2 o a W) (d : Tmp) (hd : hasNoT ops d = true) : a.eval (.tmp d) = a0.eval (.tmp d) := h.fr d (hasNoT_spec hd)
theorem TAt.val {a : Act} {W : World} (h : TAt ops a0 V wo z1 z2 o a W) {k : Nat} {d : Tmp} (hd : DepT ops o k d) : a.eval (.tmp d) = V k := by
  obtain ⟨⟨e, he1, rfl, he3⟩, hdd⟩ := hd
  exact h.dep e he1 he3 d hdd
theorem TAt.cell {a : Act} {W : World} (h : TAt ops a0 V wo z1 z2 o a W) {p : Addr} {v : Value} (hp : wo.cell? p = some v) (n1 : p.block ≠ z1) (n2 : p.block ≠ z2) : W.cell? p = some v :=
  (World.cell?_of_block (h.chg.block p.block (World.block_lt_of_cell? wo p hp) (fun e => e.elim n1 n2))).trans hp
end
end Go.Proofs.YtpmfpgbpndobpaaGreat
