/- Lemmas and walks of this proof, some texts one behind the other. No condition. -/
import Derived.Test.YtdddhnepanjmfaaGreatBase
import Derived.Deep.RegionHeld3
import Derived.Test.YtdddhnepanjmfaaGreatBlk
set_option linter.unusedSimpArgs false
set_option linter.unusedVariables false
/- A rule for regions that draw their order: each slot has a property, whatever the order. No condition. -/
namespace Go.Proofs.YtdddhnepanjmfaaGreat
open Go.RowKit
set_option linter.unusedVariables false
set_option linter.unusedSimpArgs false

def dstOf (ops : Array Oper) (i : Nat) : Option Tmp := (ops[i]?).bind (·.dst)
/-- No guards, the order goes down, no slot twice. -/
def regB (ops : Array Oper) (n : Nat) : Bool :=
  (List.range ops.size).all fun i =>
    ((ops[i]?).map fun o => o.guard.isNone && (o.after.all fun e => !Region.binds .any e || decide (e.on < i)) && (match o.dst with | some d => decide (d < n) | none => true)).getD true &&
    (List.range ops.size).all fun j => i == j || (dstOf ops i).isNone || (dstOf ops i != dstOf ops j)
/-- What is listed has what it waits for listed. -/
def Clo (ops : Array Oper) (L : Array Bool) : Prop := ∀ (i : Nat) (o : Oper) (e : Edge), ops[i]? = some o → L.getD i false = true → e ∈ o.after.toList → Region.binds .any e = true → L.getD e.on false = true
structure RegSt (ops : Array Oper) (a0 : Act) (I : Array Bool → World → Prop) (R : Nat → World → Value → Prop) (L : Array Bool) (a : Act) (w : World) : Prop where
  inv : I L w
  size : L.size = ops.size
  asz : a.tmps.size = a0.tmps.size
  defs : a.defers = a0.defers
  frame : ∀ d, (∀ i, dstOf ops i ≠ some d) → a.tmps.getD d undef = a0.tmps.getD d undef
  slots : ∀ i d, L.getD i false = true → dstOf ops i = some d → R i w (a.tmps.getD d undef)
  clo : Clo ops L
def putAll (ops : List Oper) (vs : Nat → Value) (k : Nat) (a : Act) : Act := match ops with
  | [] => a
  | o :: os => putAll os vs (k + 1) (a.put o.dst (vs k))

theorem put_size (a : Act) (d : Option Tmp) (v : Value) : (a.put d v).tmps.size = a.tmps.size := by cases d <;> simp [Act.put]
theorem put_defers (a : Act) (d : Option Tmp) (v : Value) : (a.put d v).defers = a.defers := by cases d <;> simp [Act.put]
theorem put_getD (a : Act) (d : Tmp) (v : Value) (t : Tmp) (h : d < a.tmps.size) : (a.put (some d) v).tmps.getD t undef = if d = t then v else a.tmps.getD t undef := by
  simp only [Act.put, Array.getD_eq_getD_getElem?, Array.getElem?_setIfInBounds]
  split
  · subst_vars
    simp [h]
  · rfl
theorem putAll_size (vs : Nat → Value) : ∀ (ops : List Oper) (k : Nat) (a : Act), (putAll ops vs k a).tmps.size = a.tmps.size
  | [], _, _ => rfl
  | o :: os, k, a => by rw [putAll, putAll_size vs os, put_size]
theorem putAll_defers (vs : Nat → Value) : ∀ (ops : List Oper) (k : Nat) (a : Act), (putAll ops vs k a).defers = a.defers
  | [], _, _ => rfl
  | o :: os, k, a => by rw [putAll, putAll_defers vs os, put_defers]
/-- A slot behind all: its own value, if one of the operations has it. -/
theorem putAll_getD (vs : Nat → Value) (u : Tmp → Value) : ∀ (ops : List Oper) (k : Nat) (a : Act), (∀ (i : Nat) (o : Oper) (d : Tmp), ops[i]? = some o → o.dst = some d → d < a.tmps.size ∧ vs (k + i) = u d) →
    ∀ t : Tmp, (∃ (i : Nat) (o : Oper), ops[i]? = some o ∧ o.dst = some t) ∧ (putAll ops vs k a).tmps.getD t undef = u t ∨ (∀ (i : Nat) (o : Oper), ops[i]? = some o → o.dst ≠ some t) ∧ (putAll ops vs k a).tmps.getD t undef = a.tmps.getD t undef
  | [], k, a, h, t => .inr ⟨fun i o ho => by simp at ho, rfl⟩
  | o :: os, k, a, h, t => by
    have ih := putAll_getD vs u os (k + 1) (a.put o.dst (vs k)) (fun i o' d h1 h2 => by
      have := h (i + 1) o' d (by rw [List.getElem?_cons_succ]; exact h1) h2
      rw [put_size]
      exact ⟨this.1, by rw [show k + 1 + i = k + (i + 1) from by omega]; exact this.2⟩) t
    rcases ih with ⟨⟨i, o', h1, h2⟩, h3⟩ | ⟨h1, h2⟩
    · exact .inl ⟨⟨i + 1, o', by rw [List.getElem?_cons_succ]; exact h1, h2⟩, by rw [putAll]; exact h3⟩
    · cases hd : o.dst with
      | none =>
        refine .inr ⟨fun i o' ho => ?_, by rw [putAll, h2, hd]; rfl⟩
        cases i with
        | zero => simp only [List.getElem?_cons_zero, Option.some.injEq] at ho; subst ho; rw [hd]; simp
        | succ i => exact h1 i o' (by rw [List.getElem?_cons_succ] at ho; exact ho)
      | some d =>
        have hh := h 0 o d (by simp) hd
        rw [hd, put_getD _ _ _ _ hh.1] at h2
        by_cases ht : d = t
        · subst ht
          rw [if_pos rfl] at h2
          exact .inl ⟨⟨0, o, by simp, hd⟩, by rw [putAll, hd, h2]; exact hh.2⟩
        · rw [if_neg ht] at h2
          refine .inr ⟨fun i o' ho => ?_, by rw [putAll, hd, h2]⟩
          cases i with
          | zero => simp only [List.getElem?_cons_zero, Option.some.injEq] at ho; subst ho; rw [hd]; simpa using ht
          | succ i => exact h1 i o' (by rw [List.getElem?_cons_succ] at ho; exact ho)

section
variable {P : Program} {ops : Array Oper} {Q : Exit → Act → World → Prop} {a0 : Act} {I : Array Bool → World → Prop} {R : Nat → World → Value → Prop}
theorem regB_op {n : Nat} (h : regB ops n = true) {i : Nat} {o : Oper} (ho : ops[i]? = some o) : o.guard = none ∧ (∀ e, e ∈ o.after.toList → Region.binds .any e = true → e.on < i) ∧ (∀ d, o.dst = some d → d < n) := by
  have hi : i < ops.size := (Array.getElem?_eq_some_iff.1 ho).1
  simp only [regB, List.all_eq_true, List.mem_range] at h
  have h1 := h i hi
  rw [ho] at h1
  simp only [Option.map_some, Option.getD_some, Bool.and_eq_true, Option.isNone_iff_eq_none, Array.all_eq_true', decide_eq_true_eq] at h1
  refine ⟨h1.1.1.1, fun e he hb => ?_, fun d hd => ?_⟩
  · have := h1.1.1.2 e (by simpa using he)
    simpa [hb] using this
  have := h1.1.2
  rw [hd] at this
  simpa using this
theorem regB_ne {n : Nat} (h : regB ops n = true) {i j : Nat} {d : Tmp} (hi : dstOf ops i = some d) (hij : i ≠ j) : dstOf ops j ≠ some d := by
  intro hj
  have hi' : i < ops.size := by
    rcases Nat.lt_or_ge i ops.size with h | h
    · exact h
    · simp [dstOf, Array.getElem?_eq_none h] at hi
  have hj' : j < ops.size := by
    rcases Nat.lt_or_ge j ops.size with h | h
    · exact h
    · simp [dstOf, Array.getElem?_eq_none h] at hj
  simp only [regB, List.all_eq_true, List.mem_range, Bool.and_eq_true] at h
  have h1 := (h i hi').2 j hj'
  rw [hi, hj] at h1
  simp [hij] at h1

/-- One operation, alone. -/
def StepOk (P : Program) (ops : Array Oper) (Q : Exit → Act → World → Prop) (a0 : Act) (I : Array Bool → World → Prop) (R : Nat → World → Value → Prop) (i : Nat) (o : Oper) : Prop :=
  ∀ (L : Array Bool) (a : Act) (w : World), L.size = ops.size → i < ops.size → L.getD i true = false → Clo ops L → I L w → (∀ d, (∀ i, dstOf ops i ≠ some d) → a.eval (.tmp d) = a0.eval (.tmp d)) →
    (∀ e, e ∈ o.after.toList → Region.binds .any e = true → L.getD e.on false = true ∧ ∀ d, dstOf ops e.on = some d → R e.on w (a.eval (.tmp d))) →
    o.wp P a w (fun a' w' => ∃ v, a' = a.put o.dst v ∧ R i w' v ∧ I (L.setIfInBounds i true) w' ∧ ∀ j u, j ≠ i → R j w u → R j w' u) Q

theorem wpAny_reg (hB : regB ops a0.tmps.size = true) (hstep : ∀ i o, ops[i]? = some o → StepOk P ops Q a0 I R i o)
    (hend : ∀ a w, (∀ L, RegSt ops a0 I R L a w → (∀ i, i < ops.size → L.getD i false = true) → Q .normal a w)) :
    ∀ (fuel : Nat) (L : Array Bool) (a : Act) (w : World), RegSt ops a0 I R L a w → L.toList.countP (fun b => !b) ≤ fuel → wpAny P .any ops Q fuel L a w := by
  have hall : ∀ L : Array Bool, L.size = ops.size → Region.ready .any ops L = [] → ∀ i, i < ops.size → L.getD i false = true := by
    intro L hL hr i
    induction i using Nat.strongRecOn with
    | _ i ih =>
      intro hi
      by_cases hl : L.getD i true = true
      · simp only [Array.getD_eq_getD_getElem?] at hl ⊢
        rw [Array.getElem?_eq_getElem (by omega)] at hl ⊢
        exact hl
      · exfalso
        have ho : ops[i]? = some ops[i] := Array.getElem?_eq_getElem hi
        have hmem : i ∈ Region.ready .any ops L := by
          unfold Region.ready
          rw [List.mem_filter]
          refine ⟨List.mem_range.2 hi, ?_⟩
          rw [ho]
          simp only [Option.map_some, Option.getD_some, Bool.and_eq_true]
          refine ⟨by simpa using hl, ?_⟩
          rw [Array.all_eq_true']
          intro e he
          cases hb : Region.binds .any e
          · simp
          have hlt := (regB_op hB ho).2.1 e (by simpa using he) hb
          rw [ih e.on hlt (by omega)]
          simp
        rw [hr] at hmem
        cases hmem
  intro fuel
  induction fuel with
  | zero =>
    intro L a w hS hc
    have hl : ∀ i, i < ops.size → L.getD i false = true := by
      intro i hi
      have h0 : L.toList.countP (fun b => !b) = 0 := by omega
      rw [List.countP_eq_zero] at h0
      have hi' : i < L.size := by rw [hS.size]; exact hi
      have := h0 L[i] (by simp)
      simp only [Array.getD_eq_getD_getElem?, Array.getElem?_eq_getElem hi', Option.getD_some]
      simpa using this
    refine ⟨?_, hend a w L hS hl⟩
    unfold Region.ready
    rw [List.filter_eq_nil_iff]
    intro i hi
    have := hl i (List.mem_range.1 hi)
    have hi' : i < L.size := by rw [hS.size]; exact List.mem_range.1 hi
    simp only [Array.getD_eq_getD_getElem?, Array.getElem?_eq_getElem hi', Option.getD_some] at this ⊢
    simp [this]
  | succ fuel ih =>
    intro L a w hS hc
    refine ⟨fun hr => hend a w L hS (hall L hS.size hr), fun i hi => ?_⟩
    unfold Region.ready at hi
    rw [List.mem_filter] at hi
    obtain ⟨hi1, hi2⟩ := hi
    have hi1 := List.mem_range.1 hi1
    have ho : ops[i]? = some ops[i] := Array.getElem?_eq_getElem hi1
    rw [ho] at hi2
    simp only [Option.map_some, Option.getD_some, Bool.and_eq_true, Bool.not_eq_true', Array.all_eq_true'] at hi2
    obtain ⟨hf, haf⟩ := hi2
    have hiL : i < L.size := by rw [hS.size]; exact hi1
    have hLi : L[i] = false := by simpa only [Array.getD_eq_getD_getElem?, Array.getElem?_eq_getElem hiL, Option.getD_some] using hf
    obtain ⟨hgd, hon, hdr⟩ := regB_op hB ho
    have hst := hstep i _ ho L a w hS.size hi1 hf hS.clo hS.inv (fun d hd => hS.frame d hd) (fun e he hb => have hl : L.getD e.on false = true := (by
      have := haf e (by simpa using he)
      rw [hb] at this
      simpa using this); ⟨hl, fun d hd => hS.slots e.on d hl hd⟩)
    unfold wpOp
    rw [ho]
    simp only
    rw [if_pos (by simp [Region.wanted, hgd])]
    left
    refine Oper.wp_mono (fun a' w' h => ?_) hst
    obtain ⟨v, rfl, hv, hI, hm⟩ := h
    apply ih
    · refine ⟨hI, by simp [hS.size], by rw [put_size, hS.asz], by rw [put_defers, hS.defs], fun d hd => ?_, fun j d hj hd => ?_, fun j oj e hoj hj he hb => ?_⟩
      · cases hdo : ops[i].dst with
        | none => exact hS.frame d hd
        | some d' =>
          rw [put_getD _ _ _ _ (by rw [hS.asz]; exact hdr d' hdo), if_neg (fun e => hd i (by simp [dstOf, ho, hdo, e]))]
          exact hS.frame d hd
      · by_cases hij : i = j
        · subst hij
          have hdo : ops[i].dst = some d := by simpa [dstOf, ho] using hd
          rw [hdo, put_getD _ _ _ _ (by rw [hS.asz]; exact hdr d hdo), if_pos rfl]
          exact hv
        · have hj' : L.getD j false = true := by
            simp only [Array.getD_eq_getD_getElem?, Array.getElem?_setIfInBounds] at hj ⊢
            rwa [if_neg hij] at hj
          have hb := hS.slots j d hj' hd
          cases hdo : ops[i].dst with
          | none => exact hm j _ (Ne.symm hij) hb
          | some d' =>
            have hne : d' ≠ d := fun e => regB_ne hB hd (Ne.symm hij) (by simp [dstOf, ho, hdo, e])
            rw [put_getD _ _ _ _ (by rw [hS.asz]; exact hdr d' hdo), if_neg hne]
            exact hm j _ (Ne.symm hij) hb
      · have hmono : ∀ m, L.getD m false = true → (L.setIfInBounds i true).getD m false = true := fun m hm => by
          by_cases him : i = m
          · subst him
            simp [Array.getD_eq_getD_getElem?, hiL]
          · simp only [Array.getD_eq_getD_getElem?, Array.getElem?_setIfInBounds, if_neg him] at hm ⊢
            exact hm
        by_cases hij : i = j
        · subst hij
          rw [ho, Option.some.injEq] at hoj
          subst hoj
          have := haf e (by simpa using he)
          rw [hb] at this
          exact hmono _ (by simpa using this)
        · have hj' : L.getD j false = true := by
            simp only [Array.getD_eq_getD_getElem?, Array.getElem?_setIfInBounds, if_neg hij] at hj ⊢
            exact hj
          exact hmono _ (hS.clo j oj e hoj hj' he hb)
    · rw [Array.toList_setIfInBounds, List.countP_set (by simpa using hiL)]
      have : 0 < L.toList.countP (fun b => !b) := by
        rw [List.countP_pos_iff]
        exact ⟨L[i], by simp, by rw [hLi]; rfl⟩
      have e1 : (!L.toList[i]'(by simpa using hiL)) = true := by rw [Array.getElem_toList, hLi]; rfl
      rw [if_pos e1]
      have e2 : (if (!true) = true then 1 else 0) = 0 := rfl
      rw [e2]
      omega

/-- A region that draws its order, by its operations alone: behind it each slot has its property. -/
theorem wp_region_inv {id : Nat} {w : World} (I : Array Bool → World → Prop) (R : Nat → World → Value → Prop) (hm : P.follows .mixedOrders = true) (hB : regB ops a0.tmps.size = true) (hI : I (Array.replicate ops.size false) { w with drawn := w.drawn + 1 })
    (hstep : ∀ i o, ops[i]? = some o → StepOk P ops Q a0 I R i o)
    (hend : ∀ (vs : Nat → Value) (w' : World), (∃ L : Array Bool, I L w' ∧ ∀ i, i < ops.size → L.getD i false = true) → (∀ i d, dstOf ops i = some d → R i w' (vs i)) → Q .normal (putAll ops.toList vs 0 a0) w') : (Code.region id ops true).wp P Q a0 w := by
  refine wp_region_any hm (wpAny_reg hB hstep ?_ _ _ _ _ ⟨hI, by simp, rfl, rfl, fun d _ => rfl, fun i d hi hd => ?_, fun i o e _ hi _ _ => ?_⟩ ?_)
  · intro a w' L hS hl
    have hI' := hS.inv
    have hR : ∀ i d, dstOf ops i = some d → R i w' (a.tmps.getD d undef) := fun i d hd => hS.slots i d (hl i (by
      rcases Nat.lt_or_ge i ops.size with h | h
      · exact h
      · simp [dstOf, Array.getElem?_eq_none h] at hd)) hd
    have heq : a = putAll ops.toList (fun i => match dstOf ops i with | some d => a.tmps.getD d undef | none => undef) 0 a0 := by
      have hpa := putAll_getD (fun i => match dstOf ops i with | some d => a.tmps.getD d undef | none => undef) (fun d => a.tmps.getD d undef) ops.toList 0 a0 (fun i o d h1 h2 => by
        have ho : ops[i]? = some o := by simpa using h1
        refine ⟨(regB_op hB ho).2.2 d h2, ?_⟩
        have : dstOf ops i = some d := by simp [dstOf, ho, h2]
        rw [Nat.zero_add]
        simp only [this])
      have hsz := putAll_size (fun i => match dstOf ops i with | some d => a.tmps.getD d undef | none => undef) ops.toList 0 a0
      have hdf := putAll_defers (fun i => match dstOf ops i with | some d => a.tmps.getD d undef | none => undef) ops.toList 0 a0
      generalize putAll ops.toList (fun i => match dstOf ops i with | some d => a.tmps.getD d undef | none => undef) 0 a0 = b at *
      have ht : a.tmps = b.tmps := by
        apply Array.ext
        · rw [hS.asz, hsz]
        · intro t h1 h2
          have e1 : a.tmps[t] = a.tmps.getD t undef := by simp [Array.getD_eq_getD_getElem?, Array.getElem?_eq_getElem h1]
          have e2 : b.tmps[t] = b.tmps.getD t undef := by simp [Array.getD_eq_getD_getElem?, Array.getElem?_eq_getElem h2]
          rw [e1, e2]
          rcases hpa t with ⟨_, h3⟩ | ⟨h3, h4⟩
          · exact h3.symm
          · rw [h4]
            exact hS.frame t (fun i hi => by
              cases ho : ops[i]? with
              | none => simp [dstOf, ho] at hi
              | some o => exact h3 i o (by simpa using ho) (by simpa [dstOf, ho] using hi))
      cases a
      cases b
      simp only at ht hdf
      have := hS.defs
      simp only at this
      rw [ht, this, hdf]
    rw [heq]
    refine hend _ w' ⟨L, hI', hl⟩ (fun i d hd => ?_)
    have := hR i d hd
    simp only [hd]
    exact this
  · simp only [Array.getD_eq_getD_getElem?, Array.getElem?_replicate] at hi
    split at hi <;> simp at hi
  · simp only [Array.getD_eq_getD_getElem?, Array.getElem?_replicate] at hi
    split at hi <;> simp at hi
  · simp only [Array.toList_replicate]
    exact Nat.le_trans (List.countP_le_length) (by simp)
end

def AllSteps (f : Nat → Oper → Prop) : Nat → List Oper → Prop
  | _, [] => True
  | k, o :: os => f k o ∧ AllSteps f (k + 1) os
theorem allSteps_get {f : Nat → Oper → Prop} : ∀ (os : List Oper) (k : Nat), AllSteps f k os → ∀ i o, os[i]? = some o → f (k + i) o
  | [], _, _, i, o, h => by simp at h
  | o :: os, k, hA, 0, o', h => by
    simp only [List.getElem?_cons_zero, Option.some.injEq] at h
    subst h
    exact hA.1
  | o :: os, k, hA, i + 1, o', h => by
    rw [List.getElem?_cons_succ] at h
    have := allSteps_get os (k + 1) hA.2 i o' h
    rwa [show k + 1 + i = k + (i + 1) from by omega] at this

theorem getD_set {L : Array Bool} {i j : Nat} {d : Bool} (h : i ≠ j) : (L.setIfInBounds i true).getD j d = L.getD j d := by
  simp only [Array.getD_eq_getD_getElem?, Array.getElem?_setIfInBounds, if_neg h]
theorem getD_set1 {L : Array Bool} {i : Nat} {d : Bool} (h : i < L.size) : (L.setIfInBounds i true).getD i d = true := by
  simp [Array.getD_eq_getD_getElem?, h]
end Go.Proofs.YtdddhnepanjmfaaGreat

/- A region that draws its order and writes two boxes, each once. No condition. -/
namespace Go.Proofs.YtdddhnepanjmfaaGreat
open Go.RowKit
set_option linter.unusedVariables false
set_option linter.unusedSimpArgs false
attribute [local go_sem] ext_cell ext_frozen ext_lt ext_le ext_le1 lt_s2 lt_s3 lt_s4 lt_s5 lt_s6 ext_lt1 ext_lt2 ext_lt3

theorem Chg.alw {F : Nat → Prop} {w W : World} {p : Addr} (h : Chg F w W) (hp : F p.block) (u : Value) : Chg F w (W.setCell p u) :=
  ⟨h.os, h.tape, h.output, Nat.le_trans h.size (by simp), fun k hk hn => (Below.heap_setCell W p u k (fun e => hn (e ▸ hp))).trans (h.block k hk hn)⟩
theorem chg_gr {F : Nat → Prop} {w W W' : World} (h : Chg F w W) (g : Grew W W') : Chg F w W' := h.trans (Chg.of_below g : Chg F W W') (fun _ _ h => h) (fun _ _ h => h)
theorem getD_ff {L : Array Bool} {i : Nat} (h : L.getD i true = false) : L.getD i false = false := by
  simp only [Array.getD_eq_getD_getElem?] at h ⊢
  cases e : L[i]? with
  | none => rfl
  | some b => rw [e] at h; exact h
theorem getD_rep {n i : Nat} : (Array.replicate n false).getD i false = false := by
  simp only [Array.getD_eq_getD_getElem?, Array.getElem?_replicate]
  split <;> rfl
def hasNoT (ops : Array Oper) (d : Tmp) : Bool := ops.all fun o => o.dst != some d
theorem hasNoT_spec {ops : Array Oper} {d : Tmp} (h : hasNoT ops d = true) (i : Nat) : dstOf ops i ≠ some d := by
  intro hi
  unfold dstOf at hi
  cases ho : ops[i]? with
  | none => simp [ho] at hi
  | some o =>
    rw [hasNoT, Array.all_eq_true'] at h
    have := h o (Array.mem_of_getElem? ho)
    simp [ho] at hi
    simp [hi] at this
def DepT (ops : Array Oper) (o : Oper) (k : Nat) (d : Tmp) : Prop := (∃ e, e ∈ o.after.toList ∧ e.on = k ∧ Region.binds .any e = true) ∧ dstOf ops k = some d
section
variable {P : Program} {ops : Array Oper} {Q : Exit → Act → World → Prop} {a0 : Act} {wo : World} {V : Nat → Value} {z1 z2 i1 i2 : Nat} {T1 T2 : TypeId} {o1 o2 n1 n2 : Array Value} {i : Nat} {o : Oper}
/-- What an operation may lean on. -/
structure TAt (ops : Array Oper) (a0 : Act) (V : Nat → Value) (wo : World) (z1 z2 : Nat) (o : Oper) (a : Act) (W : World) : Prop where
  chg : Chg (fun b => b = z1 ∨ b = z2) wo W
  fr : ∀ d, (∀ i, dstOf ops i ≠ some d) → a.eval (.tmp d) = a0.eval (.tmp d)
  dep : ∀ e, e ∈ o.after.toList → Region.binds .any e = true → ∀ d, dstOf ops e.on = some d → a.eval (.tmp d) = V e.on
theorem TAt.old {a : Act} {W : World} (h : TAt ops a0 V wo z1 z2 o a W) (d : Tmp) (hd : hasNoT ops d = true) : a.eval (.tmp d) = a0.eval (.tmp d) := h.fr d (hasNoT_spec hd)
theorem TAt.val {a : Act} {W : World} (h : TAt ops a0 V wo z1 z2 o a W) {k : Nat} {d : Tmp} (hd : DepT ops o k d) : a.eval (.tmp d) = V k := by
  obtain ⟨⟨e, he1, rfl, he3⟩, hdd⟩ := hd
  exact h.dep e he1 he3 d hdd
theorem TAt.cell {a : Act} {W : World} (h : TAt ops a0 V wo z1 z2 o a W) {p : Addr} {v : Value} (hp : wo.cell? p = some v) (n1 : p.block ≠ z1) (n2 : p.block ≠ z2) : W.cell? p = some v :=
  (World.cell?_of_block (h.chg.block p.block (World.block_lt_of_cell? wo p hp) (fun e => e.elim n1 n2))).trans hp
end
end Go.Proofs.YtdddhnepanjmfaaGreat

/- Drawn regions in a world that only grows, each operation alone: what each slot holds is said by a property that growth keeps. No condition. -/
namespace Go.Proofs.YtdddhnepanjmfaaGreat
open Go.RowKit
set_option linter.unusedVariables false
set_option linter.unusedSimpArgs false
attribute [local go_sem] ext_cell ext_frozen ext_lt ext_le ext_le1 lt_s2 lt_s3 lt_s4 lt_s5 lt_s6 ext_lt1 ext_lt2 ext_lt3

/-- A property of a slot that stays in a world that has grown. -/
structure Pg where
  p : World → Value → Prop
  st : ∀ w w' v, Grew w w' → p w v → p w' v
def pgQ (q : Value → Prop) : Pg := ⟨fun _ u => q u, fun _ _ _ _ h => h⟩
def pgV (v : Value) : Pg := ⟨fun _ u => u = v, fun _ _ _ _ h => h⟩
def pgT : Pg := pgQ fun _ => True
def Gof (l : List Pg) (i : Nat) (w : World) (v : Value) : Prop := (l.getD i pgT).p w v
theorem gk {w W : World} {p : Addr} {v : Value} (g : Grew w W) (hp : w.cell? p = some v) : W.cell? p = some v :=
  (World.cell?_of_block (g.block p.block (World.block_lt_of_cell? w p hp))).trans hp

/-- A row of strings that stands behind B. -/
def RowS (B n c : Nat) (xs : List (List UInt8)) (w : World) (v : Value) : Prop :=
  ∃ t, v = .slice (some ⟨t, 0, none⟩) n c ∧ B ≤ t ∧ t < w.heap.size ∧ ∀ (j : Nat) (x : List UInt8), xs[j]? = some x → w.cell? ⟨t, j, none⟩ = some (.string ⟨x.toArray⟩)
theorem RowS.grew {B n c : Nat} {xs : List (List UInt8)} {w w' : World} {v : Value} (h : RowS B n c xs w v) (g : Grew w w') : RowS B n c xs w' v := by
  obtain ⟨t, h1, h2, h3, h4⟩ := h
  exact ⟨t, h1, h2, Nat.lt_of_lt_of_le h3 g.size, fun j x hx => gk g (h4 j x hx)⟩
section
variable {P : Program} {ops : Array Oper} {Q : Exit → Act → World → Prop} {a0 : Act} {wo : World} {l : List Pg} {i : Nat} {o : Oper}
/-- What an operation may lean on. -/
structure GAt (ops : Array Oper) (a0 : Act) (wo : World) (l : List Pg) (o : Oper) (a : Act) (W : World) : Prop where
  grew : Grew wo W
  fr : ∀ d, (∀ i, dstOf ops i ≠ some d) → a.eval (.tmp d) = a0.eval (.tmp d)
  dep : ∀ e, e ∈ o.after.toList → Region.binds .any e = true → ∀ d, dstOf ops e.on = some d → Gof l e.on W (a.eval (.tmp d))
theorem GAt.slot {a : Act} {W : World} (h : GAt ops a0 wo l o a W) (d : Tmp) (hd : hasNoT ops d = true := by kernel_rfl) : a.eval (.tmp d) = a0.eval (.tmp d) := h.fr d (hasNoT_spec hd)
def depW (ops : Array Oper) (o : Oper) (k : Nat) (d : Tmp) : Bool := (o.after.any fun e => e.on == k && Region.binds .any e) && dstOf ops k == some d
theorem GAt.vb {a : Act} {W : World} (h : GAt ops a0 wo l o a W) (k : Nat) (d : Tmp) (hd : depW ops o k d = true := by kernel_rfl) : Gof l k W (a.eval (.tmp d)) := by
  simp only [depW, Bool.and_eq_true, Array.any_eq_true', beq_iff_eq] at hd
  obtain ⟨⟨e, he, rfl, hb⟩, hk⟩ := hd
  exact h.dep e (by simpa using he) hb d hk
def WStep (P : Program) (ops : Array Oper) (Q : Exit → Act → World → Prop) (a0 : Act) (wo : World) (l : List Pg) (i : Nat) (o : Oper) : Prop :=
  ∀ (a : Act) (W : World), GAt ops a0 wo l o a W → o.wp P a W (fun a' w' => ∃ v, a' = a.put o.dst v ∧ Gof l i w' v ∧ Grew W w') Q
theorem region_w {id : Nat} (n : Nat) (l : List Pg) (hm : P.follows .mixedOrders = true) (hn : a0.tmps.size = n) (hB : regB ops n = true) (hstep : AllSteps (WStep P ops Q a0 wo l) 0 ops.toList)
    (hend : ∀ (vs : Nat → Value) (w' : World), Grew wo w' → (∀ i d, dstOf ops i = some d → Gof l i w' (vs i)) → Q .normal (putAll ops.toList vs 0 a0) w') : (Code.region id ops true).wp P Q a0 wo := by
  subst hn
  refine wp_region_inv (fun _ W => Grew wo W) (Gof l) hm hB (grew_d (Below.refl _ _)) (fun i o ho => ?_) (fun vs w' h hR => hend vs w' (by obtain ⟨L, h1, _⟩ := h; exact h1) hR)
  have hs := allSteps_get _ _ hstep i o (by simpa using ho)
  rw [Nat.zero_add] at hs
  intro L a w1 hL hi hf _ hI hfr hd
  refine Oper.wp_mono ?_ (hs a w1 ⟨hI, hfr, fun e he hb => (hd e he hb).2⟩)
  rintro a' w' ⟨v, h1, h2, h3⟩
  exact ⟨v, h1, h2, grew_tr hI h3, fun j u _ hu => (l.getD j pgT).st _ _ _ h3 hu⟩
theorem w_ex (h : ∀ (a : Act) (W : World), GAt ops a0 wo l o a W → ∃ v W', (execOp a.eval o).run P W = .ok (.value v) W' ∧ (l.getD i pgT).p W' v ∧ Grew W W') : WStep P ops Q a0 wo l i o := by
  intro a W ha
  obtain ⟨v, W', h1, h2, h3⟩ := h a W ha
  unfold Oper.wp
  rw [h1]
  exact ⟨v, rfl, h2, h3⟩
theorem w_vx {v : Value} (hv : l.getD i pgT = pgV v) (h : ∀ (a : Act) (W : World), GAt ops a0 wo l o a W → (execOp a.eval o).run P W = .ok (.value v) W) : WStep P ops Q a0 wo l i o :=
  w_ex fun a W ha => ⟨v, W, h a W ha, by rw [hv]; exact rfl, Below.refl _ _⟩
theorem w_callX {f : FuncId} {vals : Array Value} (h : ∀ (a : Act) (W : World), GAt ops a0 wo l o a W → (execOp a.eval o).run P W = .ok (.enter f vals) W)
    (C : ∀ W, Grew wo W → Calls P f vals W fun e w' => ∃ v, e = .returned v ∧ (l.getD i pgT).p w' v ∧ Grew W w') : WStep P ops Q a0 wo l i o := by
  intro a W ha
  unfold Oper.wp
  rw [h a W ha]
  refine Calls.mono (C W ha.grew) ?_
  rintro e w' ⟨v, rfl, h2, h3⟩
  exact ⟨v, rfl, h2, h3⟩
end
end Go.Proofs.YtdddhnepanjmfaaGreat
