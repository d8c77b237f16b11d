/- Lemmas and walks of this proof, some texts one behind the other. No condition. -/
import Derived.Test.YtdddhnepanjmfaaGreatRgw
import Derived.Test.YtdddhnepanjmfaaGreatBlk
set_option linter.unusedSimpArgs false
set_option linter.unusedVariables false
/- A rule for regions that draw their order, with a memory, and with slots that are read before they are written. No condition. -/
namespace Go.Proofs.YtdddhnepanjmfaaGreat
open Go.RowKit
set_option linter.unusedVariables false
set_option linter.unusedSimpArgs false
attribute [local go_sem] ext_cell ext_frozen ext_lt ext_le ext_le1 lt_s2 lt_s3 lt_s4 lt_s5 lt_s6 ext_lt1 ext_lt2 ext_lt3

/-- As RegSt; a slot is as it was as long as no listed operation writes it. -/
structure RegStH (ops : Array Oper) (a0 : Act) (I : Array Bool → World → Prop) (R : Nat → World → Value → Prop) (L : Array Bool) (a : Act) (w : World) : Prop where
  inv : I L w
  size : L.size = ops.size
  asz : a.tmps.size = a0.tmps.size
  defs : a.defers = a0.defers
  frame : ∀ d, (∀ i, L.getD i false = true → dstOf ops i ≠ some d) → a.tmps.getD d undef = a0.tmps.getD d undef
  slots : ∀ i d, L.getD i false = true → dstOf ops i = some d → R i w (a.tmps.getD d undef)
  clo : Clo ops L
section
variable {P : Program} {ops : Array Oper} {Q : Exit → Act → World → Prop} {a0 : Act} {I : (Nat → Nat) → Array Bool → World → Prop} {R : (Nat → Nat) → Nat → World → Value → Prop}
/-- One operation, alone. -/
def StepH (P : Program) (ops : Array Oper) (Q : Exit → Act → World → Prop) (a0 : Act) (I : (Nat → Nat) → Array Bool → World → Prop) (R : (Nat → Nat) → Nat → World → Value → Prop) (i : Nat) (o : Oper) : Prop :=
  ∀ (gm : Nat → Nat) (L : Array Bool) (a : Act) (w : World), L.size = ops.size → i < ops.size → L.getD i true = false → Clo ops L → I gm L w → (∀ d, (∀ i, L.getD i false = true → dstOf ops i ≠ some d) → a.eval (.tmp d) = a0.eval (.tmp d)) →
    (∀ e, e ∈ o.after.toList → Region.binds .any e = true → L.getD e.on false = true ∧ ∀ d, dstOf ops e.on = some d → R gm e.on w (a.eval (.tmp d))) →
    o.wp P a w (fun a' w' => ∃ v gm', a' = a.put o.dst v ∧ R gm' i w' v ∧ I gm' (L.setIfInBounds i true) w' ∧ ∀ j u, j ≠ i → L.getD j false = true → R gm j w u → R gm' j w' u) Q

theorem wpAny_regH (hB : regB ops a0.tmps.size = true) (hstep : ∀ i o, ops[i]? = some o → StepH P ops Q a0 I R i o)
    (hend : ∀ a w, (∀ gm L, RegStH ops a0 (I gm) (R gm) L a w → (∀ i, i < ops.size → L.getD i false = true) → Q .normal a w)) :
    ∀ (fuel : Nat) (gm : Nat → Nat) (L : Array Bool) (a : Act) (w : World), RegStH ops a0 (I gm) (R gm) L a w → L.toList.countP (fun b => !b) ≤ fuel → wpAny P .any ops Q fuel L a w := by
  have hall : ∀ L : Array Bool, L.size = ops.size → Region.ready .any ops L = [] → ∀ i, i < ops.size → L.getD i false = true := by
    intro L hL hr i
    induction i using Nat.strongRecOn with
    | _ i ih =>
      intro hi
      by_cases hl : L.getD i true = true
      · simp only [Array.getD_eq_getD_getElem?] at hl ⊢
        rw [Array.getElem?_eq_getElem (by omega)] at hl ⊢
        exact hl
      · exfalso
        have ho : ops[i]? = some ops[i] := Array.getElem?_eq_getElem hi
        have hmem : i ∈ Region.ready .any ops L := by
          unfold Region.ready
          rw [List.mem_filter]
          refine ⟨List.mem_range.2 hi, ?_⟩
          rw [ho]
          simp only [Option.map_some, Option.getD_some, Bool.and_eq_true]
          refine ⟨by simpa using hl, ?_⟩
          rw [Array.all_eq_true']
          intro e he
          cases hb : Region.binds .any e
          · simp
          have hlt := (regB_op hB ho).2.1 e (by simpa using he) hb
          rw [ih e.on hlt (by omega)]
          simp
        rw [hr] at hmem
        cases hmem
  intro fuel
  induction fuel with
  | zero =>
    intro gm L a w hS hc
    have hl : ∀ i, i < ops.size → L.getD i false = true := by
      intro i hi
      have h0 : L.toList.countP (fun b => !b) = 0 := by omega
      rw [List.countP_eq_zero] at h0
      have hi' : i < L.size := by rw [hS.size]; exact hi
      have := h0 L[i] (by simp)
      simp only [Array.getD_eq_getD_getElem?, Array.getElem?_eq_getElem hi', Option.getD_some]
      simpa using this
    refine ⟨?_, hend a w gm L hS hl⟩
    unfold Region.ready
    rw [List.filter_eq_nil_iff]
    intro i hi
    have := hl i (List.mem_range.1 hi)
    have hi' : i < L.size := by rw [hS.size]; exact List.mem_range.1 hi
    simp only [Array.getD_eq_getD_getElem?, Array.getElem?_eq_getElem hi', Option.getD_some] at this ⊢
    simp [this]
  | succ fuel ih =>
    intro gm L a w hS hc
    refine ⟨fun hr => hend a w gm L hS (hall L hS.size hr), fun i hi => ?_⟩
    unfold Region.ready at hi
    rw [List.mem_filter] at hi
    obtain ⟨hi1, hi2⟩ := hi
    have hi1 := List.mem_range.1 hi1
    have ho : ops[i]? = some ops[i] := Array.getElem?_eq_getElem hi1
    rw [ho] at hi2
    simp only [Option.map_some, Option.getD_some, Bool.and_eq_true, Bool.not_eq_true', Array.all_eq_true'] at hi2
    obtain ⟨hf, haf⟩ := hi2
    have hiL : i < L.size := by rw [hS.size]; exact hi1
    have hLi : L[i] = false := by simpa only [Array.getD_eq_getD_getElem?, Array.getElem?_eq_getElem hiL, Option.getD_some] using hf
    obtain ⟨hgd, hon, hdr⟩ := regB_op hB ho
    have hst := hstep i _ ho gm L a w hS.size hi1 hf hS.clo hS.inv (fun d hd => hS.frame d hd) (fun e he hb => have hl : L.getD e.on false = true := (by
      have := haf e (by simpa using he)
      rw [hb] at this
      simpa using this); ⟨hl, fun d hd => hS.slots e.on d hl hd⟩)
    unfold wpOp
    rw [ho]
    simp only
    rw [if_pos (by simp [Region.wanted, hgd])]
    left
    refine Oper.wp_mono (fun a' w' h => ?_) hst
    obtain ⟨v, gm', rfl, hv, hI, hm⟩ := h
    have hmono0 : ∀ m, L.getD m false = true → (L.setIfInBounds i true).getD m false = true := fun m hm => by
      by_cases him : i = m
      · subst him
        simp [Array.getD_eq_getD_getElem?, hiL]
      · simp only [Array.getD_eq_getD_getElem?, Array.getElem?_setIfInBounds, if_neg him] at hm ⊢
        exact hm
    apply ih
    · refine ⟨hI, by simp [hS.size], by rw [put_size, hS.asz], by rw [put_defers, hS.defs], fun d hd => ?_, fun j d hj hd => ?_, fun j oj e hoj hj he hb => ?_⟩
      · cases hdo : ops[i].dst with
        | none => exact hS.frame d (fun j hj => hd j (hmono0 j hj))
        | some d' =>
          rw [put_getD _ _ _ _ (by rw [hS.asz]; exact hdr d' hdo), if_neg (fun e => hd i (by simp [Array.getD_eq_getD_getElem?, hiL]) (by simp [dstOf, ho, hdo, e]))]
          exact hS.frame d (fun j hj => hd j (hmono0 j hj))
      · by_cases hij : i = j
        · subst hij
          have hdo : ops[i].dst = some d := by simpa [dstOf, ho] using hd
          rw [hdo, put_getD _ _ _ _ (by rw [hS.asz]; exact hdr d hdo), if_pos rfl]
          exact hv
        · have hj' : L.getD j false = true := by
            simp only [Array.getD_eq_getD_getElem?, Array.getElem?_setIfInBounds] at hj ⊢
            rwa [if_neg hij] at hj
          have hb := hS.slots j d hj' hd
          cases hdo : ops[i].dst with
          | none => exact hm j _ (Ne.symm hij) hj' hb
          | some d' =>
            have hne : d' ≠ d := fun e => regB_ne hB hd (Ne.symm hij) (by simp [dstOf, ho, hdo, e])
            rw [put_getD _ _ _ _ (by rw [hS.asz]; exact hdr d' hdo), if_neg hne]
            exact hm j _ (Ne.symm hij) hj' hb
      · have hmono : ∀ m, L.getD m false = true → (L.setIfInBounds i true).getD m false = true := fun m hm => by
          by_cases him : i = m
          · subst him
            simp [Array.getD_eq_getD_getElem?, hiL]
          · simp only [Array.getD_eq_getD_getElem?, Array.getElem?_setIfInBounds, if_neg him] at hm ⊢
            exact hm
        by_cases hij : i = j
        · subst hij
          rw [ho, Option.some.injEq] at hoj
          subst hoj
          have := haf e (by simpa using he)
          rw [hb] at this
          exact hmono _ (by simpa using this)
        · have hj' : L.getD j false = true := by
            simp only [Array.getD_eq_getD_getElem?, Array.getElem?_setIfInBounds, if_neg hij] at hj ⊢
            exact hj
          exact hmono _ (hS.clo j oj e hoj hj' he hb)
    · rw [Array.toList_setIfInBounds, List.countP_set (by simpa using hiL)]
      have : 0 < L.toList.countP (fun b => !b) := by
        rw [List.countP_pos_iff]
        exact ⟨L[i], by simp, by rw [hLi]; rfl⟩
      have e1 : (!L.toList[i]'(by simpa using hiL)) = true := by rw [Array.getElem_toList, hLi]; rfl
      rw [if_pos e1]
      have e2 : (if (!true) = true then 1 else 0) = 0 := rfl
      rw [e2]
      omega

/-- A region that draws its order, by its operations alone: behind it each slot has its property. -/
theorem wp_region_hh {id : Nat} {w : World} (I : (Nat → Nat) → Array Bool → World → Prop) (R : (Nat → Nat) → Nat → World → Value → Prop) (gm0 : Nat → Nat) (hm : P.follows .mixedOrders = true) (hB : regB ops a0.tmps.size = true) (hI : I gm0 (Array.replicate ops.size false) { w with drawn := w.drawn + 1 })
    (hstep : ∀ i o, ops[i]? = some o → StepH P ops Q a0 I R i o)
    (hend : ∀ (gm : Nat → Nat) (vs : Nat → Value) (w' : World), (∃ L : Array Bool, I gm L w' ∧ ∀ i, i < ops.size → L.getD i false = true) → (∀ i d, dstOf ops i = some d → R gm i w' (vs i)) → Q .normal (putAll ops.toList vs 0 a0) w') : (Code.region id ops true).wp P Q a0 w := by
  refine wp_region_any hm (wpAny_regH hB hstep ?_ _ gm0 _ _ _ ⟨hI, by simp, rfl, rfl, fun d _ => rfl, fun i d hi hd => ?_, fun i o e _ hi _ _ => ?_⟩ ?_)
  · intro a w' gm L hS hl
    have hI' := hS.inv
    have hR : ∀ i d, dstOf ops i = some d → R gm i w' (a.tmps.getD d undef) := fun i d hd => hS.slots i d (hl i (by
      rcases Nat.lt_or_ge i ops.size with h | h
      · exact h
      · simp [dstOf, Array.getElem?_eq_none h] at hd)) hd
    have heq : a = putAll ops.toList (fun i => match dstOf ops i with | some d => a.tmps.getD d undef | none => undef) 0 a0 := by
      have hpa := putAll_getD (fun i => match dstOf ops i with | some d => a.tmps.getD d undef | none => undef) (fun d => a.tmps.getD d undef) ops.toList 0 a0 (fun i o d h1 h2 => by
        have ho : ops[i]? = some o := by simpa using h1
        refine ⟨(regB_op hB ho).2.2 d h2, ?_⟩
        have : dstOf ops i = some d := by simp [dstOf, ho, h2]
        rw [Nat.zero_add]
        simp only [this])
      have hsz := putAll_size (fun i => match dstOf ops i with | some d => a.tmps.getD d undef | none => undef) ops.toList 0 a0
      have hdf := putAll_defers (fun i => match dstOf ops i with | some d => a.tmps.getD d undef | none => undef) ops.toList 0 a0
      generalize putAll ops.toList (fun i => match dstOf ops i with | some d => a.tmps.getD d undef | none => undef) 0 a0 = b at *
      have ht : a.tmps = b.tmps := by
        apply Array.ext
        · rw [hS.asz, hsz]
        · intro t h1 h2
          have e1 : a.tmps[t] = a.tmps.getD t undef := by simp [Array.getD_eq_getD_getElem?, Array.getElem?_eq_getElem h1]
          have e2 : b.tmps[t] = b.tmps.getD t undef := by simp [Array.getD_eq_getD_getElem?, Array.getElem?_eq_getElem h2]
          rw [e1, e2]
          rcases hpa t with ⟨_, h3⟩ | ⟨h3, h4⟩
          · exact h3.symm
          · rw [h4]
            exact hS.frame t (fun i _ hi => by
              cases ho : ops[i]? with
              | none => simp [dstOf, ho] at hi
              | some o => exact h3 i o (by simpa using ho) (by simpa [dstOf, ho] using hi))
      cases a
      cases b
      simp only at ht hdf
      have := hS.defs
      simp only at this
      rw [ht, this, hdf]
    rw [heq]
    refine hend gm _ w' ⟨L, hI', hl⟩ (fun i d hd => ?_)
    have := hR i d hd
    simp only [hd]
    exact this
  · simp only [Array.getD_eq_getD_getElem?, Array.getElem?_replicate] at hi
    split at hi <;> simp at hi
  · simp only [Array.getD_eq_getD_getElem?, Array.getElem?_replicate] at hi
    split at hi <;> simp at hi
  · simp only [Array.toList_replicate]
    exact Nat.le_trans (List.countP_le_length) (by simp)
end
end Go.Proofs.YtdddhnepanjmfaaGreat

/- Drawn regions that end in a store: each operation alone, the store last. No condition. -/
namespace Go.Proofs.YtdddhnepanjmfaaGreat
open Go.RowKit
set_option linter.unusedVariables false
set_option linter.unusedSimpArgs false
attribute [local go_sem] ext_cell ext_frozen ext_lt ext_le ext_le1 lt_s2 lt_s3 lt_s4 lt_s5 lt_s6 ext_lt1 ext_lt2 ext_lt3

def predW (ops : Array Oper) (i : Nat) : List Nat := ((ops[i]?).map fun o => (o.after.toList.filter fun e => Region.binds .any e).map (·.on)).getD []
def ancLs (ops : Array Oper) : Nat → List Nat → List Nat
  | 0, l => l
  | f + 1, l => ancLs ops f (l ++ l.flatMap (predW ops)).eraseDups
def ancW (ops : Array Oper) (m f : Nat) : Bool := (List.range m).all fun i => (ancLs ops f [m]).contains i
theorem ancLs_listed {ops : Array Oper} {L : Array Bool} (hc : Clo ops L) : ∀ (f : Nat) (l : List Nat), (∀ i, i ∈ l → L.getD i false = true) → ∀ i, i ∈ ancLs ops f l → L.getD i false = true
  | 0, l, h, i, hi => h i hi
  | f + 1, l, h, i, hi => by
    refine ancLs_listed hc f _ (fun j hj => ?_) i hi
    rw [List.mem_eraseDups, List.mem_append] at hj
    rcases hj with hj | hj
    · exact h j hj
    · rw [List.mem_flatMap] at hj
      obtain ⟨k, hk, hj⟩ := hj
      unfold predW at hj
      cases ho : ops[k]? with
      | none => rw [ho] at hj; simp at hj
      | some o =>
        rw [ho] at hj
        simp only [Option.map_some, Option.getD_some, List.mem_map, List.mem_filter] at hj
        obtain ⟨e, ⟨he, hb⟩, rfl⟩ := hj
        exact hc k o e ho (h k hk) he hb
theorem ancW_spec {ops : Array Oper} {m f : Nat} (h : ancW ops m f = true) {L : Array Bool} (hc : Clo ops L) (hm : L.getD m false = true) {i : Nat} (hi : i < m) : L.getD i false = true := by
  simp only [ancW, List.all_eq_true, List.mem_range, List.contains_iff_mem] at h
  exact ancLs_listed hc f [m] (fun j hj => by rw [List.mem_singleton.1 hj]; exact hm) i (h i hi)
theorem not_listed {L : Array Bool} {i : Nat} (h : L.getD i true = false) : L.getD i false = false := getD_ff h
section
variable {P : Program} {ops : Array Oper} {Q : Exit → Act → World → Prop} {a0 : Act} {wo : World} {l : List Pg}
theorem region_wS {id : Nat} (n m f : Nat) (l : List Pg) (J : World → Prop) (hm : P.follows .mixedOrders = true) (hn : a0.tmps.size = n) (hB : regB ops n = true) (hsz : ops.size = m + 1) (ha : ancW ops m f = true)
    (hstep : AllSteps (WStep P ops Q a0 wo l) 0 (ops.toList.take m))
    (hA : ∀ o, ops[m]? = some o → ∀ (a : Act) (W : World), GAt ops a0 wo l o a W → o.wp P a W (fun a' w' => ∃ v, a' = a.put o.dst v ∧ J w') Q)
    (hend : ∀ (vs : Nat → Value) (w' : World), J w' → Q .normal (putAll ops.toList vs 0 a0) w') : (Code.region id ops true).wp P Q a0 wo := by
  subst hn
  refine wp_region_hh (fun gm L W => (L.getD m false = false → Grew wo W ∧ gm 0 = 0) ∧ (L.getD m false = true → J W)) (fun gm j W u => gm 0 = 0 → Gof l j W u) (fun _ => 0) hm hB ⟨fun _ => ⟨grew_d (Below.refl _ _), rfl⟩, fun h => ?_⟩ ?_ ?_
  · rw [getD_rep] at h; cases h
  · intro i o ho gm L a w hL hi hf hclo hI hfr hdp
    have hno := not_listed hf
    rcases Nat.lt_or_ge i m with him | him
    · have hmf : L.getD m false = false := by
        cases h : L.getD m false
        · rfl
        · rw [ancW_spec ha hclo h him] at hno; cases hno
      have hs := allSteps_get _ _ hstep i o (by rw [List.getElem?_take_of_lt him]; simpa using ho)
      rw [Nat.zero_add] at hs
      obtain ⟨hG, h0⟩ := hI.1 hmf
      refine Oper.wp_mono ?_ (hs a w ⟨hG, fun d hd => hfr d (fun j _ => hd j), fun e he hb d hd => (hdp e he hb).2 d hd h0⟩)
      rintro a' w' ⟨v, h1, h2, h3⟩
      refine ⟨v, gm, h1, fun _ => h2, ⟨fun _ => ⟨grew_tr hG h3, h0⟩, fun h => ?_⟩, fun j u _ _ hu h => (l.getD j pgT).st _ _ _ h3 (hu h)⟩
      rw [getD_set (by omega), hmf] at h
      cases h
    · obtain rfl : i = m := by omega
      obtain ⟨hG, h0⟩ := hI.1 hno
      refine Oper.wp_mono ?_ (hA o ho a w ⟨hG, fun d hd => hfr d (fun j _ => hd j), fun e he hb d hd => (hdp e he hb).2 d hd h0⟩)
      rintro a' w' ⟨v, h1, h2⟩
      refine ⟨v, fun _ => 1, h1, fun h => absurd h (by decide), ⟨fun h => ?_, fun _ => h2⟩, fun j u hj hLj hu h => absurd h (by decide)⟩
      rw [getD_set1 (by omega)] at h; cases h
  · rintro gm vs w' ⟨L, hI, hall⟩ hR
    exact hend vs w' (hI.2 (hall m (by omega)))
end
end Go.Proofs.YtdddhnepanjmfaaGreat
