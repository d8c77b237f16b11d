/- A rule for regions that draw their order, with a memory of which blocks were made. No condition. -/
import Derived.Test.YtdddhnepanjmfaaGreatRgw
import Derived.Test.YtdddhnepanjmfaaGreatBlk
namespace Go.Proofs.YtdddhnepanjmfaaGreat
open Go.RowKit
set_option linter.unusedVariables false
set_option linter.unusedSimpArgs false
attribute [local go_sem] ext_cell ext_frozen ext_lt ext_le ext_le1 lt_s2 lt_s3 lt_s4 lt_s5 lt_s6 ext_lt1 ext_lt2 ext_lt3

section
variable {P : Program} {ops : Array Oper} {Q : Exit → Act → World → Prop} {a0 : Act} {I : (Nat → Nat) → Array Bool → World → Prop} {R : (Nat → Nat) → Nat → World → Value → Prop}
/-- One operation, alone. -/
def StepG (P : Program) (ops : Array Oper) (Q : Exit → Act → World → Prop) (a0 : Act) (I : (Nat → Nat) → Array Bool → World → Prop) (R : (Nat → Nat) → Nat → World → Value → Prop) (i : Nat) (o : Oper) : Prop :=
  ∀ (gm : Nat → Nat) (L : Array Bool) (a : Act) (w : World), L.size = ops.size → i < ops.size → L.getD i true = false → Clo ops L → I gm L w → (∀ d, (∀ i, dstOf ops i ≠ some d) → a.eval (.tmp d) = a0.eval (.tmp d)) →
    (∀ e, e ∈ o.after.toList → Region.binds .any e = true → L.getD e.on false = true ∧ ∀ d, dstOf ops e.on = some d → R gm e.on w (a.eval (.tmp d))) →
    o.wp P a w (fun a' w' => ∃ v gm', a' = a.put o.dst v ∧ R gm' i w' v ∧ I gm' (L.setIfInBounds i true) w' ∧ ∀ j u, j ≠ i → L.getD j false = true → R gm j w u → R gm' j w' u) Q

theorem wpAny_regG (hB : regB ops a0.tmps.size = true) (hstep : ∀ i o, ops[i]? = some o → StepG P ops Q a0 I R i o)
    (hend : ∀ a w, (∀ gm L, RegSt ops a0 (I gm) (R gm) L a w → (∀ i, i < ops.size → L.getD i false = true) → Q .normal a w)) :
    ∀ (fuel : Nat) (gm : Nat → Nat) (L : Array Bool) (a : Act) (w : World), RegSt ops a0 (I gm) (R gm) L a w → L.toList.countP (fun b => !b) ≤ fuel → wpAny P .any ops Q fuel L a w := by
  have hall : ∀ L : Array Bool, L.size = ops.size → Region.ready .any ops L = [] → ∀ i, i < ops.size → L.getD i false = true := by
    intro L hL hr i
    induction i using Nat.strongRecOn with
    | _ i ih =>
      intro hi
      by_cases hl : L.getD i true = true
      · simp only [Array.getD_eq_getD_getElem?] at hl ⊢
        rw [Array.getElem?_eq_getElem (by omega)] at hl ⊢
        exact hl
      · exfalso
        have ho : ops[i]? = some ops[i] := Array.getElem?_eq_getElem hi
        have hmem : i ∈ Region.ready .any ops L := by
          unfold Region.ready
          rw [List.mem_filter]
          refine ⟨List.mem_range.2 hi, ?_⟩
          rw [ho]
          simp only [Option.map_some, Option.getD_some, Bool.and_eq_true]
          refine ⟨by simpa using hl, ?_⟩
          rw [Array.all_eq_true']
          intro e he
          cases hb : Region.binds .any e
          · simp
          have hlt := (regB_op hB ho).2.1 e (by simpa using he) hb
          rw [ih e.on hlt (by omega)]
          simp
        rw [hr] at hmem
        cases hmem
  intro fuel
  induction fuel with
  | zero =>
    intro gm L a w hS hc
    have hl : ∀ i, i < ops.size → L.getD i false = true := by
      intro i hi
      have h0 : L.toList.countP (fun b => !b) = 0 := by omega
      rw [List.countP_eq_zero] at h0
      have hi' : i < L.size := by rw [hS.size]; exact hi
      have := h0 L[i] (by simp)
      simp only [Array.getD_eq_getD_getElem?, Array.getElem?_eq_getElem hi', Option.getD_some]
      simpa using this
    refine ⟨?_, hend a w gm L hS hl⟩
    unfold Region.ready
    rw [List.filter_eq_nil_iff]
    intro i hi
    have := hl i (List.mem_range.1 hi)
    have hi' : i < L.size := by rw [hS.size]; exact List.mem_range.1 hi
    simp only [Array.getD_eq_getD_getElem?, Array.getElem?_eq_getElem hi', Option.getD_some] at this ⊢
    simp [this]
  | succ fuel ih =>
    intro gm L a w hS hc
    refine ⟨fun hr => hend a w gm L hS (hall L hS.size hr), fun i hi => ?_⟩
    unfold Region.ready at hi
    rw [List.mem_filter] at hi
    obtain ⟨hi1, hi2⟩ := hi
    have hi1 := List.mem_range.1 hi1
    have ho : ops[i]? = some ops[i] := Array.getElem?_eq_getElem hi1
    rw [ho] at hi2
    simp only [Option.map_some, Option.getD_some, Bool.and_eq_true, Bool.not_eq_true', Array.all_eq_true'] at hi2
    obtain ⟨hf, haf⟩ := hi2
    have hiL : i < L.size := by rw [hS.size]; exact hi1
    have hLi : L[i] = false := by simpa only [Array.getD_eq_getD_getElem?, Array.getElem?_eq_getElem hiL, Option.getD_some] using hf
    obtain ⟨hgd, hon, hdr⟩ := regB_op hB ho
    have hst := hstep i _ ho gm L a w hS.size hi1 hf hS.clo hS.inv (fun d hd => hS.frame d hd) (fun e he hb => have hl : L.getD e.on false = true := (by
      have := haf e (by simpa using he)
      rw [hb] at this
      simpa using this); ⟨hl, fun d hd => hS.slots e.on d hl hd⟩)
    unfold wpOp
    rw [ho]
    simp only
    rw [if_pos (by simp [Region.wanted, hgd])]
    left
    refine Oper.wp_mono (fun a' w' h => ?_) hst
    obtain ⟨v, gm', rfl, hv, hI, hm⟩ := h
    apply ih
    · refine ⟨hI, by simp [hS.size], by rw [put_size, hS.asz], by rw [put_defers, hS.defs], fun d hd => ?_, fun j d hj hd => ?_, fun j oj e hoj hj he hb => ?_⟩
      · cases hdo : ops[i].dst with
        | none => exact hS.frame d hd
        | some d' =>
          rw [put_getD _ _ _ _ (by rw [hS.asz]; exact hdr d' hdo), if_neg (fun e => hd i (by simp [dstOf, ho, hdo, e]))]
          exact hS.frame d hd
      · by_cases hij : i = j
        · subst hij
          have hdo : ops[i].dst = some d := by simpa [dstOf, ho] using hd
          rw [hdo, put_getD _ _ _ _ (by rw [hS.asz]; exact hdr d hdo), if_pos rfl]
          exact hv
        · have hj' : L.getD j false = true := by
            simp only [Array.getD_eq_getD_getElem?, Array.getElem?_setIfInBounds] at hj ⊢
            rwa [if_neg hij] at hj
          have hb := hS.slots j d hj' hd
          cases hdo : ops[i].dst with
          | none => exact hm j _ (Ne.symm hij) hj' hb
          | some d' =>
            have hne : d' ≠ d := fun e => regB_ne hB hd (Ne.symm hij) (by simp [dstOf, ho, hdo, e])
            rw [put_getD _ _ _ _ (by rw [hS.asz]; exact hdr d' hdo), if_neg hne]
            exact hm j _ (Ne.symm hij) hj' hb
      · have hmono : ∀ m, L.getD m false = true → (L.setIfInBounds i true).getD m false = true := fun m hm => by
          by_cases him : i = m
          · subst him
            simp [Array.getD_eq_getD_getElem?, hiL]
          · simp only [Array.getD_eq_getD_getElem?, Array.getElem?_setIfInBounds, if_neg him] at hm ⊢
            exact hm
        by_cases hij : i = j
        · subst hij
          rw [ho, Option.some.injEq] at hoj
          subst hoj
          have := haf e (by simpa using he)
          rw [hb] at this
          exact hmono _ (by simpa using this)
        · have hj' : L.getD j false = true := by
            simp only [Array.getD_eq_getD_getElem?, Array.getElem?_setIfInBounds, if_neg hij] at hj ⊢
            exact hj
          exact hmono _ (hS.clo j oj e hoj hj' he hb)
    · rw [Array.toList_setIfInBounds, List.countP_set (by simpa using hiL)]
      have : 0 < L.toList.countP (fun b => !b) := by
        rw [List.countP_pos_iff]
        exact ⟨L[i], by simp, by rw [hLi]; rfl⟩
      have e1 : (!L.toList[i]'(by simpa using hiL)) = true := by rw [Array.getElem_toList, hLi]; rfl
      rw [if_pos e1]
      have e2 : (if (!true) = true then 1 else 0) = 0 := rfl
      rw [e2]
      omega

/-- A region that draws its order, by its operations alone: behind it each slot has its property. -/
theorem wp_region_gh {id : Nat} {w : World} (I : (Nat → Nat) → Array Bool → World → Prop) (R : (Nat → Nat) → Nat → World → Value → Prop) (gm0 : Nat → Nat) (hm : P.follows .mixedOrders = true) (hB : regB ops a0.tmps.size = true) (hI : I gm0 (Array.replicate ops.size false) { w with drawn := w.drawn + 1 })
    (hstep : ∀ i o, ops[i]? = some o → StepG P ops Q a0 I R i o)
    (hend : ∀ (gm : Nat → Nat) (vs : Nat → Value) (w' : World), (∃ L : Array Bool, I gm L w' ∧ ∀ i, i < ops.size → L.getD i false = true) → (∀ i d, dstOf ops i = some d → R gm i w' (vs i)) → Q .normal (putAll ops.toList vs 0 a0) w') : (Code.region id ops true).wp P Q a0 w := by
  refine wp_region_any hm (wpAny_regG hB hstep ?_ _ gm0 _ _ _ ⟨hI, by simp, rfl, rfl, fun d _ => rfl, fun i d hi hd => ?_, fun i o e _ hi _ _ => ?_⟩ ?_)
  · intro a w' gm L hS hl
    have hI' := hS.inv
    have hR : ∀ i d, dstOf ops i = some d → R gm i w' (a.tmps.getD d undef) := fun i d hd => hS.slots i d (hl i (by
      rcases Nat.lt_or_ge i ops.size with h | h
      · exact h
      · simp [dstOf, Array.getElem?_eq_none h] at hd)) hd
    have heq : a = putAll ops.toList (fun i => match dstOf ops i with | some d => a.tmps.getD d undef | none => undef) 0 a0 := by
      have hpa := putAll_getD (fun i => match dstOf ops i with | some d => a.tmps.getD d undef | none => undef) (fun d => a.tmps.getD d undef) ops.toList 0 a0 (fun i o d h1 h2 => by
        have ho : ops[i]? = some o := by simpa using h1
        refine ⟨(regB_op hB ho).2.2 d h2, ?_⟩
        have : dstOf ops i = some d := by simp [dstOf, ho, h2]
        rw [Nat.zero_add]
        simp only [this])
      have hsz := putAll_size (fun i => match dstOf ops i with | some d => a.tmps.getD d undef | none => undef) ops.toList 0 a0
      have hdf := putAll_defers (fun i => match dstOf ops i with | some d => a.tmps.getD d undef | none => undef) ops.toList 0 a0
      generalize putAll ops.toList (fun i => match dstOf ops i with | some d => a.tmps.getD d undef | none => undef) 0 a0 = b at *
      have ht : a.tmps = b.tmps := by
        apply Array.ext
        · rw [hS.asz, hsz]
        · intro t h1 h2
          have e1 : a.tmps[t] = a.tmps.getD t undef := by simp [Array.getD_eq_getD_getElem?, Array.getElem?_eq_getElem h1]
          have e2 : b.tmps[t] = b.tmps.getD t undef := by simp [Array.getD_eq_getD_getElem?, Array.getElem?_eq_getElem h2]
          rw [e1, e2]
          rcases hpa t with ⟨_, h3⟩ | ⟨h3, h4⟩
          · exact h3.symm
          · rw [h4]
            exact hS.frame t (fun i hi => by
              cases ho : ops[i]? with
              | none => simp [dstOf, ho] at hi
              | some o => exact h3 i o (by simpa using ho) (by simpa [dstOf, ho] using hi))
      cases a
      cases b
      simp only at ht hdf
      have := hS.defs
      simp only at this
      rw [ht, this, hdf]
    rw [heq]
    refine hend gm _ w' ⟨L, hI', hl⟩ (fun i d hd => ?_)
    have := hR i d hd
    simp only [hd]
    exact this
  · simp only [Array.getD_eq_getD_getElem?, Array.getElem?_replicate] at hi
    split at hi <;> simp at hi
  · simp only [Array.getD_eq_getD_getElem?, Array.getElem?_replicate] at hi
    split at hi <;> simp at hi
  · simp only [Array.toList_replicate]
    exact Nat.le_trans (List.countP_le_length) (by simp)
end

/-- A box that a region writes once: made by an operation of it, or standing before. -/
structure Bx where
  al : Option Nat
  at0 : Nat
  st : Nat
  T : TypeId
  old : Array Value
  new : Array Value
def Bx.alive (b : Bx) (L : Array Bool) : Prop := ∀ i, b.al = some i → L.getD i false = true
def depB (ops : Array Oper) (i k : Nat) : Bool := ((ops[i]?).map fun o => o.after.any fun e => e.on == k && Region.binds .any e).getD false
theorem depB_clo {ops : Array Oper} {L : Array Bool} {i k : Nat} (h : depB ops i k = true) (hC : Clo ops L) (hi : L.getD i false = true) : L.getD k false = true := by
  unfold depB at h
  cases ho : ops[i]? with
  | none => rw [ho] at h; cases h
  | some o =>
    rw [ho] at h
    simp only [Option.map_some, Option.getD_some, Array.any_eq_true'] at h
    obtain ⟨e, he, h2⟩ := h
    simp only [Bool.and_eq_true, beq_iff_eq] at h2
    have := hC i o e ho hi (by simpa using he) h2.2
    rwa [h2.1] at this
def ownB (bs : List Bx) (i : Nat) : Option Nat := bs.findIdx? fun b => b.al == some i
theorem ownB_some {bs : List Bx} {i k : Nat} (h : ownB bs i = some k) : ∃ b, bs[k]? = some b ∧ b.al = some i := by
  unfold ownB at h
  rw [List.findIdx?_eq_some_iff_getElem] at h
  obtain ⟨hk, h1, _⟩ := h
  exact ⟨bs[k], List.getElem?_eq_getElem hk, by simpa using h1⟩
def valB (bs : List Bx) (V : Nat → Value) (gm : Nat → Nat) (i : Nat) : Value := match ownB bs i with
  | some k => .pointer (some ⟨gm k, 0, none⟩)
  | none => V i
def uniqB (l : List (Option Nat)) (i k : Nat) : Bool := (List.range l.length).all fun j => j == k || l[j]? != some (some i)
theorem uniqB_spec {bs : List Bx} {i k : Nat} (h : uniqB (bs.map (·.al)) i k = true) {j : Nat} {c : Bx} (hj : bs[j]? = some c) (hc : c.al = some i) : j = k := by
  simp only [uniqB, List.all_eq_true, List.mem_range, List.length_map, Bool.or_eq_true, beq_iff_eq] at h
  rcases h j (List.getElem?_eq_some_iff.1 hj).1 with h | h
  · exact h
  · simp [hj, hc] at h
def preB (bs : List Bx) (t : Nat) : Prop := ∃ b, b ∈ bs ∧ b.al = none ∧ t = b.at0
structure BxI (bs : List Bx) (wo : World) (gm : Nat → Nat) (L : Array Bool) (W : World) : Prop where
  chg : Chg (preB bs) wo W
  blk : ∀ (k : Nat) (b : Bx), bs[k]? = some b → b.alive L → Blk W (gm k) b.T (if L.getD b.st false then b.new else b.old)
  old : ∀ (k : Nat) (b : Bx), bs[k]? = some b → b.al = none → gm k = b.at0
  ge : ∀ (k : Nat) (b : Bx) (i : Nat), bs[k]? = some b → b.al = some i → b.alive L → wo.heap.size ≤ gm k
  ne : ∀ (j k : Nat) (b c : Bx), j ≠ k → bs[j]? = some b → bs[k]? = some c → b.alive L → c.alive L → gm j ≠ gm k
/-- What an operation may lean on. -/
structure BAt (ops : Array Oper) (a0 : Act) (bs : List Bx) (V : Nat → Value) (wo : World) (gm : Nat → Nat) (i : Nat) (o : Oper) (a : Act) (W : World) : Prop where
  chg : Chg (preB bs) wo W
  fr : ∀ d, (∀ i, dstOf ops i ≠ some d) → a.eval (.tmp d) = a0.eval (.tmp d)
  dep : ∀ e, e ∈ o.after.toList → Region.binds .any e = true → ∀ d, dstOf ops e.on = some d → a.eval (.tmp d) = valB bs V gm e.on
  rd : ∀ (k : Nat) (b : Bx), bs[k]? = some b → b.al = none → depB ops b.st i = true → Blk W b.at0 b.T b.old
section
variable {P : Program} {ops : Array Oper} {Q : Exit → Act → World → Prop} {a0 : Act} {bs : List Bx} {V : Nat → Value} {wo : World} {gm : Nat → Nat} {i : Nat} {o : Oper} {a : Act} {W : World}
theorem BAt.slot (h : BAt ops a0 bs V wo gm i o a W) (d : Tmp) (hd : hasNoT ops d = true) : a.eval (.tmp d) = a0.eval (.tmp d) := h.fr d (hasNoT_spec hd)
theorem BAt.val (h : BAt ops a0 bs V wo gm i o a W) {k : Nat} {d : Tmp} (hd : DepT ops o k d) : a.eval (.tmp d) = valB bs V gm k := by
  obtain ⟨⟨e, he1, rfl, he3⟩, hdd⟩ := hd
  exact h.dep e he1 he3 d hdd
theorem BAt.cell (h : BAt ops a0 bs V wo gm i o a W) {p : Addr} {v : Value} (hp : wo.cell? p = some v) (n : ¬ preB bs p.block) : W.cell? p = some v :=
  (World.cell?_of_block (h.chg.block p.block (World.block_lt_of_cell? wo p hp) n)).trans hp
abbrev BStep (P : Program) (ops : Array Oper) (Q : Exit → Act → World → Prop) (a0 : Act) (bs : List Bx) (V : Nat → Value) (wo : World) : Nat → Oper → Prop := StepG P ops Q a0 (BxI bs wo) (fun gm i _ v => v = valB bs V gm i)
theorem alive_set {L : Array Bool} {b : Bx} (hi : i < L.size) (hn : b.al ≠ some i) (h : b.alive (L.setIfInBounds i true)) : b.alive L := by
  intro j hj
  have := h j hj
  rwa [getD_set (fun e => hn (by rw [hj, e]))] at this
/-- The invariant behind an operation that makes and writes no box. -/
theorem BxI.quiet {L : Array Bool} {W' : World} (h : BxI bs wo gm L W) (g : Grew W W') (hi : i < L.size) (ho : ownB bs i = none) (hs : bs.all (fun b => b.st != i) = true) : BxI bs wo gm (L.setIfInBounds i true) W' := by
  have hn : ∀ b, b ∈ bs → b.al ≠ some i := fun b hb e => by
    unfold ownB at ho
    rw [List.findIdx?_eq_none_iff] at ho
    have := ho b hb
    simp [e] at this
  have hst : ∀ b, b ∈ bs → ¬ i = b.st := fun b hb e => by
    rw [List.all_eq_true] at hs
    have := hs b hb
    simp [e] at this
  refine ⟨chg_gr h.chg g, fun k b hk ha => ?_, h.old, fun k b j hk hj ha => h.ge k b j hk hj (alive_set hi (hn b (List.mem_of_getElem? hk)) ha), fun j k b c hjk hj hk ha hc => h.ne j k b c hjk hj hk (alive_set hi (hn b (List.mem_of_getElem? hj)) ha) (alive_set hi (hn c (List.mem_of_getElem? hk)) hc)⟩
  rw [getD_set (hst b (List.mem_of_getElem? hk))]
  exact (h.blk k b hk (alive_set hi (hn b (List.mem_of_getElem? hk)) ha)).grew g
theorem at_of {L : Array Bool} (h : BxI bs wo gm L W) (hL : L.getD i true = false) (hC : Clo ops L) (hf : ∀ d, (∀ i, dstOf ops i ≠ some d) → a.eval (.tmp d) = a0.eval (.tmp d))
    (hd : ∀ e, e ∈ o.after.toList → Region.binds .any e = true → L.getD e.on false = true ∧ ∀ d, dstOf ops e.on = some d → a.eval (.tmp d) = valB bs V gm e.on) : BAt ops a0 bs V wo gm i o a W := by
  refine ⟨h.chg, hf, fun e he hb => (hd e he hb).2, fun k b hk ha hdp => ?_⟩
  have h1 := h.blk k b hk (fun j hj => by rw [ha] at hj; cases hj)
  have h2 : L.getD b.st false = false := by
    cases e : L.getD b.st false
    · rfl
    · have := depB_clo hdp hC e
      rw [getD_ff hL] at this
      cases this
  rw [h2, h.old k b hk ha] at h1
  exact h1
theorem b_val (ho : ownB bs i = none) (hs : bs.all (fun b => b.st != i) = true) (h : ∀ (gm : Nat → Nat) (a : Act) (W : World), BAt ops a0 bs V wo gm i o a W → (execOp a.eval o).run P W = .ok (.value (V i)) W) : BStep P ops Q a0 bs V wo i o := by
  intro gm L a W hLs hi hL hC hI hf hd
  unfold Oper.wp
  rw [h gm a W (at_of hI hL hC hf hd)]
  exact ⟨V i, gm, rfl, by simp [valB, ho], hI.quiet (Below.refl _ _) (by omega) ho hs, fun _ _ _ _ h => h⟩
theorem b_call (ho : ownB bs i = none) (hs : bs.all (fun b => b.st != i) = true) {f : FuncId} {vals : Array Value} (h : ∀ (gm : Nat → Nat) (a : Act) (W : World), BAt ops a0 bs V wo gm i o a W → (execOp a.eval o).run P W = .ok (.enter f vals) W)
    (C : ∀ W, Calls P f vals W fun e w' => e = .returned (V i) ∧ Grew W w') : BStep P ops Q a0 bs V wo i o := by
  intro gm L a W hLs hi hL hC hI hf hd
  unfold Oper.wp
  rw [h gm a W (at_of hI hL hC hf hd)]
  refine Calls.mono (C W) ?_
  rintro e w' ⟨rfl, g⟩
  exact ⟨V i, gm, rfl, by simp [valB, ho], hI.quiet g (by omega) ho hs, fun _ _ _ _ h => h⟩
theorem b_alloc (k : Nat) (b : Bx) (hk : bs[k]? = some b) (ho : ownB bs i = some k) (hs : bs.all (fun b => b.st != i) = true) (hdp : depB ops b.st i = true) (hu : uniqB (bs.map (·.al)) i k = true) (h : ∀ (gm : Nat → Nat) (a : Act) (W : World), BAt ops a0 bs V wo gm i o a W → (execOp a.eval o).run P W = .ok (.value (.pointer (some ⟨W.heap.size, 0, none⟩))) (W.alloc (.cells b.old b.T))) : BStep P ops Q a0 bs V wo i o := by
  intro gm L a W hLs hi hL hC hI hf hd
  obtain ⟨b', hb', hal⟩ := ownB_some ho
  rw [hk] at hb'
  cases hb'
  have hgr := grew_al (Below.refl _ W) (.cells b.old b.T)
  have hst : ∀ c, c ∈ bs → ¬ i = c.st := fun c hc e => by
    rw [List.all_eq_true] at hs
    have := hs c hc
    simp [e] at this
  have hnst : L.getD b.st false = false := by
    cases e : L.getD b.st false
    · rfl
    · have := depB_clo hdp hC e
      rw [getD_ff hL] at this
      cases this
  have hother : ∀ j c, bs[j]? = some c → j ≠ k → c.alive (L.setIfInBounds i true) → c.alive L ∧ gm j < W.heap.size := fun j c hj hjk hc => by
    have hna : c.al ≠ some i := fun e => hjk (uniqB_spec hu hj e)
    have := alive_set (by omega) hna hc
    exact ⟨this, (hI.blk j c hj this).lt⟩
  unfold Oper.wp
  rw [h gm a W (at_of hI hL hC hf hd)]
  refine ⟨_, fun j => if j = k then W.heap.size else gm j, rfl, by simp [valB, ho], ⟨chg_gr hI.chg hgr, fun j c hj hc => ?_, fun j c hj hc => ?_, fun j c m hj hm hc => ?_, fun j m c d hjm hj hm hc hd => ?_⟩, fun j u hji hLj hu => ?_⟩
  · show Blk _ (if j = k then _ else _) _ _
    rw [getD_set (hst c (List.mem_of_getElem? hj))]
    by_cases e : j = k
    · subst e
      rw [hk] at hj
      cases hj
      rw [if_pos rfl, hnst]
      exact Blk.new _ _ _
    · rw [if_neg e]
      exact (hI.blk j c hj (hother j c hj e hc).1).grew hgr
  · show (if j = k then _ else _) = _
    by_cases e : j = k
    · subst e
      rw [hk] at hj
      cases hj
      rw [hal] at hc
      cases hc
    · rw [if_neg e]
      exact hI.old j c hj hc
  · show _ ≤ (if j = k then _ else _)
    by_cases e : j = k
    · rw [if_pos e]
      exact hI.chg.size
    · rw [if_neg e]
      exact hI.ge j c m hj hm (hother j c hj e hc).1
  · show (if j = k then _ else _) ≠ (if m = k then _ else _)
    by_cases e1 : j = k
    · have e2 : ¬ m = k := fun e => hjm (e1.trans e.symm)
      rw [if_pos e1, if_neg e2]
      have := (hother m d hm e2 hd).2
      omega
    · by_cases e2 : m = k
      · rw [if_neg e1, if_pos e2]
        have := (hother j c hj e1 hc).2
        omega
      · rw [if_neg e1, if_neg e2]
        exact hI.ne j m c d hjm hj hm (hother j c hj e1 hc).1 (hother m d hm e2 hd).1
  · rw [hu]
    cases e : ownB bs j with
    | none => simp [valB, e]
    | some m =>
      obtain ⟨c, hc, hca⟩ := ownB_some e
      have : ¬ m = k := fun e => by
        subst e
        rw [hk] at hc
        cases hc
        rw [hal] at hca
        cases hca
        exact hji rfl
      simp [valB, e, this]
def uniqS (l : List Nat) (i k : Nat) : Bool := (List.range l.length).all fun j => j == k || l[j]? != some i
theorem uniqS_spec {bs : List Bx} {i k : Nat} (h : uniqS (bs.map (·.st)) i k = true) {j : Nat} {c : Bx} (hj : bs[j]? = some c) (hc : c.st = i) : j = k := by
  simp only [uniqS, List.all_eq_true, List.mem_range, List.length_map, Bool.or_eq_true, beq_iff_eq] at h
  rcases h j (List.getElem?_eq_some_iff.1 hj).1 with h | h
  · exact h
  · simp [hj, hc] at h
theorem b_store (k : Nat) (b : Bx) (hk : bs[k]? = some b) (hi : b.st = i) (ho : ownB bs i = none) (hV : V i = undef) (hdp : ∀ j, b.al = some j → ∃ d, DepT ops o j d) (hs : uniqS (bs.map (·.st)) i k = true)
    (h : ∀ (gm : Nat → Nat) (a : Act) (W : World), BAt ops a0 bs V wo gm i o a W → (b.al = none → gm k = b.at0) → Blk W (gm k) b.T b.old → ∃ W', (execOp a.eval o).run P W = .ok .skip W' ∧ Blk W' (gm k) b.T b.new ∧ Chg (fun t => t = gm k) W W') : BStep P ops Q a0 bs V wo i o := by
  intro gm L a W hLs hiz hL hC hI hf hd
  have hat := at_of hI hL hC hf hd
  have hn : ∀ b, b ∈ bs → b.al ≠ some i := fun b hb e => by
    unfold ownB at ho
    rw [List.findIdx?_eq_none_iff] at ho
    have := ho b hb
    simp [e] at this
  have hal : b.alive L := fun j hj => by
    obtain ⟨d, ⟨e, he1, he2, he3⟩, _⟩ := hdp j hj
    have := (hd e he1 he3).1
    rwa [he2] at this
  have hb0 := hI.blk k b hk hal
  rw [hi, getD_ff hL] at hb0
  obtain ⟨W', hrun, hnew, hchg⟩ := h gm a W hat (hI.old k b hk) hb0
  unfold Oper.wp
  rw [hrun]
  refine ⟨undef, gm, rfl, by simp [valB, ho, hV], ⟨?_, fun j c hj hc => ?_, hI.old, fun j c m hj hm hc => hI.ge j c m hj hm (alive_set (by omega) (hn c (List.mem_of_getElem? hj)) hc), fun j m c d hjm hj hm hc hd => hI.ne j m c d hjm hj hm (alive_set (by omega) (hn c (List.mem_of_getElem? hj)) hc) (alive_set (by omega) (hn d (List.mem_of_getElem? hm)) hd)⟩, fun _ _ _ _ h => h⟩
  · refine hI.chg.trans hchg (fun _ _ h => h) (fun t ht e => ?_)
    subst e
    cases hb : b.al with
    | none => exact ⟨b, List.mem_of_getElem? hk, hb, hI.old k b hk hb⟩
    | some j =>
      have := hI.ge k b j hk hb hal
      omega
  · have hc' := alive_set (by omega) (hn c (List.mem_of_getElem? hj)) hc
    by_cases e : j = k
    · subst e
      rw [hk] at hj
      cases hj
      rw [hi, getD_set1 (by omega)]
      exact hnew
    · have : ¬ i = c.st := fun e2 => e (uniqS_spec hs hj e2.symm)
      rw [getD_set this]
      exact (hI.blk j c hj hc').chg hchg (fun e2 => hI.ne j k c b e hj hk hc' hal e2)
/-- A region that draws its order, makes boxes and writes each once. -/
theorem region_box {id : Nat} (n : Nat) (bs : List Bx) (V : Nat → Value) (hm : P.follows .mixedOrders = true) (hn : a0.tmps.size = n) (hB : regB ops n = true) (hst : bs.all (fun b => decide (b.st < ops.size) && (match b.al with | some i => decide (i < ops.size) | none => true)) = true)
    (hpre : ∀ b, b ∈ bs → b.al = none → Blk wo b.at0 b.T b.old) (hne : ∀ (j k : Nat) (b c : Bx), j ≠ k → bs[j]? = some b → bs[k]? = some c → b.al = none → c.al = none → b.at0 ≠ c.at0) (hstep : AllSteps (BStep P ops Q a0 bs V wo) 0 ops.toList)
    (hend : ∀ (gm : Nat → Nat) (vs : Nat → Value) (w' : World), Chg (preB bs) wo w' → (∀ (k : Nat) (b : Bx), bs[k]? = some b → Blk w' (gm k) b.T b.new) → (∀ (k : Nat) (b : Bx), bs[k]? = some b → b.al = none → gm k = b.at0) → (∀ (k : Nat) (b : Bx) (i : Nat), bs[k]? = some b → b.al = some i → wo.heap.size ≤ gm k) → (∀ i d, dstOf ops i = some d → vs i = valB bs V gm i) → Q .normal (putAll ops.toList vs 0 a0) w') : (Code.region id ops true).wp P Q a0 wo := by
  subst hn
  refine wp_region_gh (BxI bs wo) (fun gm i _ v => v = valB bs V gm i) (fun k => ((bs[k]?).map (·.at0)).getD 0) hm hB ⟨chg_gr (Chg.refl _ _) (grew_d (Below.refl _ _)), fun k b hk ha => ?_, fun k b hk ha => by simp [hk], fun k b i hk hi ha => ?_, fun j k b c hjk hj hk hb hc => ?_⟩ (fun i o ho => by have := allSteps_get _ _ hstep i o (by simpa using ho); rwa [Nat.zero_add] at this) ?_
  · cases hb : b.al with
    | none =>
      rw [getD_rep]
      simp only [hk, Option.map_some, Option.getD_some]
      exact (hpre b (List.mem_of_getElem? hk) hb).grew (grew_d (Below.refl _ _))
    | some i =>
      have := ha i hb
      rw [getD_rep] at this
      cases this
  · have := ha i hi
    rw [getD_rep] at this
    cases this
  · cases h1 : b.al with
    | some i =>
      have := hb i h1
      rw [getD_rep] at this
      cases this
    | none =>
      cases h2 : c.al with
      | some i =>
        have := hc i h2
        rw [getD_rep] at this
        cases this
      | none =>
        simp only [hj, hk, Option.map_some, Option.getD_some]
        exact hne j k b c hjk hj hk h1 h2
  · rintro gm vs w' ⟨L, hI, hL⟩ hR
    rw [List.all_eq_true] at hst
    have hal : ∀ b, b ∈ bs → b.alive L := fun b hb i hi => by
      have := hst b hb
      rw [hi] at this
      simp only [Bool.and_eq_true, decide_eq_true_eq] at this
      exact hL i this.2
    refine hend gm vs w' hI.chg (fun k b hk => ?_) hI.old (fun k b i hk hi => hI.ge k b i hk hi (hal b (List.mem_of_getElem? hk))) hR
    have h1 := hI.blk k b hk (hal b (List.mem_of_getElem? hk))
    have h2 := hst b (List.mem_of_getElem? hk)
    simp only [Bool.and_eq_true, decide_eq_true_eq] at h2
    rwa [hL _ h2.1] at h1
end
/-! Shorter words for the regions that a program of mine prints. -/
def preL : List Bx → Nat → Prop
  | [], _ => True
  | b :: bs, t => (b.al = none → ¬ t = b.at0) ∧ preL bs t
theorem nP : ∀ {bs : List Bx} {t : Nat}, preL bs t → ¬ preB bs t
  | [], _, _, ⟨b, hb, _⟩ => by cases hb
  | b :: bs, t, h, ⟨c, hc, ha, e⟩ => by
    rcases List.mem_cons.1 hc with rfl | hc
    · exact h.1 ha e
    · exact nP h.2 ⟨c, hc, ha, e⟩
def AllV (V : Nat → Value) : Nat → List Value → Prop
  | _, [] => True
  | k, x :: xs => V k = x ∧ AllV V (k + 1) xs
theorem allV_of : ∀ (l : List Value) (V : Nat → Value) (k : Nat), (∀ i x, l[i]? = some x → V (k + i) = x) → AllV V k l
  | [], _, _, _ => trivial
  | y :: l, V, k, h => ⟨by have := h 0 y rfl; simpa using this, allV_of l V (k + 1) (fun i x hx => by have := h (i + 1) x (by simpa using hx); rw [← this]; congr 1; omega)⟩
theorem vl (l : List Value) : ∃ V : Nat → Value, AllV V 0 l := ⟨fun i => l.getD i undef, allV_of l _ 0 (fun i x hx => by simp [List.getD_eq_getElem?_getD, hx])⟩
theorem ck {F : Nat → Prop} {w W : World} {p : Addr} {v : Value} (c : Chg F w W) (hp : w.cell? p = some v) (n : ¬ F p.block := by exact nP (by simp [preL] <;> omega)) : W.cell? p = some v :=
  (World.cell?_of_block (c.block p.block (World.block_lt_of_cell? w p hp) n)).trans hp
def depV (ops : Array Oper) (o : Oper) (k : Nat) (d : Tmp) : Bool := (o.after.any fun e => e.on == k && Region.binds .any e) && dstOf ops k == some d
section
variable {P : Program} {ops : Array Oper} {Q : Exit → Act → World → Prop} {a0 : Act} {bs : List Bx} {V : Nat → Value} {wo : World} {gm : Nat → Nat} {i : Nat} {o : Oper} {a : Act} {W : World}
theorem BAt.vb (h : BAt ops a0 bs V wo gm i o a W) (k : Nat) (d : Tmp) (hd : depV ops o k d = true := by kernel_rfl) : a.eval (.tmp d) = valB bs V gm k := by
  simp only [depV, Bool.and_eq_true, Array.any_eq_true', beq_iff_eq] at hd
  obtain ⟨⟨e, he, rfl, hb⟩, hk⟩ := hd
  exact h.dep e (by simpa using he) hb d hk
theorem b_vx {x : Value} (hv : V i = x) (ho : ownB bs i = none) (hs : bs.all (fun b => b.st != i) = true) (h : ∀ (gm : Nat → Nat) (a : Act) (W : World), BAt ops a0 bs V wo gm i o a W → (execOp a.eval o).run P W = .ok (.value x) W) : BStep P ops Q a0 bs V wo i o :=
  b_val ho hs (fun gm a W hb => by rw [hv]; exact h gm a W hb)
theorem b_cx {x : Value} (hv : V i = x) (ho : ownB bs i = none) (hs : bs.all (fun b => b.st != i) = true) {f : FuncId} {vals : Array Value} (h : ∀ (gm : Nat → Nat) (a : Act) (W : World), BAt ops a0 bs V wo gm i o a W → (execOp a.eval o).run P W = .ok (.enter f vals) W)
    (C : ∀ W, Calls P f vals W fun e w' => e = .returned x ∧ Grew W w') : BStep P ops Q a0 bs V wo i o :=
  b_call ho hs h (fun W => by rw [hv]; exact C W)
end
end Go.Proofs.YtdddhnepanjmfaaGreat
