/- Lemmas and walks of this proof, some texts one behind the other. No condition. -/
import Derived.Test.YtpmfpgbpndobpaaGreatDrL
import Derived.Test.YtpmfpgbpndobpaaGreatDrU
import Derived.Test.YtpmfpgbpndobpaaGreatRegion
import Derived.Test.YtpmfpgbpndobpaaGreatDrR
set_option linter.unusedSimpArgs false
set_option linter.unusedVariables false
/- The rule of XRegion for regions in the order of the text. No condition. -/
namespace Go.Proofs.YtpmfpgbpndobpaaGreat
open Go.RowKit
set_option linter.unusedVariables false
set_option linter.unusedSimpArgs false

section
variable {P : Program} {ops : Array Oper} {Q : Exit → Act → World → Prop} {a0 : Act} {I : Array Bool → World → Prop} {R : Nat → World → Value → Prop}
theorem wpOps_seq (hB : regB ops a0.tmps.size = true) (hstep : ∀ i o, ops[i]? = some o → StepOk P ops Q a0 I R i o)
    (hend : ∀ L a w, RegSt ops a0 I R L a w → (∀ i, i < ops.size → L.getD i false = true) → Q .normal a w) :
    ∀ (m k : Nat) (L : Array Bool) (a : Act) (w : World), k + m = ops.size → (∀ i, i < ops.size → (L.getD i true = true ↔ i < k)) → RegSt ops a0 I R L a w → wpOps P ops Q (List.range' k m) a w := by
  intro m
  induction m with
  | zero =>
    intro k L a w hk hL hS
    simp only [List.range'_zero, wpOps]
    refine hend L a w hS (fun i hi => ?_)
    have h1 := (hL i hi).2 (by omega)
    have hi' : i < L.size := by rw [hS.size]; exact hi
    simp only [Array.getD_eq_getD_getElem?, Array.getElem?_eq_getElem hi', Option.getD_some] at h1 ⊢
    exact h1
  | succ m ih =>
    intro i L a w hk hL hS
    have hi1 : i < ops.size := by omega
    have ho : ops[i]? = some ops[i] := Array.getElem?_eq_getElem hi1
    have hiL : i < L.size := by rw [hS.size]; exact hi1
    have hf : L.getD i true = false := by
      cases e : L.getD i true
      · rfl
      · have := (hL i hi1).1 e
        omega
    have hLi : L[i] = false := by simpa only [Array.getD_eq_getD_getElem?, Array.getElem?_eq_getElem hiL, Option.getD_some] using hf
    obtain ⟨hgd, hon, hdr⟩ := regB_op hB ho
    have haf : ∀ e, e ∈ (ops[i]).after.toList → Region.binds .any e = true → L.getD e.on false = true := fun e he hb => by
      have h1 := hon e he hb
      have h2 := (hL e.on (by omega)).2 h1
      have hi' : e.on < L.size := by rw [hS.size]; omega
      simp only [Array.getD_eq_getD_getElem?, Array.getElem?_eq_getElem hi', Option.getD_some] at h2 ⊢
      exact h2
    have hst := hstep i _ ho L a w hS.size hi1 hf hS.clo hS.inv (fun d hd => hS.frame d hd) (fun e he hb => ⟨haf e he hb, fun d hd => hS.slots e.on d (haf e he hb) hd⟩)
    rw [List.range'_succ, wpOps_cons]
    unfold wpOp
    rw [ho]
    simp only
    rw [if_pos (by simp [Region.wanted, hgd])]
    left
    refine Oper.wp_mono (fun a' w' h => ?_) hst
    obtain ⟨v, rfl, hv, hI, hm⟩ := h
    refine ih (i + 1) (L.setIfInBounds i true) _ _ (by omega) (fun j hj => ?_) ?_
    · by_cases hij : i = j
      · subst hij
        rw [getD_set1 hiL]
        simp
      · rw [getD_set hij, hL j hj]
        omega
    · refine ⟨hI, by simp [hS.size], by rw [put_size, hS.asz], by rw [put_defers, hS.defs], fun d hd => ?_, fun j d hj hd => ?_, fun j oj e hoj hj he hb => ?_⟩
      · cases hdo : ops[i].dst with
        | none => exact hS.frame d hd
        | some d' =>
          rw [put_getD _ _ _ _ (by rw [hS.asz]; exact hdr d' hdo), if_neg (fun e => hd i (by simp [dstOf, ho, hdo, e]))]
          exact hS.frame d hd
      · by_cases hij : i = j
        · subst hij
          have hdo : ops[i].dst = some d := by simpa [dstOf, ho] using hd
          rw [hdo, put_getD _ _ _ _ (by rw [hS.asz]; exact hdr d hdo), if_pos rfl]
          exact hv
        · have hj' : L.getD j false = true := by rwa [getD_set hij] at hj
          have hb := hS.slots j d hj' hd
          cases hdo : ops[i].dst with
          | none => exact hm j _ (Ne.symm hij) hb
          | some d' =>
            have hne : d' ≠ d := fun e => regB_ne hB hd (Ne.symm hij) (by simp [dstOf, ho, hdo, e])
            rw [put_getD _ _ _ _ (by rw [hS.asz]; exact hdr d' hdo), if_neg hne]
            exact hm j _ (Ne.symm hij) hb
      · have hmono : ∀ m, L.getD m false = true → (L.setIfInBounds i true).getD m false = true := fun m hm => by
          by_cases him : i = m
          · subst him
            exact getD_set1 hiL
          · rwa [getD_set him]
        by_cases hij : i = j
        · subst hij
          rw [ho, Option.some.injEq] at hoj
          subst hoj
          exact hmono _ (haf e he hb)
        · have hj' : L.getD j false = true := by rwa [getD_set hij] at hj
          exact hmono _ (hS.clo j oj e hoj hj' he hb)
theorem wp_region_invQ {id : Nat} {w : World} (I : Array Bool → World → Prop) (R : Nat → World → Value → Prop) (hB : regB ops a0.tmps.size = true) (hI : I (Array.replicate ops.size false) w)
    (hstep : ∀ i o, ops[i]? = some o → StepOk P ops Q a0 I R i o)
    (hend : ∀ (vs : Nat → Value) (w' : World), (∃ L : Array Bool, I L w' ∧ ∀ i, i < ops.size → L.getD i false = true) → (∀ i d, dstOf ops i = some d → R i w' (vs i)) → Q .normal (putAll ops.toList vs 0 a0) w') : (Code.region id ops false).wp P Q a0 w := by
  refine wp_region (by
    rw [List.range_eq_range']
    refine wpOps_seq hB hstep ?_ ops.size 0 (Array.replicate ops.size false) a0 w (by omega) (fun i hi => ?_) ⟨hI, by simp, rfl, rfl, fun d _ => rfl, fun i d hi hd => ?_, fun i o e _ hi _ _ => ?_⟩
    · intro L a w' hS hl
      have hI' := hS.inv
      have hR : ∀ i d, dstOf ops i = some d → R i w' (a.tmps.getD d undef) := fun i d hd => hS.slots i d (hl i (by
        rcases Nat.lt_or_ge i ops.size with h | h
        · exact h
        · simp [dstOf, Array.getElem?_eq_none h] at hd)) hd
      have heq : a = putAll ops.toList (fun i => match dstOf ops i with | some d => a.tmps.getD d undef | none => undef) 0 a0 := by
        have hpa := putAll_getD (fun i => match dstOf ops i with | some d => a.tmps.getD d undef | none => undef) (fun d => a.tmps.getD d undef) ops.toList 0 a0 (fun i o d h1 h2 => by
          have ho : ops[i]? = some o := by simpa using h1
          refine ⟨(regB_op hB ho).2.2 d h2, ?_⟩
          have : dstOf ops i = some d := by simp [dstOf, ho, h2]
          rw [Nat.zero_add]
          simp only [this])
        have hsz := putAll_size (fun i => match dstOf ops i with | some d => a.tmps.getD d undef | none => undef) ops.toList 0 a0
        have hdf := putAll_defers (fun i => match dstOf ops i with | some d => a.tmps.getD d undef | none => undef) ops.toList 0 a0
        generalize putAll ops.toList (fun i => match dstOf ops i with | some d => a.tmps.getD d undef | none => undef) 0 a0 = b at *
        have ht : a.tmps = b.tmps := by
          apply Array.ext
          · rw [hS.asz, hsz]
          · intro t h1 h2
            have e1 : a.tmps[t] = a.tmps.getD t undef := by simp [Array.getD_eq_getD_getElem?, Array.getElem?_eq_getElem h1]
            have e2 : b.tmps[t] = b.tmps.getD t undef := by simp [Array.getD_eq_getD_getElem?, Array.getElem?_eq_getElem h2]
            rw [e1, e2]
            rcases hpa t with ⟨_, h3⟩ | ⟨h3, h4⟩
            · exact h3.symm
            · rw [h4]
              exact hS.frame t (fun i hi => by
                cases ho : ops[i]? with
                | none => simp [dstOf, ho] at hi
                | some o => exact h3 i o (by simpa using ho) (by simpa [dstOf, ho] using hi))
        cases a
        cases b
        simp only at ht hdf
        have := hS.defs
        simp only at this
        rw [ht, this, hdf]
      rw [heq]
      refine hend _ w' ⟨L, hI', hl⟩ (fun i d hd => ?_)
      have := hR i d hd
      simp only [hd]
      exact this
    · simp [Array.getD_eq_getD_getElem?, hi]
    · simp only [Array.getD_eq_getD_getElem?, Array.getElem?_replicate] at hi
      split at hi <;> simp at hi
    · simp only [Array.getD_eq_getD_getElem?, Array.getElem?_replicate] at hi
      split at hi <;> simp at hi)
/-- A region in the order of the text, that draws from reader g. -/
theorem region_seqL {id : Nat} {w : World} (g p0 tot n : Nat) (cl : List Nat) (J : World → Prop) (F : Nat → Prop) (Rl : List (Pr F)) (hn : a0.tmps.size = n) (hB : regB ops n = true) (ht : costAll (cOf cl) ops.size = tot)
    (hJ : J w) (hr : RdLe w g p0) (hstep : AllSteps (DStep P ops Q a0 g (p0 + tot) (cOf cl) J F (Rof Rl)) 0 ops.toList)
    (hend : ∀ (vs : Nat → Value) (w' : World), J w' → RdLe w' g (p0 + tot) → (∀ i d, dstOf ops i = some d → Rof Rl i w' (vs i)) → Q .normal (putAll ops.toList vs 0 a0) w') : (Code.region id ops false).wp P Q a0 w := by
  subst ht hn
  have hF : ∀ j w w' u, Chg F w w' → Rof Rl j w u → Rof Rl j w' u := fun j w w' u hc h => (Rl.getD j prT).st w w' u hc h
  refine wp_region_invQ (fun L w' => J w' ∧ L.size = ops.size ∧ RdLe w' g (p0 + costL (cOf cl) L)) (Rof Rl) hB ⟨hJ, by simp, hr.mono (by omega)⟩ ?_ ?_
  · intro i o ho L a w1 hL hi hf _ hI hfr hd
    obtain ⟨hJ1, _, hr1⟩ := hI
    have hs := allSteps_get _ _ hstep i o (by simpa using ho)
    rw [Nat.zero_add] at hs
    have hc := costL_set (cOf cl) L (i := i) (by omega) hf
    have hle := costL_le (cOf cl) (L.setIfInBounds i true)
    rw [Array.size_setIfInBounds, hL] at hle
    refine Oper.wp_mono ?_ (hs a w1 (p0 + costL (cOf cl) L) (by omega) hJ1 hr1 hfr (fun e he hb => (hd e he hb).2))
    rintro a' w' ⟨v, h1, h2, h3, h4, h5⟩
    exact ⟨v, h1, h2, ⟨h3, by simp [hL], by rw [hc]; exact h4.mono (by omega)⟩, fun j u _ hu => hF j _ _ u h5 hu⟩
  · rintro vs w' ⟨L, ⟨hJ', hL, hr'⟩, _⟩ hR
    have hle := costL_le (cOf cl) L
    rw [hL] at hle
    exact hend vs w' hJ' (hr'.mono (by omega)) hR
end
end Go.Proofs.YtpmfpgbpndobpaaGreat

/- Rows of structs that a drawn region writes out, and reads at a drawn place. No condition. -/
namespace Go.Proofs.YtpmfpgbpndobpaaGreat
open Go.RowKit
set_option linter.unusedVariables false
set_option linter.unusedSimpArgs false

/-- A slice of structs of C numbers each, a pointer to one: in blocks that do not change. -/
def SlK (F : Nat → Prop) (n C : Nat) (w : World) (v : Value) : Prop := ∃ b, v = .slice (some ⟨b, 0, none⟩) n n ∧ b < w.heap.size ∧ ¬ F b ∧ ∀ j, j < n * C → ∃ x, w.cell? ⟨b, j, none⟩ = some (.int .i64 x)
def PtK (F : Nat → Prop) (C : Nat) (w : World) (v : Value) : Prop := ∃ b j, v = .pointer (some ⟨b, j, none⟩) ∧ b < w.heap.size ∧ ¬ F b ∧ ∀ i, i < C → ∃ x, w.cell? ⟨b, j + i, none⟩ = some (.int .i64 x)
theorem SlK.chg {F : Nat → Prop} {n C : Nat} {w w' : World} {v : Value} (h : SlK F n C w v) (c : Chg F w w') : SlK F n C w' v := by
  obtain ⟨b, h1, h2, h3, h4⟩ := h
  exact ⟨b, h1, Nat.lt_of_lt_of_le h2 c.size, h3, fun j hj => by rw [World.cell?_of_block (w := w) (w' := w') (a := ⟨b, j, none⟩) (c.block b h2 h3)]; exact h4 j hj⟩
theorem PtK.chg {F : Nat → Prop} {C : Nat} {w w' : World} {v : Value} (h : PtK F C w v) (c : Chg F w w') : PtK F C w' v := by
  obtain ⟨b, j, h1, h2, h3, h4⟩ := h
  exact ⟨b, j, h1, Nat.lt_of_lt_of_le h2 c.size, h3, fun i hi => by rw [World.cell?_of_block (w := w) (w' := w') (a := ⟨b, j + i, none⟩) (c.block b h2 h3)]; exact h4 i hi⟩
def prSlK {F : Nat → Prop} (n C : Nat) : Pr F := ⟨SlK F n C, fun _ _ _ c h => h.chg c⟩
def prPtK {F : Nat → Prop} (C : Nat) : Pr F := ⟨PtK F C, fun _ _ _ c h => h.chg c⟩
theorem and3 (x : Int) : ∃ r : Nat, r < 4 ∧ ∀ W, (binOp .and 3 (.int .i64 x) (.int .i64 3)).run Tryz.prog W = .ok (.int .i64 r) W := by
  refine ⟨(BitVec.ofInt 64 x &&& BitVec.ofInt 64 3).toNat, ?_, fun W => ?_⟩
  · rw [BitVec.toNat_and]
    exact Nat.lt_of_le_of_lt Nat.and_le_right (by decide)
  · have hb : (BitVec.ofInt 64 x &&& BitVec.ofInt 64 3).toNat < 4 := by
      rw [BitVec.toNat_and]
      exact Nat.lt_of_le_of_lt Nat.and_le_right (by decide)
    have hw : IntKind.i64.wrap ((BitVec.ofInt 64 x &&& BitVec.ofInt 64 3).toNat : Int) = ((BitVec.ofInt 64 x &&& BitVec.ofInt 64 3).toNat : Int) := by
      generalize (BitVec.ofInt 64 x &&& BitVec.ofInt 64 3).toNat = r at hb
      have : r = 0 ∨ r = 1 ∨ r = 2 ∨ r = 3 := by omega
      rcases this with rfl | rfl | rfl | rfl <;> rfl
    have : (binOp .and 3 (.int .i64 x) (.int .i64 3)).run Tryz.prog W = .ok (.int .i64 (IntKind.i64.wrap ((BitVec.ofInt 64 x &&& BitVec.ofInt 64 3).toNat : Int))) W := by kernel_rfl
    rw [this, hw]
section
variable {ops : Array Oper} {Q : Exit → Act → World → Prop} {a0 : Act} {g PP : Nat} {c : Nat → Nat} {J : World → Prop} {F : Nat → Prop} {R : Nat → World → Value → Prop} {i : Nat} {o : Oper}
theorem ds_litK (T T2 : TypeId) (n C : Nat) (parts : Array (Nat × Operand)) (hop : o.op = .buildSlice T2 n parts) (h : ∀ (a : Act) (W : World), (∀ d, (∀ i, dstOf ops i ≠ some d) → a.eval (.tmp d) = a0.eval (.tmp d)) → (∀ e, e ∈ o.after.toList → Region.binds .any e = true → ∀ d, dstOf ops e.on = some d → R e.on W (a.eval (.tmp d))) →
      ∃ vs : Array (Nat × Value), parts.map (fun x => (x.1, a.eval x.2)) = vs ∧ ∃ zs : List Int, zs.length = n * C ∧ ∀ W, (Instr.buildSlice T2 n vs).run Tryz.prog W = .ok (.slice (some ⟨W.heap.size, 0, none⟩) n n) (W.alloc (.cells (ints .i64 zs).toArray T)))
    (hR : ∀ W v, SlK F n C W v → R i W v) (hJ : ∀ W o, J W → J (W.alloc o)) (hF : ∀ W, J W → ∀ b, F b → b < W.heap.size) : DStep Tryz.prog ops Q a0 g PP c J F R i o := by
  intro a w p hp hJ1 hr hf hd
  obtain ⟨vs, hvs, zs, hz, hrun⟩ := h a w hf hd
  refine op_val (v := .slice (some ⟨w.heap.size, 0, none⟩) n n) (w' := w.alloc (.cells (ints .i64 zs).toArray T)) ?_ ⟨_, rfl, hR _ _ ⟨_, rfl, by simp, fun hb => absurd (hF w hJ1 _ hb) (by omega), fun j hj => ?_⟩, hJ _ _ hJ1, (rd_al hr _).mono (by omega), Chg.of_below (grew_al (Below.refl _ _) _)⟩
  · simp only [execOp, hop]
    have h1' : (Array.map (fun x => match x with | (i, x) => (i, a.eval x)) parts) = vs := hvs
    rw [h1']
    simp [hrun, Result.andThen]
  · have hj' : j < zs.length := by omega
    exact ⟨zs[j], by rw [World.cell?_alloc_new]; simp [ints, hj']⟩
theorem ds_ixI (d1 d2 : Tmp) (k1 k2 n : Nat) (hop : o.op = .indexAddr 29 (.tmp d1) (.tmp d2)) (h1 : Dep ops o k1 d1) (h2 : Dep ops o k2 d2) (hs : ∀ W v, R k1 W v → SlK F n 2 W v) (hi : ∀ W v, R k2 W v → IsNat n v) (hn : 1 ≤ n) (hn2 : n ≤ 1000) (hR : ∀ W v, PtK F 2 W v → R i W v) : DStep Tryz.prog ops Q a0 g PP c J F R i o := by
  intro a w p hp hJ hr hf hd
  obtain ⟨b, hb, hbl, hbF, hc⟩ := hs _ _ (dep_of h1 hd)
  obtain ⟨j, hj, hjn⟩ := hi _ _ (dep_of h2 hd)
  have hjn := hjn (by omega)
  refine op_val (v := .pointer (some ⟨b, j * 2, none⟩)) (w' := w) ?_ ⟨_, rfl, hR _ _ ⟨b, j * 2, rfl, hbl, hbF, fun i hi => hc _ (by omega)⟩, hJ, hr.mono (by omega), Chg.refl _ _⟩
  simp only [execOp, hop, hb, hj]
  have hj2 : (j : Int) < (n : Int) := hjn
  have hj3 : j < n := by omega
  simp [go_sem, hj2]
theorem ds_ldI (d1 : Tmp) (k1 : Nat) (hop : o.op = .load 31 (.tmp d1)) (h1 : Dep ops o k1 d1) (hs : ∀ W v, R k1 W v → PtK F 2 W v) (hR : ∀ W v, IsItv v → R i W v) : DStep Tryz.prog ops Q a0 g PP c J F R i o := by
  intro a w p hp hJ hr hf hd
  obtain ⟨b, j, hb, hbl, hbF, hx⟩ := hs _ _ (dep_of h1 hd)
  obtain ⟨x0, h0⟩ := hx 0 (by omega)
  obtain ⟨x1, h1'⟩ := hx 1 (by omega)
  rw [Nat.add_zero] at h0
  refine op_val (v := .agg #[.int .i64 x0, .int .i64 x1]) (w' := w) ?_ ⟨_, rfl, hR _ _ ⟨x0, x1, rfl⟩, hJ, hr.mono (by omega), Chg.refl _ _⟩
  simp only [execOp, hop, hb]
  simp [go_sem, h0, h1']
theorem ds_ixN (d1 d2 : Tmp) (k1 k2 n : Nat) (hop : o.op = .indexAddr 47 (.tmp d1) (.tmp d2)) (h1 : Dep ops o k1 d1) (h2 : Dep ops o k2 d2) (hs : ∀ W v, R k1 W v → SlK F n 8 W v) (hi : ∀ W v, R k2 W v → IsNat n v) (hn : 1 ≤ n) (hn2 : n ≤ 1000) (hR : ∀ W v, PtK F 8 W v → R i W v) : DStep Tryz.prog ops Q a0 g PP c J F R i o := by
  intro a w p hp hJ hr hf hd
  obtain ⟨b, hb, hbl, hbF, hc⟩ := hs _ _ (dep_of h1 hd)
  obtain ⟨j, hj, hjn⟩ := hi _ _ (dep_of h2 hd)
  have hjn := hjn (by omega)
  refine op_val (v := .pointer (some ⟨b, j * 8, none⟩)) (w' := w) ?_ ⟨_, rfl, hR _ _ ⟨b, j * 8, rfl, hbl, hbF, fun i hi => hc _ (by omega)⟩, hJ, hr.mono (by omega), Chg.refl _ _⟩
  simp only [execOp, hop, hb, hj]
  have hj2 : (j : Int) < (n : Int) := hjn
  have hj3 : j < n := by omega
  simp [go_sem, hj2]
theorem ds_ldN (d1 : Tmp) (k1 : Nat) (hop : o.op = .load 28 (.tmp d1)) (h1 : Dep ops o k1 d1) (hs : ∀ W v, R k1 W v → PtK F 8 W v) (hR : ∀ W v, IsIns v → R i W v) : DStep Tryz.prog ops Q a0 g PP c J F R i o := by
  intro a w p hp hJ hr hf hd
  obtain ⟨b, j, hb, hbl, hbF, hx⟩ := hs _ _ (dep_of h1 hd)
  obtain ⟨x0, h0⟩ := hx 0 (by omega)
  obtain ⟨x1, h1'⟩ := hx 1 (by omega)
  obtain ⟨x2, h2⟩ := hx 2 (by omega)
  obtain ⟨x3, h3⟩ := hx 3 (by omega)
  obtain ⟨x4, h4⟩ := hx 4 (by omega)
  obtain ⟨x5, h5⟩ := hx 5 (by omega)
  obtain ⟨x6, h6⟩ := hx 6 (by omega)
  obtain ⟨x7, h7⟩ := hx 7 (by omega)
  rw [Nat.add_zero] at h0
  refine op_val (v := .agg #[.int .i64 x0, .int .i64 x1, .int .i64 x2, .int .i64 x3, .int .i64 x4, .int .i64 x5, .int .i64 x6, .int .i64 x7]) (w' := w) ?_ ⟨_, rfl, hR _ _ ⟨x0, x1, x2, x3, x4, x5, x6, x7, rfl⟩, hJ, hr.mono (by omega), Chg.refl _ _⟩
  simp only [execOp, hop, hb]
  simp [go_sem, h0, h1', h2, h3, h4, h5, h6, h7]
theorem ds_and3 (d : Tmp) (k : Nat) (hop : o.op = .binOp .and 3 (.tmp d) (.const (.int .i64 3)) 3) (h1 : Dep ops o k d) (hs : ∀ W v, R k W v → IsInt v) (hR : ∀ W v, IsNat 4 v → R i W v) : DStep Tryz.prog ops Q a0 g PP c J F R i o := by
  intro a w p hp hJ hr hf hd
  obtain ⟨x, hx⟩ := hs _ _ (dep_of h1 hd)
  obtain ⟨r, hr4, hrun⟩ := and3 x
  refine op_val (v := .int .i64 (r : Int)) (w' := w) ?_ ⟨_, rfl, hR _ _ ⟨r, rfl, fun _ => by omega⟩, hJ, hr.mono (by omega), Chg.refl _ _⟩
  have hw : IntKind.i64.wrap ((BitVec.ofInt 64 x &&& BitVec.ofInt 64 3).toNat : Int) = (r : Int) := by
    have h2 : (binOp .and 3 (.int .i64 x) (.int .i64 3)).run Tryz.prog w = .ok (.int .i64 (IntKind.i64.wrap ((BitVec.ofInt 64 x &&& BitVec.ofInt 64 3).toNat : Int))) w := by kernel_rfl
    rw [hrun] at h2
    simp only [Result.ok.injEq, Value.int.injEq, true_and, and_true] at h2
    exact h2.symm
  rw [← hw]
  simp only [execOp, hop, hx, eval_const]
  rfl
end
set_option maxHeartbeats 4000000 in
theorem blk1 {W : World} {t : Nat} {T : TypeId} {x0 : Value} (h : Blk W t T #[x0]) (y0 : Value) : Blk (W.setCell ⟨t, 0, none⟩ y0) t T #[y0] :=
  h.set_ 0 _
theorem chgN1 (W : World) (t : Nat) (y0 : Value) : Chg (fun b => b = t) W (W.setCell ⟨t, 0, none⟩ y0) :=
  (chg1 (Chg.refl _ _) _)
set_option maxHeartbeats 4000000 in
theorem blk4 {W : World} {t : Nat} {T : TypeId} {x0 x1 x2 x3 : Value} (h : Blk W t T #[x0, x1, x2, x3]) (y0 y1 y2 y3 : Value) : Blk ((((W.setCell ⟨t, 0, none⟩ y0).setCell ⟨t, 1, none⟩ y1).setCell ⟨t, 2, none⟩ y2).setCell ⟨t, 3, none⟩ y3) t T #[y0, y1, y2, y3] :=
  (((h.set_ 0 _).set_ 1 _).set_ 2 _).set_ 3 _
theorem chgN4 (W : World) (t : Nat) (y0 y1 y2 y3 : Value) : Chg (fun b => b = t) W ((((W.setCell ⟨t, 0, none⟩ y0).setCell ⟨t, 1, none⟩ y1).setCell ⟨t, 2, none⟩ y2).setCell ⟨t, 3, none⟩ y3) :=
  (chg1 (chg1 (chg1 (chg1 (Chg.refl _ _) _) _) _) _)
set_option maxHeartbeats 4000000 in
theorem blk8 {W : World} {t : Nat} {T : TypeId} {x0 x1 x2 x3 x4 x5 x6 x7 : Value} (h : Blk W t T #[x0, x1, x2, x3, x4, x5, x6, x7]) (y0 y1 y2 y3 y4 y5 y6 y7 : Value) : Blk ((((((((W.setCell ⟨t, 0, none⟩ y0).setCell ⟨t, 1, none⟩ y1).setCell ⟨t, 2, none⟩ y2).setCell ⟨t, 3, none⟩ y3).setCell ⟨t, 4, none⟩ y4).setCell ⟨t, 5, none⟩ y5).setCell ⟨t, 6, none⟩ y6).setCell ⟨t, 7, none⟩ y7) t T #[y0, y1, y2, y3, y4, y5, y6, y7] :=
  (((((((h.set_ 0 _).set_ 1 _).set_ 2 _).set_ 3 _).set_ 4 _).set_ 5 _).set_ 6 _).set_ 7 _
theorem chgN8 (W : World) (t : Nat) (y0 y1 y2 y3 y4 y5 y6 y7 : Value) : Chg (fun b => b = t) W ((((((((W.setCell ⟨t, 0, none⟩ y0).setCell ⟨t, 1, none⟩ y1).setCell ⟨t, 2, none⟩ y2).setCell ⟨t, 3, none⟩ y3).setCell ⟨t, 4, none⟩ y4).setCell ⟨t, 5, none⟩ y5).setCell ⟨t, 6, none⟩ y6).setCell ⟨t, 7, none⟩ y7) :=
  (chg1 (chg1 (chg1 (chg1 (chg1 (chg1 (chg1 (chg1 (Chg.refl _ _) _) _) _) _) _) _) _) _)
end Go.Proofs.YtpmfpgbpndobpaaGreat

/- A region that draws its order and writes two boxes, each once. No condition. -/
namespace Go.Proofs.YtpmfpgbpndobpaaGreat
open Go.RowKit
set_option linter.unusedVariables false
set_option linter.unusedSimpArgs false
attribute [local go_sem] ext_cell ext_frozen ext_lt ext_le ext_le1 lt_s2 lt_s3 lt_s4 lt_s5 lt_s6 ext_lt1 ext_lt2 ext_lt3

theorem Chg.alw {F : Nat → Prop} {w W : World} {p : Addr} (h : Chg F w W) (hp : F p.block) (u : Value) : Chg F w (W.setCell p u) :=
  ⟨h.os, h.tape, h.output, Nat.le_trans h.size (by simp), fun k hk hn => (Below.heap_setCell W p u k (fun e => hn (e ▸ hp))).trans (h.block k hk hn)⟩
theorem chg_gr {F : Nat → Prop} {w W W' : World} (h : Chg F w W) (g : Grew W W') : Chg F w W' := h.trans (Chg.of_below g : Chg F W W') (fun _ _ h => h) (fun _ _ h => h)
theorem getD_ff {L : Array Bool} {i : Nat} (h : L.getD i true = false) : L.getD i false = false := by
  simp only [Array.getD_eq_getD_getElem?] at h ⊢
  cases e : L[i]? with
  | none => rfl
  | some b => rw [e] at h; exact h
theorem getD_rep {n i : Nat} : (Array.replicate n false).getD i false = false := by
  simp only [Array.getD_eq_getD_getElem?, Array.getElem?_replicate]
  split <;> rfl
def hasNoT (ops : Array Oper) (d : Tmp) : Bool := ops.all fun o => o.dst != some d
theorem hasNoT_spec {ops : Array Oper} {d : Tmp} (h : hasNoT ops d = true) (i : Nat) : dstOf ops i ≠ some d := by
  intro hi
  unfold dstOf at hi
  cases ho : ops[i]? with
  | none => simp [ho] at hi
  | some o =>
    rw [hasNoT, Array.all_eq_true'] at h
    have := h o (Array.mem_of_getElem? ho)
    simp [ho] at hi
    simp [hi] at this
def DepT (ops : Array Oper) (o : Oper) (k : Nat) (d : Tmp) : Prop := (∃ e, e ∈ o.after.toList ∧ e.on = k ∧ Region.binds .any e = true) ∧ dstOf ops k = some d
section
variable {P : Program} {ops : Array Oper} {Q : Exit → Act → World → Prop} {a0 : Act} {wo : World} {V : Nat → Value} {z1 z2 i1 i2 : Nat} {T1 T2 : TypeId} {o1 o2 n1 n2 : Array Value} {i : Nat} {o : Oper}
/-- What an operation may lean on. -/
structure TAt (ops : Array Oper) (a0 : Act) (V : Nat → Value) (wo : World) (z1 z2 : Nat) (o : Oper) (a : Act) (W : World) : Prop where
  chg : Chg (fun b => b = z1 ∨ b = z2) wo W
  fr : ∀ d, (∀ i, dstOf ops i ≠ some d) → a.eval (.tmp d) = a0.eval (.tmp d)
  dep : ∀ e, e ∈ o.after.toList → Region.binds .any e = true → ∀ d, dstOf ops e.on = some d → a.eval (.tmp d) = V e.on
theorem TAt.old {a : Act} {W : World} (h : TAt ops a0 V wo z1 z2 o a W) (d : Tmp) (hd : hasNoT ops d = true) : a.eval (.tmp d) = a0.eval (.tmp d) := h.fr d (hasNoT_spec hd)
theorem TAt.val {a : Act} {W : World} (h : TAt ops a0 V wo z1 z2 o a W) {k : Nat} {d : Tmp} (hd : DepT ops o k d) : a.eval (.tmp d) = V k := by
  obtain ⟨⟨e, he1, rfl, he3⟩, hdd⟩ := hd
  exact h.dep e he1 he3 d hdd
theorem TAt.cell {a : Act} {W : World} (h : TAt ops a0 V wo z1 z2 o a W) {p : Addr} {v : Value} (hp : wo.cell? p = some v) (n1 : p.block ≠ z1) (n2 : p.block ≠ z2) : W.cell? p = some v :=
  (World.cell?_of_block (h.chg.block p.block (World.block_lt_of_cell? wo p hp) (fun e => e.elim n1 n2))).trans hp
end
end Go.Proofs.YtpmfpgbpndobpaaGreat
