/- A rule for drawn regions that copy a row, change it, and lay the result into a box made there. No condition. -/
import Derived.Test.YtpmfpgbpndobpaaGreatSpC
import Derived.Test.YtpmfpgbpndobpaaGreatRegG
namespace Go.Proofs.YtpmfpgbpndobpaaGreat
open Go.RowKit
set_option linter.unusedVariables false
set_option linter.unusedSimpArgs false

/-- Which operation copies the row, which changes it, which makes the box, which writes it. -/
structure RowP where
  ic : Nat
  im : Nat
  ia : Nat
  iz : Nat
  T : TypeId
  old : Array Value
  new : Nat → Nat → Array Value
  xs : List Itv
  ys : List Itv
structure RwI (p : RowP) (wo : World) (gm : Nat → Nat) (L : Array Bool) (W : World) : Prop where
  gr : Grew wo W
  row : L.getD p.ic false = true → OwnR W wo.heap.size (gm 0) (gm 1) (if L.getD p.im false = true then p.ys else p.xs)
  box : L.getD p.ia false = true → wo.heap.size ≤ gm 2 ∧ Blk W (gm 2) p.T (if L.getD p.iz false = true then p.new (gm 0) (gm 1) else p.old)
  ne : L.getD p.ic false = true → L.getD p.ia false = true → gm 0 ≠ gm 2
/-- What an operation may lean on. -/
structure RwAt (ops : Array Oper) (a0 : Act) (V : (Nat → Nat) → Nat → Value) (wo : World) (gm : Nat → Nat) (o : Oper) (a : Act) (W : World) : Prop where
  gr : Grew wo W
  fr : ∀ d, (∀ i, dstOf ops i ≠ some d) → a.eval (.tmp d) = a0.eval (.tmp d)
  dep : ∀ e, e ∈ o.after.toList → Region.binds .any e = true → ∀ d, dstOf ops e.on = some d → a.eval (.tmp d) = V gm e.on
section
variable {P : Program} {ops : Array Oper} {Q : Exit → Act → World → Prop} {a0 : Act} {p : RowP} {V : (Nat → Nat) → Nat → Value} {wo : World} {gm : Nat → Nat} {i : Nat} {o : Oper} {a : Act} {W : World}
theorem RwAt.slot (h : RwAt ops a0 V wo gm o a W) (d : Tmp) (hd : hasNoT ops d = true) : a.eval (.tmp d) = a0.eval (.tmp d) := h.fr d (hasNoT_spec hd)
theorem RwAt.val (h : RwAt ops a0 V wo gm o a W) {k : Nat} {d : Tmp} (hd : DepT ops o k d) : a.eval (.tmp d) = V gm k := by
  obtain ⟨⟨e, he1, rfl, he3⟩, hdd⟩ := hd
  exact h.dep e he1 he3 d hdd
theorem RwAt.cell (h : RwAt ops a0 V wo gm o a W) {p : Addr} {v : Value} (hp : wo.cell? p = some v) : W.cell? p = some v :=
  (h.gr.cell (World.block_lt_of_cell? wo p hp)).trans hp
abbrev RwStep (P : Program) (ops : Array Oper) (Q : Exit → Act → World → Prop) (a0 : Act) (p : RowP) (V : (Nat → Nat) → Nat → Value) (wo : World) : Nat → Oper → Prop := StepG P ops Q a0 (RwI p wo) (fun gm i _ v => v = V gm i)
theorem getS {L : Array Bool} {i j : Nat} (h : ¬ i = j) : (L.setIfInBounds i true).getD j false = L.getD j false := getD_set h
theorem RwI.quiet {L : Array Bool} {W' : World} (h : RwI p wo gm L W) (g : Grew W W') (h1 : i ≠ p.ic) (h2 : i ≠ p.im) (h3 : i ≠ p.ia) (h4 : i ≠ p.iz) : RwI p wo gm (L.setIfInBounds i true) W' := by
  refine ⟨grew_tr h.gr g, fun hc => ?_, fun ha => ?_, fun hc ha => ?_⟩
  · rw [getS h1] at hc
    rw [getS h2]
    exact (h.row hc).grew g
  · rw [getS h3] at ha
    rw [getS h4]
    exact ⟨(h.box ha).1, (h.box ha).2.grew g⟩
  · rw [getS h1] at hc
    rw [getS h3] at ha
    exact h.ne hc ha
theorem r_val (h1 : i ≠ p.ic) (h2 : i ≠ p.im) (h3 : i ≠ p.ia) (h4 : i ≠ p.iz) (h : ∀ (gm : Nat → Nat) (a : Act) (W : World), RwAt ops a0 V wo gm o a W → (execOp a.eval o).run P W = .ok (.value (V gm i)) W) : RwStep P ops Q a0 p V wo i o := by
  intro gm L a W hLs hi hL hC hI hf hd
  unfold Oper.wp
  rw [h gm a W ⟨hI.gr, hf, fun e he hb => (hd e he hb).2⟩]
  exact ⟨V gm i, gm, rfl, rfl, hI.quiet (Below.refl _ _) h1 h2 h3 h4, fun _ _ _ _ h => h⟩
theorem r_call (h1 : i ≠ p.ic) (h2 : i ≠ p.im) (h3 : i ≠ p.ia) (h4 : i ≠ p.iz) {f : FuncId} {vals : Array Value} (h : ∀ (gm : Nat → Nat) (a : Act) (W : World), RwAt ops a0 V wo gm o a W → (execOp a.eval o).run P W = .ok (.enter f vals) W)
    (C : ∀ gm W, Grew wo W → Calls P f vals W fun e w' => e = .returned (V gm i) ∧ Grew W w') : RwStep P ops Q a0 p V wo i o := by
  intro gm L a W hLs hi hL hC hI hf hd
  unfold Oper.wp
  rw [h gm a W ⟨hI.gr, hf, fun e he hb => (hd e he hb).2⟩]
  refine Calls.mono (C gm W hI.gr) ?_
  rintro e w' ⟨rfl, g⟩
  exact ⟨V gm i, gm, rfl, rfl, hI.quiet g h1 h2 h3 h4, fun _ _ _ _ h => h⟩
def gm01 (gm : Nat → Nat) (rb c : Nat) : Nat → Nat := fun k => if k = 0 then rb else if k = 1 then c else gm k
def gm2 (gm : Nat → Nat) (g : Nat) : Nat → Nat := fun k => if k = 2 then g else gm k
theorem r_copy (hi : p.ic = i) (hm : p.im ≠ i) (ha : p.ia ≠ i) (hz : p.iz ≠ i) (D : List Nat) (hDm : p.im ∈ D) (hDz : p.iz ∈ D) (hD : ∀ (L : Array Bool), Clo ops L → ∀ j, j ∈ D → L.getD j false = true → L.getD i false = true) (hV : ∀ (gm : Nat → Nat) (rb c j : Nat), j ∉ D → V (gm01 gm rb c) j = V gm j ∨ j = i)
    {f : FuncId} {vals : Array Value} (h : ∀ (gm : Nat → Nat) (a : Act) (W : World), RwAt ops a0 V wo gm o a W → (execOp a.eval o).run P W = .ok (.enter f vals) W)
    (C : ∀ gm W, Grew wo W → Calls P f vals W fun e w' => ∃ rb c, e = .returned (V (gm01 gm rb c) i) ∧ OwnR w' W.heap.size rb c p.xs ∧ Grew W w') : RwStep P ops Q a0 p V wo i o := by
  intro gm L a W hLs hiz hL hC hI hf hd
  unfold Oper.wp
  rw [h gm a W ⟨hI.gr, hf, fun e he hb => (hd e he hb).2⟩]
  refine Calls.mono (C gm W hI.gr) ?_
  rintro e w' ⟨rb, c, rfl, hor, g⟩
  have hno : ∀ j, j ∈ D → L.getD j false = true → False := fun j hj hjl => by
    have := hD L hC j hj hjl
    rw [getD_ff hL] at this
    cases this
  have hff : ∀ j, j ∈ D → L.getD j false = false := fun j hj => by
    cases e : L.getD j false
    · rfl
    · exact (hno j hj e).elim
  refine ⟨_, gm01 gm rb c, rfl, rfl, ⟨grew_tr hI.gr g, fun _ => ?_, fun hal => ?_, fun _ hal => ?_⟩, fun j u hji hjl hu => ?_⟩
  · rw [getS (fun e => hm e.symm), hff _ hDm]
    exact hor.mono hI.gr.size
  · rw [getS (fun e => ha e.symm)] at hal
    rw [getS (fun e => hz e.symm), hff _ hDz]
    have := hI.box hal
    rw [hff _ hDz] at this
    exact ⟨this.1, this.2.grew g⟩
  · rw [getS (fun e => ha e.symm)] at hal
    have h1 := (hI.box hal).2.lt
    have h2 := hor.2.1
    show rb ≠ gm 2
    omega
  · have hjD : j ∉ D := fun hj => hno j hj hjl
    rcases hV gm rb c j hjD with h1 | h1
    · simp only at hu ⊢
      rw [hu, h1]
    · exact absurd h1 hji
theorem r_cut (hi : p.im = i) (hc : p.ic ≠ i) (ha : p.ia ≠ i) (hz : p.iz ≠ i) (hdp : ∃ e, e ∈ o.after.toList ∧ e.on = p.ic ∧ Region.binds .any e = true) {f : FuncId} {vals : (Nat → Nat) → Array Value}
    (h : ∀ (gm : Nat → Nat) (a : Act) (W : World), RwAt ops a0 V wo gm o a W → (execOp a.eval o).run P W = .ok (.enter f (vals gm)) W)
    (C : ∀ gm W, OwnR W wo.heap.size (gm 0) (gm 1) p.xs → Calls P f (vals gm) W fun e w' => e = .returned (V gm i) ∧ OwnR w' wo.heap.size (gm 0) (gm 1) p.ys ∧ Chg (fun b => b = gm 0) W w') : RwStep P ops Q a0 p V wo i o := by
  intro gm L a W hLs hiz hL hC hI hf hd
  have hcl : L.getD p.ic false = true := by
    obtain ⟨e, he1, he2, he3⟩ := hdp
    have := (hd e he1 he3).1
    rwa [he2] at this
  have hrow := hI.row hcl
  rw [hi, getD_ff hL] at hrow
  unfold Oper.wp
  rw [h gm a W ⟨hI.gr, hf, fun e he hb => (hd e he hb).2⟩]
  refine Calls.mono (C gm W hrow) ?_
  rintro e w' ⟨rfl, hor, hcg⟩
  refine ⟨_, gm, rfl, rfl, ⟨Below.trans hI.gr (hcg.belowB hI.gr.size (fun k hk => by subst hk; exact hrow.2.1)), fun _ => ?_, fun hal => ?_, fun h1 h2 => ?_⟩, fun _ _ _ _ h => h⟩
  · rw [hi, getD_set1 (by omega), if_pos rfl]
    exact hor
  · rw [getS (fun e => ha e.symm)] at hal
    rw [getS (fun e => hz e.symm)]
    exact ⟨(hI.box hal).1, (hI.box hal).2.chg hcg (fun e => hI.ne hcl hal e.symm)⟩
  · rw [getS (fun e => ha e.symm)] at h2
    exact hI.ne hcl h2
theorem r_alloc (hi : p.ia = i) (hc : p.ic ≠ i) (hm : p.im ≠ i) (hz : p.iz ≠ i) (hdz : ∀ (L : Array Bool), Clo ops L → L.getD p.iz false = true → L.getD i false = true) (hV : ∀ (gm : Nat → Nat) (g j : Nat), j ≠ i → V (gm2 gm g) j = V gm j) (hVi : ∀ gm, V gm i = .pointer (some ⟨gm 2, 0, none⟩))
    (h : ∀ (gm : Nat → Nat) (a : Act) (W : World), RwAt ops a0 V wo gm o a W → (execOp a.eval o).run P W = .ok (.value (.pointer (some ⟨W.heap.size, 0, none⟩))) (W.alloc (.cells p.old p.T))) : RwStep P ops Q a0 p V wo i o := by
  intro gm L a W hLs hiz hL hC hI hf hd
  have hzf : L.getD p.iz false = false := by
    cases e : L.getD p.iz false
    · rfl
    · have := hdz L hC e
      rw [getD_ff hL] at this
      cases this
  unfold Oper.wp
  rw [h gm a W ⟨hI.gr, hf, fun e he hb => (hd e he hb).2⟩]
  refine ⟨_, gm2 gm W.heap.size, rfl, (by show Value.pointer (some ⟨W.heap.size, 0, none⟩) = V (gm2 gm W.heap.size) i; rw [hVi]; rfl), ⟨grew_al hI.gr _, fun hcl => ?_, fun _ => ?_, fun hcl _ => ?_⟩, fun j u hji hjl hu => ?_⟩
  · rw [getS (fun e => hc e.symm)] at hcl
    rw [getS (fun e => hm e.symm)]
    exact (hI.row hcl).grew (grew_al (Below.refl _ _) _)
  · rw [getS (fun e => hz e.symm), hzf]
    exact ⟨hI.gr.size, Blk.new _ _ _⟩
  · rw [getS (fun e => hc e.symm)] at hcl
    have := (hI.row hcl).lt
    show gm 0 ≠ W.heap.size
    omega
  · simp only at hu ⊢
    rw [hu, hV gm _ j hji]
theorem r_store (hi : p.iz = i) (hc : p.ic ≠ i) (hm : p.im ≠ i) (ha : p.ia ≠ i) (hdp : ∃ e, e ∈ o.after.toList ∧ e.on = p.ia ∧ Region.binds .any e = true) (hV : ∀ gm, V gm i = undef)
    (h : ∀ (gm : Nat → Nat) (a : Act) (W : World), RwAt ops a0 V wo gm o a W → Blk W (gm 2) p.T p.old → ∃ W', (execOp a.eval o).run P W = .ok .skip W' ∧ Blk W' (gm 2) p.T (p.new (gm 0) (gm 1)) ∧ Chg (fun t => t = gm 2) W W') : RwStep P ops Q a0 p V wo i o := by
  intro gm L a W hLs hiz hL hC hI hf hd
  have hal : L.getD p.ia false = true := by
    obtain ⟨e, he1, he2, he3⟩ := hdp
    have := (hd e he1 he3).1
    rwa [he2] at this
  have hb := hI.box hal
  rw [hi, getD_ff hL] at hb
  obtain ⟨W', hrun, hnew, hcg⟩ := h gm a W ⟨hI.gr, hf, fun e he hb => (hd e he hb).2⟩ hb.2
  unfold Oper.wp
  rw [hrun]
  refine ⟨undef, gm, rfl, (hV gm).symm, ⟨Below.trans hI.gr (hcg.belowB hI.gr.size (fun k hk => by subst hk; exact hb.1)), fun hcl => ?_, fun _ => ?_, fun h1 h2 => ?_⟩, fun _ _ _ _ h => h⟩
  · rw [getS (fun e => hc e.symm)] at hcl
    rw [getS (fun e => hm e.symm)]
    exact (hI.row hcl).chg hcg (hI.ne hcl hal)
  · rw [hi, getD_set1 (by omega), if_pos rfl]
    exact ⟨hb.1, hnew⟩
  · rw [getS (fun e => hc e.symm)] at h1
    exact hI.ne h1 hal
/-- A region that copies a row, changes it, and lays the result into a box that it makes. -/
theorem region_row {id : Nat} (n : Nat) (p : RowP) (V : (Nat → Nat) → Nat → Value) (hm : P.follows .mixedOrders = true) (hn : a0.tmps.size = n) (hB : regB ops n = true) (hlt : p.ic < ops.size ∧ p.im < ops.size ∧ p.ia < ops.size ∧ p.iz < ops.size) (hstep : AllSteps (RwStep P ops Q a0 p V wo) 0 ops.toList)
    (hend : ∀ (gm : Nat → Nat) (vs : Nat → Value) (w' : World), Grew wo w' → OwnR w' wo.heap.size (gm 0) (gm 1) p.ys → wo.heap.size ≤ gm 2 → Blk w' (gm 2) p.T (p.new (gm 0) (gm 1)) → gm 0 ≠ gm 2 → (∀ i d, dstOf ops i = some d → vs i = V gm i) → Q .normal (putAll ops.toList vs 0 a0) w') : (Code.region id ops true).wp P Q a0 wo := by
  subst hn
  refine wp_region_gh (RwI p wo) (fun gm i _ v => v = V gm i) (fun _ => 0) hm hB ⟨grew_d (Below.refl _ _), fun hc => ?_, fun ha => ?_, fun hc _ => ?_⟩ (fun i o ho => by have := allSteps_get _ _ hstep i o (by simpa using ho); rwa [Nat.zero_add] at this) ?_
  · rw [getD_rep] at hc; cases hc
  · rw [getD_rep] at ha; cases ha
  · rw [getD_rep] at hc; cases hc
  · rintro gm vs w' ⟨L, hI, hL⟩ hv
    have hb := hI.box (hL _ hlt.2.2.1)
    have hr := hI.row (hL _ hlt.1)
    rw [hL _ hlt.2.2.2, if_pos rfl] at hb
    rw [hL _ hlt.2.1, if_pos rfl] at hr
    exact hend gm vs w' hI.gr hr hb.1 hb.2 (hI.ne (hL _ hlt.1) (hL _ hlt.2.2.1)) hv
end
end Go.Proofs.YtpmfpgbpndobpaaGreat
