/- The program's reader of a certificate: what is at its places; what is wrong. No condition. -/
import Derived.Test.YtdddhnepanjmfaaGreatVi
import Derived.Test.YtdddhnepanjmfaaGreatItvM
namespace Go.Proofs.YtdddhnepanjmfaaGreat
open Go.RowKit
set_option linter.unusedVariables false
set_option linter.unusedSimpArgs false
attribute [local go_sem] ext_cell ext_frozen ext_lt ext_le ext_le1 lt_s2 lt_s3 lt_s4 lt_s5 lt_s6 ext_lt1 ext_lt2 ext_lt3

/-- A state behind a pointer. -/
def StAt (W : World) (v : Value) (s : St) : Prop := ∃ sb, v = .pointer (some ⟨sb, 0, none⟩) ∧ Blk W sb 165 (stC s.vars s.lo s.hi)
def KsRel (W : World) : List (Site × Value) → List (Site × St) → Prop
  | [], [] => True
  | (k, v) :: ks, (l, s) :: ls => k = l ∧ StAt W v s ∧ KsRel W ks ls
  | _, _ => False
theorem KsRel.turn {W W' : World} (h : ∀ v s, StAt W v s → StAt W' v s) : ∀ {ks : List (Site × Value)} {L : List (Site × St)}, KsRel W ks L → KsRel W' ks L
  | [], [], _ => trivial
  | (k, v) :: ks, (l, s) :: ls, ⟨h1, h2, h3⟩ => ⟨h1, h v s h2, KsRel.turn h h3⟩
  | [], _ :: _, h => h.elim
  | _ :: _, [], h => h.elim
theorem StAt.grew {W W' : World} {v : Value} {s : St} (h : StAt W v s) (g : Grew W W') : StAt W' v s := by
  obtain ⟨sb, h1, h2⟩ := h
  exact ⟨sb, h1, h2.grew g⟩
theorem KsRel.grew {W W' : World} {ks : List (Site × Value)} {L : List (Site × St)} (h : KsRel W ks L) (g : Grew W W') : KsRel W' ks L := h.turn fun _ _ hs => hs.grew g
theorem StAt.map {W W' : World} {v : Value} {s : St} {g : Nat} {ks : List (Site × Value)} (h : StAt W v s) (hm : MapS g ks W) (c : Chg (fun b => b = g) W W') : StAt W' v s := by
  obtain ⟨sb, h1, h2⟩ := h
  refine ⟨sb, h1, h2.chg c (fun e => ?_)⟩
  subst e
  obtain ⟨es, clock, h3, -⟩ := hm
  have h4 : W.heap[sb]? = _ := h2
  rw [h3] at h4
  cases h4
theorem StAt.mapO {W W' : World} {v : Value} {s : St} {g : Nat} {ks : List Int} (h : StAt W v s) (hm : MapO g ks W) (c : Chg (fun b => b = g) W W') : StAt W' v s := by
  obtain ⟨sb, h1, h2⟩ := h
  refine ⟨sb, h1, h2.chg c (fun e => ?_)⟩
  subst e
  obtain ⟨es, clock, h3, -⟩ := hm
  have h4 : W.heap[sb]? = _ := h2
  rw [h3] at h4
  cases h4
theorem KsRel.snoc {W : World} {k : Site} {v : Value} {s : St} (hs : StAt W v s) : ∀ {ks : List (Site × Value)} {L : List (Site × St)}, KsRel W ks L → KsRel W (ks ++ [(k, v)]) (L ++ [(k, s)])
  | [], [], _ => ⟨rfl, hs, trivial⟩
  | (k, v) :: ks, (l, s) :: ls, ⟨h1, h2, h3⟩ => ⟨h1, h2, KsRel.snoc hs h3⟩
  | [], _ :: _, h => h.elim
  | _ :: _, [], h => h.elim
theorem KsRel.none {W : World} {x : Site} : ∀ {ks : List (Site × Value)} {L : List (Site × St)}, KsRel W ks L → lookL L x = none → lookV ks x = none
  | [], [], _, _ => rfl
  | (k, v) :: ks, (l, s) :: ls, ⟨h1, h2, h3⟩, h => by
    subst h1
    rw [lookL] at h
    rw [lookV]
    by_cases e : x = k
    · rw [if_pos e] at h; cases h
    · rw [if_neg e] at h ⊢
      exact KsRel.none h3 h
  | [], _ :: _, h, _ => h.elim
  | _ :: _, [], h, _ => h.elim
theorem KsRel.some {W : World} {x : Site} {st : St} : ∀ {ks : List (Site × Value)} {L : List (Site × St)}, KsRel W ks L → lookL L x = some st → ∃ v, lookV ks x = some v ∧ StAt W v st
  | [], [], _, h => by simp [lookL] at h
  | (k, v) :: ks, (l, s) :: ls, ⟨h1, h2, h3⟩, h => by
    subst h1
    rw [lookL] at h
    rw [lookV]
    by_cases e : x = k
    · rw [if_pos e] at h ⊢
      obtain rfl := Option.some.inj h
      exact ⟨v, rfl, h2⟩
    · rw [if_neg e] at h ⊢
      exact KsRel.some h3 h
  | [], _ :: _, h, _ => h.elim
  | _ :: _, [], h, _ => h.elim
/-- A certificate in memory: what it holds at its places. -/
def CertI (a : Option Addr) (n cap : Nat) (ta : Option Addr) (tn tc : Nat) (L : List (Site × St)) (gc : Nat) (W : World) : Prop :=
  ∃ gs go ks, Blk W gc 121 #[.slice a n cap, .slice ta tn tc, .map (some gs), .map (some go)] ∧ MapS gs ks W ∧ KsRel W ks L
theorem CertI.grew {a : Option Addr} {n cap : Nat} {ta : Option Addr} {tn tc : Nat} {L : List (Site × St)} {gc : Nat} {W W' : World} (h : CertI a n cap ta tn tc L gc W) (g : Grew W W') : CertI a n cap ta tn tc L gc W' := by
  obtain ⟨gs, go, ks, h1, h2, h3⟩ := h
  exact ⟨gs, go, ks, h1.grew g, h2.grew g, h3.grew g⟩
def RetRC (a : Option Addr) (n cap : Nat) (ta : Option Addr) (tn tc : Nat) (ok : Bool) (L : List (Site × St)) (w : World) (e : Ending) (w' : World) : Prop :=
  Grew w w' ∧ (ok = false ∧ e = .returned (.tuple #[.pointer none, .bool false]) ∨ ok = true ∧ ∃ gc, e = .returned (.tuple #[.pointer (some ⟨gc, 0, none⟩), .bool true]) ∧ CertI a n cap ta tn tc L gc w')

/-! ### When it is right -/
theorem certB_true {ps : List Prc} {part : List Int} {ss : List (List St)} {os : List Sum} (h1 : ss.length = part.length) (h2 : os.length = part.length)
    (h : ∀ (i : Nat) (p : Int) (row : List St) (o : Sum), part[i]? = some p → ss[i]? = some row → os[i]? = some o → rowB ps p row = true ∧ sumOkB o = true) : certB ps part ⟨ss, os⟩ = true := by
  unfold certB
  simp only [Bool.and_eq_true, decide_eq_true_eq]
  refine ⟨⟨⟨h1, h2⟩, ?_⟩, ?_⟩
  · rw [List.all_eq_true]
    rintro ⟨p, row⟩ hm
    obtain ⟨i, hi⟩ := List.getElem?_of_mem hm
    rw [List.getElem?_zip_eq_some] at hi
    have hl := (List.getElem?_eq_some_iff.1 hi.1).1
    exact (h i p row _ hi.1 hi.2 (List.getElem?_eq_getElem (by omega))).1
  · rw [List.all_eq_true]
    intro o hm
    obtain ⟨i, hi⟩ := List.getElem?_of_mem hm
    have hl := (List.getElem?_eq_some_iff.1 hi).1
    exact (h i _ _ o (List.getElem?_eq_getElem (by omega)) (List.getElem?_eq_getElem (by omega)) hi).2
theorem certB_row {ps : List Prc} {part : List Int} {ss : List (List St)} {os : List Sum} {i : Nat} {p : Int} {row : List St} (hp : part[i]? = some p) (hr : ss[i]? = some row) (h : rowB ps p row = false) : certB ps part ⟨ss, os⟩ = false := by
  cases hc : certB ps part ⟨ss, os⟩ with
  | false => rfl
  | true =>
    unfold certB at hc
    simp only [Bool.and_eq_true, List.all_eq_true] at hc
    have := hc.1.2 (p, row) (List.mem_of_getElem? (by rw [List.getElem?_zip_eq_some]; exact ⟨hp, hr⟩))
    rw [h] at this
    cases this
theorem certB_out {ps : List Prc} {part : List Int} {ss : List (List St)} {os : List Sum} {i : Nat} {o : Sum} (ho : os[i]? = some o) (h : sumOkB o = false) : certB ps part ⟨ss, os⟩ = false := by
  cases hc : certB ps part ⟨ss, os⟩ with
  | false => rfl
  | true =>
    unfold certB at hc
    simp only [Bool.and_eq_true, List.all_eq_true] at hc
    have := hc.2 o (List.mem_of_getElem? ho)
    rw [h] at this
    cases this
theorem certB_len {ps : List Prc} {part : List Int} {ss : List (List St)} {os : List Sum} (h : ¬ (ss.length = part.length ∧ os.length = part.length)) : certB ps part ⟨ss, os⟩ = false := by
  cases hc : certB ps part ⟨ss, os⟩ with
  | false => rfl
  | true =>
    unfold certB at hc
    simp only [Bool.and_eq_true, decide_eq_true_eq] at hc
    exact absurd hc.1.1 h
theorem rowB_st {ps : List Prc} {p : Int} {row : List St} {j : Nat} {s : St} (hs : row[j]? = some s) (h : stB s = false) : rowB ps p row = false := by
  cases hc : rowB ps p row with
  | false => rfl
  | true =>
    unfold rowB at hc
    simp only [Bool.and_eq_true, List.all_eq_true] at hc
    have := hc.2 s (List.mem_of_getElem? hs)
    rw [h] at this
    cases this
theorem rowB_len {ps : List Prc} {p : Int} {row : List St} (h : row.length ≠ (codeOfP ps p).length) : rowB ps p row = false := by
  unfold rowB
  simp [h]
theorem rowB_true {ps : List Prc} {p : Int} {row : List St} (h : row.length = (codeOfP ps p).length) (hs : ∀ (j : Nat) (s : St), row[j]? = some s → stB s = true) : rowB ps p row = true := by
  unfold rowB
  simp only [Bool.and_eq_true, decide_eq_true_eq, List.all_eq_true]
  refine ⟨h, fun s hm => ?_⟩
  obtain ⟨j, hj⟩ := List.getElem?_of_mem hm
  exact hs j s hj
theorem wp_letV {P : Program} {c : Code} {Q : Exit → Act → World → Prop} {a : Act} {W : World} (h : ∀ E, E = W → c.wp P Q a E) : c.wp P Q a W := h W rfl

/-- What is fixed while a certificate is read. -/
structure RcH (w : World) (a : Option Addr) (n : Nat) (ps : List Prc) (ta : Option Addr) (tn : Nat) (part : List Int) (va : Option Addr) (ss : List (List St)) (oa : Option Addr) (os : List Sum) : Prop where
  rp : RdP w a n ps
  ok : prgOkB ps = true
  rt : Rd w ta tn 1 (ints .i64 part)
  tl : part.length = tn
  sr : Srt part
  bd : ∀ x, x ∈ part → 0 ≤ x ∧ x < n
  rs : RdL ERow 1 w va ss.length ss
  ro : RdL ESum 3 w oa os.length os

/-- What stands while it is read. -/
structure RcI (w : World) (a : Option Addr) (n cap : Nat) (ta : Option Addr) (tn tc : Nat) (part : List Int) (va : Option Addr) (vc : Nat) (oa : Option Addr) (oc gc gs go : Nat) (L : List (Site × St)) (k : Nat) (W : World) : Prop where
  g : Grew w W
  b3 : Blk W w.heap.size 34 #[.slice a n cap]
  b5 : Blk W (w.heap.size + 1) 58 #[.slice va tn vc, .slice oa tn oc]
  bc : Blk W gc 121 #[.slice a n cap, .slice ta tn tc, .map (some gs), .map (some go)]
  ms : ∃ ks, MapS gs ks W ∧ KsRel W ks L
  mo : ∃ js, MapO go js W ∧ ∀ j, j ∈ js → ∃ i, i < k ∧ part[i]? = some j
section
variable {w : World} {a : Option Addr} {n cap : Nat} {ta : Option Addr} {tn tc : Nat} {part : List Int} {va : Option Addr} {vc : Nat} {oa : Option Addr} {oc gc gs go : Nat} {L : List (Site × St)} {k : Nat} {W W' : World}
theorem RcI.grew (h : RcI w a n cap ta tn tc part va vc oa oc gc gs go L k W) (x : Grew W W') : RcI w a n cap ta tn tc part va vc oa oc gc gs go L k W' := by
  obtain ⟨h1, h2, h3, h4, ⟨ks, h5, h6⟩, js, h7, h8⟩ := h
  exact ⟨grew_tr h1 x, h2.grew x, h3.grew x, h4.grew x, ⟨ks, h5.grew x, h6.grew x⟩, js, h7.grew x, h8⟩
theorem blk_map {g : Nat} {t : TypeId} {cs : Array Value} {m : Nat} {ks : List (Site × Value)} (h : Blk W g t cs) (hm : MapS m ks W) : g ≠ m := by
  rintro rfl
  obtain ⟨es, clock, h3, -⟩ := hm
  have h4 : W.heap[g]? = _ := h
  rw [h3] at h4
  cases h4
theorem blk_mapO {g : Nat} {t : TypeId} {cs : Array Value} {m : Nat} {ks : List Int} (h : Blk W g t cs) (hm : MapO m ks W) : g ≠ m := by
  rintro rfl
  obtain ⟨es, clock, h3, -⟩ := hm
  have h4 : W.heap[g]? = _ := h
  rw [h3] at h4
  cases h4
theorem RcI.putS (h : RcI w a n cap ta tn tc part va vc oa oc gc gs go L k W) (hgs : w.heap.size ≤ gs) (hne : gs ≠ go) {p : Int} {j : Nat} {b : Nat} {st : St} (hf : lookL L ⟨p, j⟩ = none) (hb : Blk W b 165 (stC st.vars st.lo st.hi)) :
    ∃ W', (Instr.mapUpdate 118 (.map (some gs)) (.agg #[.int .i64 p, .int .i64 j]) (.pointer (some ⟨b, 0, none⟩))).run Tryz.prog W = .ok () W' ∧ RcI w a n cap ta tn tc part va vc oa oc gc gs go (L ++ [(⟨p, j⟩, st)]) k W' := by
  obtain ⟨h1, h2, h3, h4, ⟨ks, h5, h6⟩, js, h7, h8⟩ := h
  obtain ⟨W', hr, hm, c⟩ := h5.put ⟨p, j⟩ (.pointer (some ⟨b, 0, none⟩)) (h6.none hf)
  have hs : StAt W (.pointer (some ⟨b, 0, none⟩)) st := ⟨b, rfl, hb⟩
  refine ⟨W', hr, h1.trans (c.belowB h1.size (fun q e => by omega)), h2.chg c (blk_map h2 h5), h3.chg c (blk_map h3 h5), h4.chg c (blk_map h4 h5), ⟨_, hm, ?_⟩, js, h7.chg c (fun e => hne e.symm), h8⟩
  exact KsRel.snoc (hs.map h5 c) (h6.turn fun v s hv => hv.map h5 c)
theorem RcI.putO (h : RcI w a n cap ta tn tc part va vc oa oc gc gs go L k W) (hgo : w.heap.size ≤ go) (hne : gs ≠ go) (hn : part.Nodup) {p : Int} (hp : part[k]? = some p) (v : Value) :
    ∃ W', (Instr.mapUpdate 119 (.map (some go)) (.int .i64 p) v).run Tryz.prog W = .ok () W' ∧ RcI w a n cap ta tn tc part va vc oa oc gc gs go L (k + 1) W' := by
  obtain ⟨h1, h2, h3, h4, ⟨ks, h5, h6⟩, js, h7, h8⟩ := h
  obtain ⟨W', hr, hm, c⟩ := h7.put p v (fun hm => by
    obtain ⟨i, hi, hpi⟩ := h8 p hm
    have := nodup_get hn hp hpi
    omega)
  refine ⟨W', hr, h1.trans (c.belowB h1.size (fun q e => by omega)), h2.chg c (blk_mapO h2 h7), h3.chg c (blk_mapO h3 h7), h4.chg c (blk_mapO h4 h7), ⟨ks, h5.chg c hne, h6.turn fun v s hv => hv.mapO h7 c⟩, _, hm, fun j hj => ?_⟩
  rcases List.mem_append.1 hj with hj | hj
  · obtain ⟨i, hi, hpi⟩ := h8 j hj
    exact ⟨i, by omega, hpi⟩
  · obtain rfl := List.mem_singleton.1 hj
    exact ⟨k, by omega, hp⟩
theorem RcI.next (h : RcI w a n cap ta tn tc part va vc oa oc gc gs go L k W) : RcI w a n cap ta tn tc part va vc oa oc gc gs go L (k + 1) W := by
  obtain ⟨h1, h2, h3, h4, h5, js, h7, h8⟩ := h
  exact ⟨h1, h2, h3, h4, h5, js, h7, fun j hj => by obtain ⟨i, hi, hp⟩ := h8 j hj; exact ⟨i, by omega, hp⟩⟩
end

set_option maxRecDepth 100000 in
set_option maxHeartbeats 8000000 in
theorem readCertT (a : Option Addr) (n cap : Nat) (ps : List Prc) (ta : Option Addr) (tn tc : Nat) (part : List Int) (va : Option Addr) (vc : Nat) (oa : Option Addr) (oc : Nat) (ss : List (List St)) (os : List Sum) (w : World) (h : RcH w a n ps ta tn part va ss oa os)
    (hn : n ≤ 9223372036854775807) (ht1 : 1 ≤ tn) (htn : tn ≤ 1000) (hsl : ss.length ≤ 9223372036854775807) (hol : os.length ≤ 9223372036854775807) :
    Calls Tryz.prog 26 #[.agg #[.slice a n cap], .slice ta tn tc, .agg #[.slice va ss.length vc, .slice oa os.length oc]] w (RetRC a n cap ta tn tc (certB ps part ⟨ss, os⟩) (certL part ss tn) w) := by
  have CI := Lib.hid fun W (g : Grew w W) => isPartT a n cap ps ta tn tc part W (h.rp.grew g) hn h.ok (h.rt.grew g) ht1 htn h.sr h.bd
  have CN := Lib.hid fun W => newCertT a n cap ta tn tc W
  have HH := Lib.hid h
  have HL1 := Lib.hid (certB_len (ps := ps) (part := part) (ss := ss) (os := os))
  clear h
  obtain ⟨n1, hn1⟩ : ∃ k, ss.length = k := ⟨_, rfl⟩
  obtain ⟨n2, hn2⟩ : ∃ k, os.length = k := ⟨_, rfl⟩
  have HN1 := Lib.hid hn1
  have HN2 := Lib.hid hn2
  rw [hn1] at hsl ⊢
  rw [hn2] at hol ⊢
  clear hn1 hn2
  have HB3 := Lib.hid ((Blk.new w 34 #[.slice a n cap]).alloc (.cells #[.slice va n1 vc, .slice oa n2 oc] 58))
  have HB5 := Lib.hid (Blk.new (w.alloc (.cells #[.slice a n cap] 34)) 58 #[.slice va n1 vc, .slice oa n2 oc])
  simp only [World.size_alloc] at HB5
  go_enter Tryz.func26, Tryz.ntmps26
  go_wp2_with fail
  refine (CI.out _ (grew_al (grew_al (Below.refl _ w) _) _)).mono ?_
  rintro e w1 ⟨rfl, g1⟩
  have HC3 := Lib.hid (HB3.out.grew g1)
  have HC5 := Lib.hid (HB5.out.grew g1)
  have HG1 := Lib.hid (show Grew w w1 from grew_tr (grew_al (grew_al (Below.refl _ w) _) _) g1)
  have z3 := HC3.out.cell 0
  have l3 := HC3.out.lt
  have z5 := HC5.out.cell 0
  have y5 := HC5.out.cell 1
  have l5 := HC5.out.lt
  simp only [List.getElem?_toArray, List.getElem?_cons_zero, List.getElem?_cons_succ] at z3 z5 y5
  clear g1 HB3 HB5 CI
  by_cases e1 : n1 = tn
  case neg =>
    have hcf := Lib.hid (HL1.out (fun e => e1 (by rw [← HN1.out, e.1, HH.out.tl])))
    have e1' : ((n1 : Int) != (tn : Int)) = true := by simp; omega
    clear e1
    go_wp2
    go_returns
    exact ⟨HG1.out, .inl ⟨hcf.out, rfl⟩⟩
  by_cases e2 : n2 = tn
  case neg =>
    have hcf := Lib.hid (HL1.out (fun e => e2 (by rw [← HN2.out, e.2, HH.out.tl])))
    have e1' : ((n1 : Int) != (tn : Int)) = false := by simp [e1]
    have e2' : ((n2 : Int) != (tn : Int)) = true := by simp; omega
    clear e1 e2
    go_wp2
    go_returns
    exact ⟨HG1.out, .inl ⟨hcf.out, rfl⟩⟩
  subst e1
  subst e2
  clear HL1
  go_wp2_with fail
  refine (CN.out _).mono ?_
  rintro e w2 ⟨gc, gs, go, rfl, hbc, hms, hmo, ⟨ho1, ho2, ho3⟩, g2⟩
  have HGS := Lib.hid (show w.heap.size ≤ gs by have := HG1.out.size; omega)
  have HGO := Lib.hid (show w.heap.size ≤ go by have := HG1.out.size; omega)
  have HNE := Lib.hid (show gs ≠ go by omega)
  have HI := Lib.hid (show RcI w a n cap ta n2 tc part va vc oa oc gc gs go (certL part ss 0) 0 w2 from ⟨grew_tr HG1.out g2, HC3.out.grew g2, HC5.out.grew g2, hbc, ⟨[], hms, trivial⟩, [], hmo, fun j hj => nomatch hj⟩)
  have HND := Lib.hid (srt_nodup HH.out.sr)
  clear hbc hms hmo ho1 ho2 ho3 g2 CN HC3 HC5 HG1 z3 l3 z5 y5 l5
  go_wp2
  go_loopw [41] (fun i wr => ∃ k : Nat, k ≤ n2 ∧ i = .int .i64 k ∧ RcI w a n cap ta n2 tc part va vc oa oc gc gs go (certL part ss k) k wr ∧ Hid (∀ (i : Nat) (p : Int) (row : List St) (o : Sum), i < k → part[i]? = some p → ss[i]? = some row → os[i]? = some o → rowB ps p row = true ∧ sumOkB o = true)) (fun i _ => n2 - (Go.RowKit.intOf i).toNat)
  case atStart => exact ⟨0, Nat.zero_le _, rfl, HI.out, Lib.hid (fun i p row o h => by omega)⟩
  case round =>
    clear HI
    obtain ⟨k, hk, rfl, hI, hpre⟩ := hrel
    have HI := Lib.hid hI
    by_cases hlt : k < n2
    · obtain ⟨bt, ot, p, rfl, hp, t0⟩ := part_at HH.out.rt hlt
      obtain ⟨br, of, ra, row, rc, rfl, hrow, r0, hbr, hr1, hr2, hr3⟩ := rdRow_at HH.out.rs (show k < ss.length by have := HN1.out; omega)
      obtain ⟨bo, oo, on, olo, ohi, rfl, ho, o0, o1, o2, hbo⟩ := rdSum_at HH.out.ro (show k < os.length by have := HN2.out; omega)
      obtain ⟨hp0, hp1⟩ := HH.out.bd p (List.mem_of_getElem? hp)
      obtain ⟨P, rfl⟩ : ∃ P : Nat, p = P := ⟨p.toNat, by omega⟩
      obtain ⟨bp, op, plo, phi, is, ia, ic, rfl, hps, p0, p1, p2, hbp, hi1, hi2, hi3⟩ := rdP_at HH.out.rp (show P < n by omega)
      have hcode : codeOfP ps P = is := by unfold codeOfP; rw [Int.toNat_natCast, hps]
      have hPn : (P : Int) < n := hp1
      have HT0 := Lib.hid t0
      have HR0 := Lib.hid r0
      have HO0 := Lib.hid o0
      have HO1 := Lib.hid o1
      have HO2 := Lib.hid o2
      have HP2 := Lib.hid p2
      have HP := Lib.hid hp
      have HRow := Lib.hid hrow
      have HO := Lib.hid ho
      have HR1 := Lib.hid hr1
      have HCo := Lib.hid hcode
      have HPre := Lib.hid hpre.out
      have hrl63 : row.length ≤ 9223372036854775807 := by unfold maxLen at hr3; omega
      have hcl63 : is.length ≤ 9223372036854775807 := by unfold maxLen at hi3; omega
      obtain ⟨rl, hrl⟩ : ∃ x, row.length = x := ⟨_, rfl⟩
      obtain ⟨il, hil⟩ : ∃ x, is.length = x := ⟨_, rfl⟩
      rw [hrl] at HR0 HR1 hrl63
      rw [hil] at HP2 hcl63
      have HRl := Lib.hid hrl
      have HIl := Lib.hid hil
      have CS := Lib.hid fun W => implSumOk ⟨on, olo, ohi⟩ W
      have z3 := HI.out.b3.cell 0
      have l3 := HI.out.b3.lt
      have z5 := HI.out.b5.cell 0
      have y5 := HI.out.b5.cell 1
      have l5 := HI.out.b5.lt
      simp only [List.getElem?_toArray, List.getElem?_cons_zero, List.getElem?_cons_succ] at z3 z5 y5
      have q0 := gk HI.out.g HT0.out
      have q1 := gk HI.out.g HR0.out
      have q2 := gk HI.out.g HP2.out
      have q3 := gk HI.out.g HO0.out
      have q4 := gk HI.out.g HO1.out
      have q5 := gk HI.out.g HO2.out
      have lp : bp < wr.heap.size := Nat.lt_of_lt_of_le hbp HI.out.g.size
      have lo5 : bo < wr.heap.size := Nat.lt_of_lt_of_le hbo HI.out.g.size
      have lr : br < wr.heap.size := Nat.lt_of_lt_of_le hbr HI.out.g.size
      clear t0 r0 o0 o1 o2 p0 p1 p2 hp hrow ho hr1 hcode hpre hps hi1 hi2 hi3 hr2 hr3 hI hrl hil hbr hbo hbp hp0 hp1
      by_cases hlc : rl = il
      case neg =>
        have hcf := Lib.hid (certB_row (ps := ps) (os := os) HP.out HRow.out (rowB_len (by rw [HCo.out, HRl.out, HIl.out]; exact hlc)))
        have hne : ((rl : Int) != (il : Int)) = true := by simp; omega
        go_wp2_with fail
        first | refine wp_region_ext2 (by kernel_rfl) (by kernel_rfl) ?_ | refine wp_region_ext (by kernel_rfl) (by kernel_rfl) ?_
        repeat (go_big_quiet_step ((first | fail)))
        refine wpQuiet_nil ?_
        intro _ hw'
        obtain ⟨u, hw''⟩ := hw'
        subst hw''
        go_wp2
        go_returns
        exact ⟨grew_ext HI.out.g u, .inl ⟨hcf.out, rfl⟩⟩
      subst hlc
      have hne : ((rl : Int) != (rl : Int)) = false := by simp
      cases hob : sumOkB ⟨on, olo, ohi⟩ with
      | false =>
        have hcf := Lib.hid (certB_out (ps := ps) (part := part) (ss := ss) HO.out hob)
        rw [hob] at CS
        go_wp2_with fail
        first | refine wp_region_ext2 (by kernel_rfl) (by kernel_rfl) ?_ | refine wp_region_ext (by kernel_rfl) (by kernel_rfl) ?_
        repeat (go_big_quiet_step ((first | (with_reducible exact ext_grow (CS.out _)))))
        refine wpQuiet_nil ?_
        intro _ hw'
        obtain ⟨u, hw''⟩ := hw'
        subst hw''
        go_wp2
        go_returns
        exact ⟨grew_ext HI.out.g u, .inl ⟨hcf.out, rfl⟩⟩
      | true =>
        rw [hob] at CS
        have HOB := Lib.hid hob
        clear hob
        go_wp2_with fail
        first | refine wp_region_ext2 (by kernel_rfl) (by kernel_rfl) ?_ | refine wp_region_ext (by kernel_rfl) (by kernel_rfl) ?_
        repeat (go_big_quiet_step ((first | (with_reducible exact ext_grow (CS.out _)))))
        refine wpQuiet_nil ?_
        intro _ hw'
        obtain ⟨u, hw''⟩ := hw'
        subst hw''
        go_upto_region 9 with fail
        refine wp_letV ?_
        intro E hE
        have HIE := Lib.hid (HI.out.grew (show Grew wr E by rw [hE]; exact gr))
        clear hE z3 l3 z5 y5 l5 q0 q1 q2 q3 q4 q5 lp lo5 lr HI
        have z5 := HIE.out.b5.cell 0
        have l5 := HIE.out.b5.lt
        simp only [List.getElem?_toArray, List.getElem?_cons_zero] at z5
        have q1 := gk HIE.out.g HR0.out
        go_wp2
        go_loopw [75] (fun i wq => ∃ j : Nat, j ≤ rl ∧ i = .int .i64 j ∧ RcI w (some ⟨bp, op, none⟩) n cap (some ⟨bt, ot, none⟩) n2 tc part (some ⟨br, of, none⟩) vc (some ⟨bo, oo, none⟩) oc gc gs go (certL part ss k ++ rowL P row j) k wq ∧ Hid (∀ (i : Nat) (s : St), i < j → row[i]? = some s → stB s = true)) (fun i _ => rl - (Go.RowKit.intOf i).toNat)
        case atStart => exact ⟨0, Nat.zero_le _, rfl, by simpa [rowL] using HIE.out, Lib.hid (fun i s h => by omega)⟩
        case round =>
          clear HIE z5 l5 q1
          obtain ⟨j, hj, rfl, hI, hst⟩ := hrel
          have HI := Lib.hid hI
          by_cases hlj : j < rl
          · obtain ⟨bs, ofs, son, xa, xs, xc, slo, shi, rfl, hs, s0, s1, s2, s3, hbs, hx1, hx2, hx3⟩ := rdSt_at HR1.out hlj
            have HS := Lib.hid hs
            have hxl63 : xs.length ≤ 9223372036854775807 := by unfold maxLen at hx3; omega
            have CR := Lib.hid fun W (g : Grew w W) => implReadState son xa xs.length xc xs slo shi W (hx1.grew staysItv g) hxl63 hx2
            obtain ⟨xn, hxn⟩ : ∃ x, xs.length = x := ⟨_, rfl⟩
            rw [hxn] at CR s1
            have c0 := gk HI.out.g s0
            have c1 := gk HI.out.g s1
            have c2 := gk HI.out.g s2
            have c3 := gk HI.out.g s3
            have HStP := Lib.hid hst.out
            clear hI hst hs s0 s1 s2 s3 hx1 hx2 hx3 hxl63 hxn hbs
            go_wp2_with fail
            refine (CR.out _ (grew_tr HI.out.g (grew_al (Below.refl _ _) _))).mono ?_
            rintro e w5 ⟨g5, hq⟩
            have HI5 := Lib.hid (HI.out.grew (grew_tr (grew_al (Below.refl _ _) _) g5))
            clear g5 HI c0 c1 c2 c3 CR
            rcases hq with ⟨hbk, rfl⟩ | ⟨hbk, b, rfl, hb1, hb2⟩
            · cases hok : stOkB son xs slo shi with
              | false =>
                have hcf := Lib.hid (certB_row (ps := ps) (os := os) HP.out HRow.out (rowB_st HS.out hok))
                clear hok hbk
                go_wp2
                go_returns
                exact ⟨HI5.out.g, .inl ⟨hcf.out, rfl⟩⟩
              | true =>
                have hson : son = false := by rw [hok] at hbk; simpa using hbk
                subst hson
                have HRL := Lib.hid (show rowL P row (j + 1) = rowL P row j by rw [rowL_succ HS.out]; simp)
                have HOk := Lib.hid (show stB ⟨false, xs, slo, shi⟩ = true from hok)
                clear hok hbk
                go_wp2
                go_roundw
                case rel => exact ⟨j + 1, by omega, by go_num, by rw [HRL.out]; exact HI5.out, Lib.hid (fun i s hi hs => by
                  by_cases h : i < j
                  · exact HStP.out i s h hs
                  · obtain rfl : i = j := by omega
                    rw [HS.out] at hs
                    obtain rfl := Option.some.inj hs
                    exact HOk.out)⟩
                case measure => simp [Go.RowKit.intOf]; omega
            · simp only [Bool.and_eq_true] at hbk
              obtain ⟨hok, rfl⟩ := hbk
              have HOk := Lib.hid (show stB ⟨true, xs, slo, shi⟩ = true from hok)
              have HRL := Lib.hid (show rowL P row (j + 1) = rowL P row j ++ [(⟨P, j⟩, ⟨true, xs, slo, shi⟩)] by rw [rowL_succ HS.out]; simp)
              obtain ⟨W6, hput, hI6⟩ := HI5.out.putS HGS.out HNE.out (p := P) (j := j) (b := b) (st := ⟨true, xs, slo, shi⟩) (certL_fresh HND.out HP.out) hb2
              have HI6 := Lib.hid hI6
              have v2 := HI5.out.bc.cell 2
              have vl := HI5.out.bc.lt
              simp only [List.getElem?_toArray, List.getElem?_cons_zero, List.getElem?_cons_succ] at v2
              clear hok hb1 hb2 hI6
              go_wp2
              go_roundw
              case rel => exact ⟨j + 1, by omega, by go_num, by rw [HRL.out, ← List.append_assoc]; exact HI6.out, Lib.hid (fun i s hi hs => by
                by_cases h : i < j
                · exact HStP.out i s h hs
                · obtain rfl : i = j := by omega
                  rw [HS.out] at hs
                  obtain rfl := Option.some.inj hs
                  exact HOk.out)⟩
              case measure => simp [Go.RowKit.intOf]; omega
          · obtain rfl : j = rl := by omega
            have HCL := Lib.hid (show certL part ss (k + 1) = certL part ss k ++ rowL P row j by rw [certL_succ HP.out HRow.out, HRl.out])
            have HPk := Lib.hid (show ∀ (i : Nat) (p : Int) (row : List St) (o : Sum), i < k + 1 → part[i]? = some p → ss[i]? = some row → os[i]? = some o → rowB ps p row = true ∧ sumOkB o = true from fun i p row' o hi hp' hr' ho' => by
              by_cases h : i < k
              · exact HPre.out i p row' o h hp' hr' ho'
              · obtain rfl : i = k := by omega
                rw [HP.out] at hp'
                rw [HRow.out] at hr'
                rw [HO.out] at ho'
                obtain rfl := Option.some.inj hp'
                obtain rfl := Option.some.inj hr'
                obtain rfl := Option.some.inj ho'
                exact ⟨rowB_true (by rw [HRl.out, HCo.out, HIl.out]) (fun i s hs => hst.out i s (by have := (List.getElem?_eq_some_iff.1 hs).1; have := HRl.out; omega) hs), HOB.out⟩)
            have y5 := HI.out.b5.cell 1
            have l5 := HI.out.b5.lt
            simp only [List.getElem?_toArray, List.getElem?_cons_zero, List.getElem?_cons_succ] at y5
            have q3 := gk HI.out.g HO0.out
            have q4 := gk HI.out.g HO1.out
            have q5 := gk HI.out.g HO2.out
            clear hI hst
            cases on with
            | false =>
              go_wp2
              go_roundw
              case rel => exact ⟨k + 1, by omega, by go_num, by rw [HCL.out]; exact HI.out.next, HPk⟩
              case measure => simp [Go.RowKit.intOf]; omega
            | true =>
              go_upto_region 20 with fail
              refine wp_letV ?_
              intro E hE
              have HIE := Lib.hid (HI.out.grew (show Grew wr E by rw [hE]; exact grew_al (Below.refl _ _) _))
              obtain ⟨bx, hbx⟩ : ∃ b, wr.heap.size = b := ⟨_, rfl⟩
              simp only [hbx]
              obtain ⟨W7, hput, hI7⟩ := HIE.out.putO HGO.out HNE.out HND.out HP.out (.pointer (some ⟨bx, 0, none⟩))
              have HI7 := Lib.hid hI7
              have v3 := HIE.out.bc.cell 3
              have vl := HIE.out.bc.lt
              simp only [List.getElem?_toArray, List.getElem?_cons_zero, List.getElem?_cons_succ] at v3
              clear hE hbx hI7 y5 l5 q3 q4 q5
              go_wp2
              go_roundw
              case rel => exact ⟨k + 1, by omega, by go_num, by rw [HCL.out]; exact HI7.out, HPk⟩
              case measure => simp [Go.RowKit.intOf]; omega
    · obtain rfl : k = n2 := by omega
      have hcf := Lib.hid (certB_true (ps := ps) (part := part) (ss := ss) (os := os) (by rw [HN1.out, HH.out.tl]) (by rw [HN2.out, HH.out.tl]) (fun i p row o hp hr ho => hpre.out i p row o (by have := (List.getElem?_eq_some_iff.1 hp).1; have := HH.out.tl; omega) hp hr ho))
      clear hpre hI
      go_wp2
      go_returns
      obtain ⟨h1, h2, h3, h4, ⟨ks, h5, h6⟩, -⟩ := HI.out
      exact ⟨h1, .inr ⟨hcf.out, gc, rfl, gs, go, ks, h4, h5, h6⟩⟩
end Go.Proofs.YtdddhnepanjmfaaGreat
