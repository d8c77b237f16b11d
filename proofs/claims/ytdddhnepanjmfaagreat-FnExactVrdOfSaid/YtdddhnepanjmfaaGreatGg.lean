/- The program's call graph is read: calls and parts of a program that is ok. No condition. -/
import Derived.Test.YtdddhnepanjmfaaGreatGo
import Derived.Deep.RegionLaw
namespace Go.Proofs.YtdddhnepanjmfaaGreat
open Go.RowKit Go.Maps
set_option linter.unusedVariables false
set_option linter.unusedSimpArgs false
attribute [local go_sem] ext_cell ext_frozen ext_lt ext_le ext_le1 lt_s2 lt_s3 lt_s4 lt_s5 lt_s6 ext_lt1 ext_lt2 ext_lt3

theorem step_append_g {P : Program} {ops : Array Oper} {o : Oper} {a : Act} {K : Act → World → Prop} {Q : Exit → Act → World → Prop} {E : Prop} {w w' : World} {v y v' : Value} {t : TypeId} (hgd : o.guard = none) (s x : Operand)
    (ho : o.op = .call { callee := .builtin .append, args := #[s, x], argTypes := #[t, t] }) (hty : o.type = t) (hs : a.eval s = v) (hx : a.eval x = y)
    (hrun : (Builtin.append_ #[t, t] t #[v, y]).run P w = .ok v' w') (h : K (a.put o.dst v') w') :
    if Region.wanted o (yielded ops a.tmps) = true then Oper.wp P o a w K Q else E := by
  have hw : Region.wanted o (yielded ops a.tmps) = true := by simp [Region.wanted, hgd]
  rw [if_pos hw]
  unfold Oper.wp execOp
  simp only [ho, hty, resolve, invoke, builtin, Sem.run_bind, Sem.run_pure, Result.andThen_ok, List.map_toArray, List.map_cons, List.map_nil, hs, hx, hrun]
  exact h
theorem step_call_g {P : Program} {ops : Array Oper} {o : Oper} {a : Act} {K : Act → World → Prop} {Q : Exit → Act → World → Prop} {E : Prop} {w : World} {f : FuncId} {args : Array Value} (hgd : o.guard = none)
    (h : (execOp a.eval o).run P w = .ok (.enter f args) w) (hC : Calls P f args w fun e w' => ∃ v, e = .returned v ∧ K (a.put o.dst v) w') :
    if Region.wanted o (yielded ops a.tmps) = true then Oper.wp P o a w K Q else E := by
  have hw : Region.wanted o (yielded ops a.tmps) = true := by simp [Region.wanted, hgd]
  rw [if_pos hw]
  unfold Oper.wp
  rw [h]
  refine Calls.mono hC ?_
  rintro e w' ⟨v, rfl, hK⟩
  exact hK
theorem chg_cell (w : World) (g o : Nat) (u : Value) : Chg (fun b => b = g) w (w.setCell ⟨g, o, none⟩ u) :=
  ⟨rfl, rfl, rfl, by simp, fun k hk hn => Below.heap_setCell w ⟨g, o, none⟩ u k hn⟩

/-- The calls of a program's procedures. -/
def csOf (ps : List Prc) : List (List Int) := ps.map fun p => callsL p.code
abbrev ptOf (ps : List Prc) : List (List Int) := partsL (cOf' (csOf ps)) ps.length
theorem csOf_len (ps : List Prc) : (csOf ps).length = ps.length := by simp [csOf]
theorem prg_len {ps : List Prc} (h : prgOkB ps = true) : 1 ≤ ps.length ∧ ps.length ≤ 4 := by
  simp only [prgOkB, Bool.and_eq_true, decide_eq_true_eq] at h
  exact h.1
theorem prg_code {ps : List Prc} (h : prgOkB ps = true) {p : Prc} (hp : p ∈ ps) : 1 ≤ p.code.length ∧ p.code.length ≤ 10 ∧ ∀ i, i ∈ p.code → insOkB i ps.length p.code.length = true := by
  simp only [prgOkB, Bool.and_eq_true, decide_eq_true_eq, List.all_eq_true] at h
  have := h.2 p hp
  simp only [prcOkB, Bool.and_eq_true, decide_eq_true_eq, List.all_eq_true] at this
  exact ⟨this.1.1.2.1, this.1.1.2.2, this.1.2⟩
theorem ins_to {i : Ins} {procs size : Int} (h : insOkB i procs size = true) (ho : i.op = 10) : 0 ≤ i.to ∧ i.to < procs := by
  simp only [insOkB, Bool.and_eq_true, tailB, ho] at h
  simpa using h.2
theorem gok_of {ps : List Prc} (h : prgOkB ps = true) : Gok (csOf ps) := by
  intro k x hx
  unfold cOf' at hx
  rw [List.getD_eq_getElem?_getD] at hx
  cases hk : (csOf ps)[k.toNat]? with
  | none => rw [hk] at hx; cases hx
  | some l =>
    rw [hk] at hx
    simp only [Option.getD_some] at hx
    rw [csOf, List.getElem?_map, Option.map_eq_some_iff] at hk
    obtain ⟨p, hp, rfl⟩ := hk
    rw [callsL, scomp_mem, callTo, List.mem_map] at hx
    obtain ⟨i, hi, rfl⟩ := hx
    obtain ⟨hi, ho⟩ := List.mem_filter.1 hi
    rw [csOf_len]
    exact ins_to ((prg_code h (List.mem_of_getElem? hp)).2.2 i hi) (by simpa using ho)
/-- A graph in memory of its own: its calls, its parts. -/
structure GrOwn (w : World) (B gb : Nat) (cs parts : List (List Int)) : Prop where
  ex : ∃ x cv pv cms pms, Blk w gb 69 #[x, cv, pv] ∧ OwnLL w B cv cms ∧ cms.map (·.1) = cs ∧ OwnLL w B pv pms ∧ pms.map (·.1) = parts
  lo : B ≤ gb
  ok : Gok cs
  sz : cs.length ≤ 900
theorem GrOwn.grew {w w' : World} {B gb : Nat} {cs parts : List (List Int)} (h : GrOwn w B gb cs parts) (g : Grew w w') : GrOwn w' B gb cs parts := by
  obtain ⟨⟨x, cv, pv, cms, pms, h1, h2, h3, h4, h5⟩, h6, h7, h8⟩ := h
  exact ⟨⟨x, cv, pv, cms, pms, h1.grew g, h2.grew g, h3, h4.grew g, h5⟩, h6, h7, h8⟩
theorem gr_of {w : World} {B gb : Nat} {x cv pv : Value} {cms : List (List Int × Value)} {cs : List (List Int)} (h1 : Blk w gb 69 #[x, cv, pv]) (h2 : OwnLL w B cv cms) (h3 : cms.map (·.1) = cs) (h7 : Gok cs) (h8 : cs.length ≤ 900) : Gr w gb cs := by
  obtain ⟨ca, cc, rfl⟩ := owns_slice h2.row
  have hl : cms.length = cs.length := by rw [← h3]; simp
  refine ⟨⟨ca, cc, ?_, ?_, ?_⟩, h7, h8⟩
  · rw [← hl]
    exact h1.cell 1
  · rw [← hl, ← h3]
    exact h2.rd rfl
  · rw [← hl]
    exact (owns_cap h2.row).1
theorem GrOwn.gr {w : World} {B gb : Nat} {cs parts : List (List Int)} (h : GrOwn w B gb cs parts) : Gr w gb cs := by
  obtain ⟨⟨x, cv, pv, cms, pms, h1, h2, h3, h4, h5⟩, h6, h7, h8⟩ := h
  exact gr_of h1 h2 h3 h7 h8

theorem readGraphNo (a : Option Addr) (n cap : Nat) (ps : List Prc) (w : World) (hr : RdP w a n ps) (hn : n ≤ 9223372036854775807) (hB : prgOkB ps = false) :
    Calls Tryz.prog 25 #[.agg #[.slice a n cap]] w fun e w' => e = .returned (.tuple #[.pointer none, .bool false]) ∧ Grew w w' := by
  have C := fun W (g : Grew w W) => implPrgOk a n cap ps W (hr.grew g) hn
  rw [hB] at C
  have HC := Lib.hid C; clear C hB hr
  go_enter Tryz.func25, Tryz.ntmps25
  go_wp2_with ((with_reducible refine (HC.out _ (gr)).mono ?_); rintro e w' ⟨rfl, g'⟩; (first | obtain ⟨y, rfl⟩ := ext_cold g' | obtain ⟨y, rfl⟩ := ext_col g' | obtain ⟨y, rfl⟩ := ext_of g'); clear g')
  go_ret2
  exact ⟨rfl, gr⟩

/-- While the calls are read. -/
structure RG1 (w : World) (gb : Nat) (x : Value) (ps : List Prc) (k : Nat) (wr : World) (cv : Value) (ms : List (List Int × Value)) : Prop where
  b : Blk wr gb 69 #[x, cv, .slice none 0 0]
  o : OwnLL wr w.heap.size cv ms
  m : ms.map (·.1) = csOf (ps.take k)
  g : Grew w wr
theorem RG1.len {w : World} {gb : Nat} {x : Value} {ps : List Prc} {k : Nat} {wr : World} {cv : Value} {ms : List (List Int × Value)} (h : RG1 w gb x ps k wr cv ms) : ms.length ≤ k := by
  have := congrArg List.length h.m
  simp [csOf] at this
  omega
theorem RG1.next {w : World} {gb : Nat} {x : Value} {ps : List Prc} {k : Nat} {wr w5 w6 : World} {cv v6 : Value} {ms : List (List Int × Value)} {p : Prc} {u : Value} (h : RG1 w gb x ps k wr cv ms) (hp : ps[k]? = some p) (hgb : w.heap.size ≤ gb)
    (g5 : Grew wr w5) (o5 : w5.ownsRow wr.heap.size 3 1 u (callsL p.code).length (ints .i64 (callsL p.code))) (o6 : w6.ownsRow w.heap.size 54 1 v6 (ms.length + 1) (ms.map (·.2) ++ [u])) (g6 : w5.grownBy w6 cv.ownBlock) :
    Blk w6 gb 69 #[x, cv, .slice none 0 0] ∧ RG1 w gb x ps (k + 1) (w6.setCell ⟨gb, 1, none⟩ v6) v6 (ms ++ [(callsL p.code, u)]) := by
  have b5 := h.b.grew g5
  have ol5 := h.o.grew g5
  have c6 := Chg.of_grownBy g6
  have b6 : Blk w6 gb 69 #[x, cv, .slice none 0 0] := b5.chg c6 (fun e => blk_row_ne b5 ol5.row (by decide) e)
  have hO6 := OwnLL.snoc h.o g5 o5 h.g.size o6 g6
  refine ⟨b6, b6.set_ 1 _, hO6.one b6 (by decide) (by decide) (chg_cell _ _ _ _), ?_, ?_⟩
  · rw [List.map_append, h.m, take_get hp]
    simp [csOf]
  · exact (((grew_tr h.g g5).grown g6 (grew_tr h.g g5).size (fun j hj => (ol5.row.lt j hj).1)) : Grew w w6).setCell (p := ⟨gb, 1, none⟩) hgb _

/-- While the parts are found. -/
structure RG2 (w : World) (gb : Nat) (x cv : Value) (cms : List (List Int × Value)) (ps : List Prc) (mb : Nat) (L : List Int) (lv : Value) (j : Nat) (wr : World) (pv : Value) (pms : List (List Int × Value)) (sn : List Int) : Prop where
  b : Blk wr gb 69 #[x, cv, pv]
  oc : OwnLL wr w.heap.size cv cms
  op : OwnLL wr w.heap.size pv pms
  mp : pms.map (·.1) = partsP (cOf' (csOf ps)) (csOf ps).length (L.take j)
  s : SetB Tryz.prog mapK mapE wr mb sn
  sm : ∀ y, y ∈ sn ↔ ∃ q, q ∈ partsP (cOf' (csOf ps)) (csOf ps).length (L.take j) ∧ y ∈ q
  sl : sn.length ≤ 1000 * j
  g : Grew w wr
  ro : wr.ownsRow w.heap.size 3 1 lv L.length (ints .i64 L)
  ne : ∀ b, cv.ownBlock = some b → pv.ownBlock ≠ some b
section
variable {w : World} {gb : Nat} {x cv : Value} {cms : List (List Int × Value)} {ps : List Prc} {mb : Nat} {L : List Int} {lv : Value} {j : Nat} {wr : World} {pv : Value} {pms : List (List Int × Value)} {sn : List Int} {y : Int}
theorem RG2.len (h : RG2 w gb x cv cms ps mb L lv j wr pv pms sn) : pms.length ≤ j := by
  have := congrArg List.length h.mp
  simp only [List.length_map, partsP] at this
  have h2 := List.length_filter_le (firstB (cOf' (csOf ps)) (csOf ps).length) (L.take j)
  have h3 := List.length_take_le j L
  omega
theorem RG2.seen (h : RG2 w gb x cv cms ps mb L lv j wr pv pms sn) (hy : L[j]? = some y) (hf : firstB (cOf' (csOf ps)) (csOf ps).length y = false) : RG2 w gb x cv cms ps mb L lv (j + 1) wr pv pms sn := by
  have e : partsP (cOf' (csOf ps)) (csOf ps).length (L.take (j + 1)) = partsP (cOf' (csOf ps)) (csOf ps).length (L.take j) := by
    rw [take_get hy, partsP_snoc, hf]
    simp
  exact ⟨h.b, h.oc, h.op, by rw [e]; exact h.mp, h.s, by rw [e]; exact h.sm, Nat.le_trans h.sl (by omega), h.g, h.ro, h.ne⟩
theorem RG2.step {w4 wv w6 : World} {u v6 : Value} {sn' : List Int} (h : RG2 w gb x cv cms ps mb L lv j wr pv pms sn) (hgb : w.heap.size ≤ gb) (hmb : w.heap.size ≤ mb) (hy : L[j]? = some y) (hf : firstB (cOf' (csOf ps)) (csOf ps).length y = true)
    (g4 : Grew wr w4) (o4 : w4.ownsRow wr.heap.size 3 1 u (partL (cOf' (csOf ps)) (csOf ps).length y).length (ints .i64 (partL (cOf' (csOf ps)) (csOf ps).length y)))
    (cm : Chg (fun b => b = mb) w4 wv) (sv : SetB Tryz.prog mapK mapE wv mb sn') (hs : ∀ z, z ∈ sn' ↔ z ∈ sn ∨ z ∈ partL (cOf' (csOf ps)) (csOf ps).length y) (hsl : sn'.length ≤ sn.length + 1000)
    (o6 : w6.ownsRow w.heap.size 54 1 v6 (pms.length + 1) (pms.map (·.2) ++ [u])) (g6 : wv.grownBy w6 pv.ownBlock) (hv6 : v6.ownBlock = pv.ownBlock ∨ v6.ownBlock = some (wv.heap.size + 1)) :
    Blk w6 gb 69 #[x, cv, pv] ∧ RG2 w gb x cv cms ps mb L lv (j + 1) (w6.setCell ⟨gb, 2, none⟩ v6) v6 (pms ++ [(partL (cOf' (csOf ps)) (csOf ps).length y, u)]) sn' := by
  have s4 := h.s.grew g4
  have b4 := h.b.grew g4
  have bv := b4.chg cm (map_ne_blk s4 b4)
  have ocv := (h.oc.grew g4).map_ (n := 0) s4 cm
  have opv := (h.op.grew g4).map_ (n := 0) s4 cm
  have hro4 := owns_grew h.ro g4
  have rov := owns_chg hro4 cm (fun b e1 e2 => map_ne_row s4 hro4 (by rw [e1, e2]))
  have uv := owns_chg o4 cm (fun b e1 e2 => map_ne_row s4 o4 (by rw [e1, e2]))
  have gv : Grew w wv := (grew_tr h.g g4).trans ⟨cm.os, cm.tape, cm.output, cm.size, fun k hk => cm.block k (Nat.lt_of_lt_of_le hk (grew_tr h.g g4).size) (by omega)⟩
  have c6 := Chg.of_grownBy g6
  have b6 : Blk w6 gb 69 #[x, cv, pv] := bv.chg c6 (fun e => blk_row_ne bv opv.row (by decide) e)
  have oc6 : OwnLL w6 w.heap.size cv cms := ⟨owns_chg ocv.row c6 (fun b e1 e2 => h.ne b e1 e2), fun m hm => owns_chg (ocv.each m hm) c6 (fun b e1 e2 => row_row_ne (ocv.each m hm) opv.row (by decide) e1 e2), ocv.apart⟩
  have op6 : OwnLL w6 w.heap.size v6 (pms ++ [(partL (cOf' (csOf ps)) (csOf ps).length y, u)]) := OwnLL.snoc2 (fun m hm b e => ((h.op.each m hm).lt b e).2) opv uv h.g.size o6 g6
  have s6 : SetB Tryz.prog mapK mapE w6 mb sn' := sv.chg c6 (fun e => by
    obtain ⟨n', D, ⟨es, clock, he, _⟩, _⟩ := sv
    rcases opv.row.2 with ⟨e1, _⟩ | ⟨g, cap, cur, e1, h1, h2, _⟩
    · rw [e1] at e; cases e
    · rw [e1] at e
      simp only [Value.ownBlock, Option.some.injEq] at e
      subst e
      rw [he] at h2
      cases h2)
  have ro6 := owns_chg rov c6 (fun b e1 e2 => row_row_ne rov opv.row (by decide) e1 e2)
  have cs := chg_cell w6 gb 2 v6
  have e : partsP (cOf' (csOf ps)) (csOf ps).length (L.take (j + 1)) = partsP (cOf' (csOf ps)) (csOf ps).length (L.take j) ++ [partL (cOf' (csOf ps)) (csOf ps).length y] := by
    rw [take_get hy, partsP_snoc, hf]
    rfl
  refine ⟨b6, b6.set_ 2 _, oc6.one b6 (by decide) (by decide) cs, op6.one b6 (by decide) (by decide) cs, by rw [List.map_append, h.mp, e]; rfl, s6.chg cs (fun e => map_ne_blk s6 b6 e.symm), fun z => ?_, by have := h.sl; omega, ?_, owns_chg ro6 cs (fun b e1 e2 => blk_row_ne b6 ro6 (by decide) (by rw [e1, e2])), fun b e1 e2 => ?_⟩
  · rw [hs, h.sm, e]
    simp only [List.mem_append, List.mem_singleton]
    constructor
    · rintro (⟨q, hq, hz⟩ | hz)
      · exact ⟨q, .inl hq, hz⟩
      · exact ⟨_, .inr rfl, hz⟩
    · rintro ⟨q, hq | rfl, hz⟩
      · exact .inl ⟨q, hq, hz⟩
      · exact .inr hz
  · exact ((gv.grown g6 gv.size (fun k hk => (opv.row.lt k hk).1)) : Grew w w6).setCell (p := ⟨gb, 2, none⟩) hgb _
  · rcases hv6 with hv | hv
    · exact h.ne b e1 (by rw [← hv]; exact e2)
    · rw [hv, Option.some.injEq] at e2
      have := (ocv.row.lt b e1).2
      omega
end

set_option maxRecDepth 100000 in
set_option maxHeartbeats 4000000 in
theorem readGraphYes (a : Option Addr) (n cap : Nat) (ps : List Prc) (w : World) (hr : RdP w a n ps) (hn : n ≤ 9223372036854775807) (hB : prgOkB ps = true) :
    Calls Tryz.prog 25 #[.agg #[.slice a n cap]] w fun e w' => ∃ gb, e = .returned (.tuple #[.pointer (some ⟨gb, 0, none⟩), .bool true]) ∧ GrOwn w' w.heap.size gb (csOf ps) (ptOf ps) ∧ Grew w w' := by
  have C := fun W (g : Grew w W) => implPrgOk a n cap ps W (hr.grew g) hn
  rw [hB] at C
  have HC := Lib.hid C; clear C
  have hl := hr.len
  have hn4 := prg_len hB
  rw [hl] at hn4
  have HB := Lib.hid hB; clear hB
  have HL := Lib.hid hl; clear hl
  have HR := Lib.hid hr; clear hr
  go_enter Tryz.func25, Tryz.ntmps25
  go_wp2_with fail
  refine (HC.out _ (gr)).mono ?_
  rintro e w1 ⟨rfl, g1⟩
  have hb1 : w1.cell? ⟨w.heap.size, 0, none⟩ = some (.slice a n cap) := (g1.cell (p := ⟨w.heap.size, 0, none⟩) (by simp)).trans (by simp [go_sem])
  have hG1 : Grew w w1 := grew_tr (grew_al (Below.refl _ _) _) g1
  have lb1 : w.heap.size < w1.heap.size := Nat.lt_of_lt_of_le (by simp) g1.size
  have H1 := Lib.hid (show RG1 w w1.heap.size (.slice a n cap) ps 0 (w1.alloc (.cells #[.slice a n cap, .slice none 0 0, .slice none 0 0] 69)) (.slice none 0 0) [] from ⟨Blk.new _ _ _, OwnLL.nil _ _, rfl, grew_al hG1 _⟩)
  clear g1 hG1
  obtain ⟨gb, hgb⟩ : ∃ gb, w1.heap.size = gb := ⟨_, rfl⟩
  have HGB := Lib.hid hgb
  have hgl : w.heap.size ≤ gb := by omega
  rw [hgb] at H1
  clear hgb
  go_wp2
  rw [HGB.out]
  clear hb1
  go_loopw [22] (fun i wr => ∃ (k : Nat) (cv : Value) (ms : List (List Int × Value)), k ≤ n ∧ i = .int .i64 k ∧ RG1 w gb (.slice a n cap) ps k wr cv ms) (fun i _ => n - (Go.RowKit.intOf i).toNat)
  case atStart => exact ⟨0, _, [], Nat.zero_le _, rfl, H1.out⟩
  case round =>
    clear H1
    obtain ⟨k, cv, ms, hk, rfl, h⟩ := hrel
    by_cases hlt : k < n
    · obtain ⟨b, off, lo, hi, is, ia, ic, rfl, hx, c0, c1, c2, hbl, hi1, hi2, hi3⟩ := rdP_at (HR.out.grew h.g) hlt
      obtain ⟨A, cp, rfl⟩ := owns_slice h.o.row
      have hml := h.len
      have hcell : wr.cell? ⟨gb, 1, none⟩ = some (.slice A ms.length cp) := h.b.cell 1
      have hglt := h.b.lt
      have hgne : ¬ gb = wr.heap.size := by omega
      have hfz := fun j => h.b.frozen j
      have hcode : is.length ≤ 1000 := by have := (prg_code HB.out (List.mem_of_getElem? hx)).2.1; simp only at this; omega
      have HI := Lib.hid hi1
      have HX := Lib.hid hx
      have HH := Lib.hid h
      clear hi1 hx h
      go_wp2_with fail
      have q0 : (wr.alloc (.cells #[.int .i64 lo, .int .i64 hi, .slice ia is.length ic] 95)).cell? ⟨gb, 1, none⟩ = some (.slice A ms.length cp) := by rw [World.cell?_alloc_old _ _ _ (show ¬ gb = wr.heap.size from hgne)]; exact hcell
      have q1 : (wr.alloc (.cells #[.int .i64 lo, .int .i64 hi, .slice ia is.length ic] 95)).cell? ⟨wr.heap.size, 0, none⟩ = some (.int .i64 lo) := by simp [go_sem]
      have q2 : (wr.alloc (.cells #[.int .i64 lo, .int .i64 hi, .slice ia is.length ic] 95)).cell? ⟨wr.heap.size, 1, none⟩ = some (.int .i64 hi) := by simp [go_sem]
      have q3 : (wr.alloc (.cells #[.int .i64 lo, .int .i64 hi, .slice ia is.length ic] 95)).cell? ⟨wr.heap.size, 2, none⟩ = some (.slice ia is.length ic) := by simp [go_sem]
      have lgb2 : gb < wr.heap.size + 1 := by omega
      clear c0 c1 c2 hfz
      go_region_law (first
        | (refine step_call_g rfl (f := 51) (args := #[.agg #[.int .i64 lo, .int .i64 hi, .slice ia is.length ic]]) (by kernel_rfl) ?_; refine Calls.mono (callsOf lo hi ia is.length ic is _ (HI.out.grew stays_ins (gr)) hcode) ?_; rintro e w5 ⟨A5, c5, rfl, o5, g5⟩; refine ⟨_, rfl, ?_⟩
           have hg5 : Grew wr w5 := grew_tr (grew_d (grew_al (Below.refl _ _) _)) g5
           have ho5 := owns_mono o5 (show wr.heap.size ≤ _ from by simp)
           have ol5 := HH.out.o.grew hg5
           obtain ⟨v6, w6, hr6, o6, g6, -⟩ := owns_append_lit (P := Tryz.prog) w5 llEl ol5.row 1 [.slice A5 (callsL is).length c5] rfl (by simp [Value.oneCell']) (by omega) (by omega) (Nat.le_trans HH.out.g.size hg5.size)
           have R6 := Lib.hid hr6
           obtain ⟨b6, n6⟩ := HH.out.next HX.out hgl hg5 ho5 o6 g6
           have N6 := Lib.hid n6
           have t5 : w5.cell? ⟨gb, 1, none⟩ = some (.slice A ms.length cp) := (HH.out.b.grew hg5).cell 1
           have l5 := (HH.out.b.grew hg5).lt
           have n5 : ¬ gb = w5.heap.size := by omega
           have t6 : w6.cell? ⟨gb, 1, none⟩ = some (.slice A ms.length cp) := b6.cell 1
           have f6 := fun j => b6.frozen j
           have l6 := b6.lt
           obtain ⟨A6, c6, rfl⟩ := owns_slice o6
           clear hg5 ho5 ol5 hr6 o6 g6 b6 n6 o5 g5)
        | (refine step_append_g rfl _ _ rfl rfl rfl rfl R6.out ?_))
      all_goals
        go_wp2
        go_roundw
        case rel => exact ⟨k + 1, _, _, by omega, by go_num, N6.out⟩
        case measure => simp [Go.RowKit.intOf]; omega
    · obtain rfl : k = n := by omega
      have hcs : ms.map (·.1) = csOf ps := by rw [h.m, List.take_of_length_le (by have := HL.out; omega)]
      have hokk := gok_of HB.out
      have hsz : (csOf ps).length ≤ 900 := by rw [csOf_len, HL.out]; omega
      have hzl : (csOf ps).length = k := by rw [csOf_len, HL.out]
      obtain ⟨A, cp, rfl⟩ := owns_slice h.o.row
      have hgm : Grew wr (wr.alloc (.map #[] 0)) := grew_al (Below.refl _ _) _
      have HM0 := Lib.hid (SetB.made Tryz.prog mapK mapE wr)
      have HB2 := Lib.hid (h.b.grew hgm)
      have HO2 := Lib.hid (h.o.grew hgm)
      have HG2 := Lib.hid (grew_tr h.g hgm)
      have HGW := Lib.hid h.g
      have HGr := Lib.hid (gr_of (h.b.grew hgm) (h.o.grew hgm) hcs hokk hsz)
      have HZ := Lib.hid hzl
      have HCS := Lib.hid hcs
      have HOK := Lib.hid hokk
      obtain ⟨mb, hmb⟩ : ∃ mb, wr.heap.size = mb := ⟨_, rfl⟩
      have HMB := Lib.hid hmb
      rw [hmb] at HM0
      clear hmb h hcs hokk hzl hgm
      have hmm := @run_makeMap Tryz.prog
      go_wp2_with fail
      rw [HMB.out]
      refine (reached gb 0 (csOf ps) _ HGr.out (by rw [HZ.out]; omega)).mono ?_
      rintro e w3 ⟨A3, c3, rfl, o3, g3⟩
      have HM3 := Lib.hid (HM0.out.grew g3)
      have HB3 := Lib.hid (HB2.out.grew g3)
      have HO3 := Lib.hid (HO2.out.grew g3)
      have HG3 := Lib.hid (grew_tr HG2.out g3)
      obtain ⟨L, hL⟩ : ∃ L, reachL (cOf' (csOf ps)) (csOf ps).length 0 = L := ⟨_, rfl⟩
      rw [hL] at o3
      rw [hL]
      have HRO3 := Lib.hid (owns_mono o3 (Nat.le_trans hgl (Nat.le_of_lt (by have h1 := HB2.out.lt; exact h1))))
      have HL3 := Lib.hid hL
      have hL4 : L.length ≤ 4 := by
        have h1 := reachL_spec HOK.out (a := 0) (by rw [HZ.out]; omega)
        have := srt_len (csOf ps).length _ (srt_nodup h1.1) (fun x hx => rch_bd HOK.out (by rw [HZ.out]; omega) ((h1.2 x).1 hx))
        rw [hL, HZ.out] at this
        omega
      clear hL hmm HM0 HB2 HO2 HG2 HGr g3 o3
      have hmbl : w.heap.size ≤ mb := by rw [← HMB.out]; exact HGW.out.size
      have H2 := Lib.hid (show RG2 w gb (.slice a k cap) (.slice A ms.length cp) ms ps mb L (.slice A3 L.length c3) 0 w3 (.slice none 0 0) [] [] from ⟨HB3.out, HO3.out, OwnLL.nil _ _, by simp [partsP], HM3.out, fun y => by simp [partsP], by simp, HG3.out, HRO3.out, fun b _ e => by cases e⟩)
      clear HM3 HB3 HO3 HG3 HRO3
      have hL9 : L.length ≤ 9223372036854775807 := by omega
      go_wp2
      go_loopw [42] (fun i wr => ∃ (j : Nat) (pv : Value) (pms : List (List Int × Value)) (sn : List Int), j ≤ L.length ∧ i = .int .i64 j ∧ RG2 w gb (.slice a k cap) (.slice A ms.length cp) ms ps mb L (.slice A3 L.length c3) j wr pv pms sn) (fun i _ => L.length - (Go.RowKit.intOf i).toNat)
      case atStart => exact ⟨0, _, [], [], Nat.zero_le _, rfl, H2.out⟩
      case round =>
        clear H2
        obtain ⟨j, pv, pms, sn, hj, rfl, h⟩ := hrel
        by_cases hlt2 : j < L.length
        · obtain ⟨b, off, y, hA3, hy, hcell⟩ := (owns_rd h.ro).at1 hlt2
          subst hA3
          have hyr : y ∈ reachL (cOf' (csOf ps)) (csOf ps).length 0 := by rw [HL3.out]; exact List.mem_of_getElem? hy
          have hyb : 0 ≤ y ∧ y < (csOf ps).length := rch_bd HOK.out (by rw [HZ.out]; omega) (((reachL_spec HOK.out (a := 0) (by rw [HZ.out]; omega)).2 y).1 hyr)
          have hsplit : reachL (cOf' (csOf ps)) (csOf ps).length 0 = L.take j ++ y :: L.drop (j + 1) := by
            rw [HL3.out]
            have e1 := List.drop_eq_getElem_cons hlt2
            have e2 : L[j] = y := Option.some.inj ((List.getElem?_eq_getElem hlt2).symm.trans hy)
            rw [e2] at e1
            rw [← e1, List.take_append_drop]
          have hseen := parts_seen HOK.out (a := y) (l := L.take j) (r := L.drop (j + 1)) (by rw [HZ.out]; omega) hsplit
          have wfy : (Lit.int .i64 y).wf = true := wf_small (by omega)
          have hLk := h.s.look (t := 112) Tryz.underlying3 mapT Tryz.underlying4 (by kernel_rfl) wfy
          have hpl := h.len
          clear hyr hsplit
          cases hf : firstB (cOf' (csOf ps)) (csOf ps).length y
          · have hin : y ∈ sn := (h.sm y).2 (hseen.2 hf)
            rw [decide_eq_true hin] at hLk
            have HN := Lib.hid (h.seen hy hf)
            clear hin hf hseen h hy
            go_wp2
            go_roundw
            case rel => exact ⟨j + 1, _, _, _, by omega, by go_num, HN.out⟩
            case measure => simp [Go.RowKit.intOf]; omega
          · have hin : ¬ y ∈ sn := fun e => by
              have := hseen.1 ((h.sm y).1 e)
              rw [hf] at this
              cases this
            rw [decide_eq_false hin] at hLk
            have HY := Lib.hid hy
            have HF := Lib.hid hf
            have HH := Lib.hid h
            have HGr := Lib.hid (gr_of h.b h.oc HCS.out HOK.out hsz)
            obtain ⟨q1, q2, rfl⟩ := owns_slice h.op.row
            clear hin hf hseen h hy
            go_wp2_with fail
            refine (grPart gb y (csOf ps) _ HGr.out hyb).mono ?_
            rintro e w4 ⟨A4, c4, rfl, o4, g4⟩
            have hPs := part_srt HOK.out hyb
            have hPb : ∀ z, z ∈ partL (cOf' (csOf ps)) (csOf ps).length y → 0 ≤ z ∧ z < (csOf ps).length := fun z hz => rch_bd HOK.out hyb ((part_mem HOK.out hyb z).1 hz).1
            have hPl := srt_len _ _ (srt_nodup hPs) hPb
            replace hPl := Nat.le_trans hPl (show (csOf ps).length ≤ 4 from by rw [HZ.out]; omega)
            obtain ⟨P, hP⟩ : ∃ P, partL (cOf' (csOf ps)) (csOf ps).length y = P := ⟨_, rfl⟩
            have HP := Lib.hid hP
            rw [hP] at o4 hPb hPl
            rw [hP]
            have HPB := Lib.hid hPb
            have O4 := Lib.hid o4
            have G4 := Lib.hid g4
            have S4 := Lib.hid (HH.out.s.grew g4)
            have hsl := HH.out.sl
            have hP9 : P.length ≤ 9223372036854775807 := by omega
            clear hP hPs hPb o4 g4 hcell hLk
            go_wp2
            go_loopw [54] (fun i wv => ∃ (m : Nat) (sn' : List Int), m ≤ P.length ∧ i = .int .i64 m ∧ Chg (fun b => b = mb) w4 wv ∧ SetB Tryz.prog mapK mapE wv mb sn' ∧ (∀ z, z ∈ sn' ↔ z ∈ sn ∨ z ∈ P.take m) ∧ sn'.length ≤ sn.length + m) (fun i _ => P.length - (Go.RowKit.intOf i).toNat)
            case atStart => exact ⟨0, sn, Nat.zero_le _, rfl, Chg.refl _ _, S4.out, fun z => by simp, by omega⟩
            case round =>
              obtain ⟨m, sn', hm, rfl, hcm, hsv, hsm, hsl2⟩ := hrel
              by_cases hlt3 : m < P.length
              · have hov := owns_chg O4.out hcm (fun b e1 e2 => map_ne_row S4.out O4.out (by rw [e1, e2]))
                obtain ⟨b4, off4, z, hA4, hz, hzc⟩ := (owns_rd hov).at1 hlt3
                subst hA4
                have hzb := HPB.out z (List.mem_of_getElem? hz)
                obtain ⟨w5, hr5, s5, g5⟩ := hsv.put (t := 112) (x := z) Tryz.underlying3 mapT Tryz.underlying4 (wf_small (by omega)) (by omega)
                have HN := Lib.hid (show Chg (fun b => b = mb) w4 w5 ∧ SetB Tryz.prog mapK mapE w5 mb (z :: sn') ∧ (∀ z', z' ∈ z :: sn' ↔ z' ∈ sn ∨ z' ∈ P.take (m + 1)) ∧ (z :: sn').length ≤ sn.length + (m + 1) from ⟨hcm.trans (Chg.of_grownBy g5) (fun _ _ e => e) (fun _ _ e => (Option.some.inj e).symm), s5, fun z' => by
                  rw [take_get hz, List.mem_cons, hsm, List.mem_append, List.mem_singleton]
                  constructor
                  · rintro (h | h | h) <;> simp [h]
                  · rintro (h | h | h) <;> simp [h], by simp; omega⟩)
                clear hcm hsv hsm s5 g5 hov hz
                go_wp2
                go_roundw
                case rel => exact ⟨m + 1, z :: sn', by omega, by go_num, HN.out⟩
                case measure => simp [Go.RowKit.intOf]; omega
              · obtain rfl : m = P.length := by omega
                rw [List.take_length] at hsm
                have s4 := S4.out
                have b4 := HH.out.b.grew G4.out
                have bv := b4.chg hcm (map_ne_blk s4 b4)
                have opv := (HH.out.op.grew G4.out).map_ (n := 0) s4 hcm
                have ggv : w.heap.size ≤ wr.heap.size := Nat.le_trans HH.out.g.size (Nat.le_trans G4.out.size hcm.size)
                obtain ⟨v6, w6, hr6, o6, g6, hv6⟩ := owns_append_lit (P := Tryz.prog) wr llEl opv.row 1 [.slice A4 P.length c4] rfl (by simp [Value.oneCell']) (by omega) (by omega) ggv
                obtain ⟨b6, n6⟩ := HH.out.step hgl hmbl HY.out HF.out G4.out (by rw [HP.out]; exact O4.out) hcm hsv (fun z => by rw [HP.out]; exact hsm z) (by omega) o6 g6 hv6
                have N6 := Lib.hid n6
                have R6 := Lib.hid hr6
                have tv : wr.cell? ⟨gb, 2, none⟩ = some (.slice q1 pms.length q2) := bv.cell 2
                have lv := bv.lt
                have t6 : w6.cell? ⟨gb, 2, none⟩ = some (.slice q1 pms.length q2) := b6.cell 2
                have f6 := fun i => b6.frozen i
                have l6 := b6.lt
                obtain ⟨A6, c6, rfl⟩ := owns_slice o6
                clear hcm hsv hsm hr6 o6 g6 hv6 b6 n6 s4 b4 bv opv
                go_wp2_with (at_builtin; refine wpList_append_run rfl _ _ rfl rfl rfl rfl R6.out ?_)
                go_roundw
                case rel => exact ⟨j + 1, _, _, _, by omega, by go_num, N6.out⟩
                case measure => simp [Go.RowKit.intOf]; omega
        · obtain rfl : j = L.length := by omega
          have hmp := h.mp
          rw [List.take_length] at hmp
          have HE := Lib.hid (show GrOwn wr w.heap.size gb (csOf ps) (ptOf ps) from ⟨⟨_, _, _, _, _, h.b, h.oc, HCS.out, h.op, by rw [hmp, ← HL3.out, ptOf, partsL, csOf_len]⟩, hgl, HOK.out, hsz⟩)
          have HG9 := Lib.hid h.g
          clear h hmp
          go_wp2
          go_ret2
          exact ⟨gb, rfl, HE.out, HG9.out⟩
end Go.Proofs.YtdddhnepanjmfaaGreat
