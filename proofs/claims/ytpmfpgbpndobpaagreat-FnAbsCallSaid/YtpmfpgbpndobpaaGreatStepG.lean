/- To which places a step leads: the program's AbsStep. No condition. -/
import Derived.Test.YtpmfpgbpndobpaaGreatStepF
import Derived.Test.YtpmfpgbpndobpaaGreatDrSr
import Derived.Test.YtpmfpgbpndobpaaGreatDrG
import Derived.Test.YtpmfpgbpndobpaaGreatHas4
namespace Go.Proofs.YtpmfpgbpndobpaaGreat
open Go.RowKit
set_option linter.unusedVariables false
set_option linter.unusedSimpArgs false
attribute [local go_sem] ext_cell ext_frozen ext_lt ext_le ext_le1 lt_s2 lt_s3 lt_s4 lt_s5 lt_s6 ext_lt1 ext_lt2 ext_lt3

def stepB (ps : List Prc) (ss : List Sum) (i : Ins) (pc : Int) (on : Bool) (xs : List Itv) (lo hi : Int) : Bool :=
  (stOkB on xs lo hi && on) && (sumsOkB ps ss && (insOkB i ps.length 10 && (decide (0 ≤ pc) && decide (pc < 10))))
def stepL (ps : List Prc) (ss : List Sum) (i : Ins) (pc : Int) (on : Bool) (xs : List Itv) (lo hi : Int) : List Ed :=
  if stepB ps ss i pc on xs lo hi = true then edgesI ps ss i pc xs ⟨lo, hi⟩ else []
theorem narI_len {xs zs : List Itv} {k : Int} {t : Itv} (h : narI xs k t = some zs) : zs.length = xs.length := by
  unfold narI at h
  cases hm : meetI (nthI xs k) t with
  | none => rw [hm] at h; cases h
  | some x => rw [hm] at h; simp only [Option.map_some, Option.some.injEq] at h; rw [← h, setI_len]
theorem relSt_len {o : Option (Itv × Itv)} {xs zs : List Itv} {a b : Int} (h : relSt o xs a b = some zs) : zs.length = xs.length := by
  cases o with
  | none => cases h
  | some p =>
    simp only [relSt] at h
    cases hm : narI xs a p.1 with
    | none => rw [hm] at h; cases h
    | some ys =>
      rw [hm] at h
      simp only [Option.bind_some] at h
      rw [narI_len h, narI_len hm]
theorem actI_len {ps : List Prc} {ss : List Sum} {i : Ins} {xs : List Itv} {c : Itv} {z : List Itv × Itv} (h : actI ps ss i xs c = some z) : z.1.length = xs.length := by
  unfold actI at h
  split at h
  · cases h; exact setI_len _ _ _
  split at h
  · obtain ⟨r, _, rfl⟩ := Option.map_eq_some_iff.1 h
    simp only
    split
    · rw [setI_len, setI_len]
    · rw [setI_len]
  split at h
  · obtain ⟨r, hr, rfl⟩ := Option.map_eq_some_iff.1 h
    simp only
    rw [setI_len, narI_len hr]
  split at h
  · obtain ⟨r, hr, rfl⟩ := Option.map_eq_some_iff.1 h
    exact narI_len hr
  split at h
  · obtain ⟨r, hr, h2⟩ := Option.bind_eq_some_iff.1 h
    split at h2
    · cases h2
      simp only
      rw [setI_len, narI_len hr]
    · cases h2
  · obtain ⟨r, hr, rfl⟩ := Option.map_eq_some_iff.1 h
    exact relSt_len hr
theorem edges_len {ps : List Prc} {ss : List Sum} {i : Ins} {pc : Int} {xs : List Itv} {c : Itv} {e : Ed} (h : e ∈ edgesI ps ss i pc xs c) : e.xs.length = xs.length := by
  have hE : ∀ (o : Option (List Itv)) (to : Int), (∀ zs, o = some zs → zs.length = xs.length) → e ∈ optE o to c → e.xs.length = xs.length := fun o to ho he => by
    cases o with
    | none => cases he
    | some zs => simp only [optE, List.mem_cons, List.not_mem_nil, or_false] at he; subst he; exact ho zs rfl
  unfold edgesI at h
  split at h
  · cases h
  split at h
  · simp only [List.mem_cons, List.not_mem_nil, or_false] at h; subst h; rfl
  split at h
  · rcases List.mem_append.1 h with h | h
    · exact hE _ _ (fun zs hz => relSt_len hz) h
    · exact hE _ _ (fun zs hz => relSt_len hz) h
  · cases ha : actI ps ss i xs c with
    | none => rw [ha] at h; cases h
    | some z => rw [ha] at h; simp only [optA, List.mem_cons, List.not_mem_nil, or_false] at h; subst h; exact actI_len ha
theorem edges_two (ps : List Prc) (ss : List Sum) (i : Ins) (pc : Int) (xs : List Itv) (c : Itv) : (edgesI ps ss i pc xs c).length ≤ 2 := by
  have hE : ∀ (o : Option (List Itv)) (to : Int), (optE o to c).length ≤ 1 := fun o to => by cases o <;> simp [optE]
  unfold edgesI
  split
  · simp
  split
  · simp
  split
  · rw [List.length_append]
    have := hE (relSt (relI i.rel (nthI xs i.a) (nthI xs i.b)) xs i.a i.b) i.to
    have := hE (relSt (notI i.rel (nthI xs i.a) (nthI xs i.b)) xs i.a i.b) (pc + 1)
    omega
  · cases actI ps ss i xs c <;> simp [optA]
/-! Rows of places with states, in memory of their own. -/
def esC (m : Ed × Value) : List Value := [.int .i64 m.1.to, .bool true, m.2, .int .i64 m.1.c.lo, .int .i64 m.1.c.hi]
theorem esC_len (m : Ed × Value) : (esC m).length = 5 := rfl
theorem esInfo : (Tryz.prog.info? 55).map (fun i => (i.zero, i.size, i.bytes)) = some (some (.agg #[.int .i64 0, .bool false, .slice none 0 0, .int .i64 0, .int .i64 0]), 5, 56) := by kernel_rfl
theorem esEl : El Tryz.prog 43 55 (.agg #[.int .i64 0, .bool false, .slice none 0 0, .int .i64 0, .int .i64 0]) 5 56 := El.mk' esInfo Tryz.underlying43 rfl (by omega)
def OwnE (w : World) (B : Nat) (v : Value) (n : Nat) (ms : List (Ed × Value)) : Prop :=
  ms.length = n ∧ w.ownsRow B 55 5 v n (ms.flatMap esC) ∧ ∀ m, m ∈ ms → w.ownsRow B 31 2 m.2 m.1.xs.length (m.1.xs.flatMap Itv.cells)
theorem OwnE.chg {F : Nat → Prop} {w w' : World} {B n : Nat} {v : Value} {ms : List (Ed × Value)} (h : OwnE w B v n ms) (hc : Chg F w w') (hF : ∀ b, B ≤ b → b < w.heap.size → ¬ F b) : OwnE w' B v n ms :=
  ⟨h.1, owns_chg h.2.1 hc (fun b hb => hF b (h.2.1.lt b hb).1 (h.2.1.lt b hb).2), fun m hm => owns_chg (h.2.2 m hm) hc (fun b hb => hF b ((h.2.2 m hm).lt b hb).1 ((h.2.2 m hm).lt b hb).2)⟩
theorem OwnE.grew {w w' : World} {B n : Nat} {v : Value} {ms : List (Ed × Value)} (h : OwnE w B v n ms) (hc : Grew w w') : OwnE w' B v n ms :=
  ⟨h.1, owns_grew h.2.1 hc, fun m hm => owns_grew (h.2.2 m hm) hc⟩
theorem OwnE.mono {w : World} {B B' n : Nat} {v : Value} {ms : List (Ed × Value)} (h : OwnE w B v n ms) (hb : B' ≤ B) : OwnE w B' v n ms :=
  ⟨h.1, owns_mono h.2.1 hb, fun m hm => owns_mono (h.2.2 m hm) hb⟩
theorem OwnE.nil (w : World) (B : Nat) : OwnE w B (.slice none 0 0) 0 [] := ⟨rfl, World.ownsRow_nil _ _ _ _, fun m hm => by cases hm⟩
/-- One more place behind. -/
theorem OwnE.append {w : World} {B n : Nat} {v : Value} {ms : List (Ed × Value)} (h : OwnE w B v n ms) (m : Ed × Value) (hm : w.ownsRow B 31 2 m.2 m.1.xs.length (m.1.xs.flatMap Itv.cells)) (hv : m.2.oneCell' = true) (hn : n ≤ 1000) (hB : B ≤ w.heap.size) :
    ∃ v' w', (Builtin.append_ #[43, 43] 43 #[v, .slice (some ⟨w.heap.size, 0, none⟩) 1 1]).run Tryz.prog (w.alloc (.cells (esC m).toArray 55)) = .ok v' w' ∧ OwnE w' B v' (n + 1) (ms ++ [m]) ∧ w.grownBy w' v.ownBlock := by
  obtain ⟨v', w', hr, ho, hg, _⟩ := owns_append_lit (P := Tryz.prog) w esEl h.2.1 1 (esC m) rfl (by
    intro u hu
    simp only [esC, List.mem_cons, List.not_mem_nil, or_false] at hu
    rcases hu with rfl | rfl | rfl | rfl | rfl <;> first | rfl | exact hv) (by omega) (by omega) hB
  refine ⟨v', w', hr, ⟨by rw [List.length_append, h.1]; rfl, by rw [List.flatMap_append]; simpa using ho, fun x hx => ?_⟩, hg⟩
  have hx' : w.ownsRow B 31 2 x.2 x.1.xs.length (x.1.xs.flatMap Itv.cells) := by
    rcases List.mem_append.1 hx with hx | hx
    · exact h.2.2 x hx
    · rw [List.mem_singleton.1 hx]; exact hm
  exact owns_chg hx' (Chg.of_grownBy hg) (fun b hb hF => own_ne h.2.1 hx' (by decide) hF hb)
/-- No two of the rows lie in one block. -/
def Apart (ms : List (Ed × Value)) : Prop := ms.Pairwise (fun x y => ∀ b, x.2.ownBlock = some b → y.2.ownBlock ≠ some b)
theorem apart_snoc {ms : List (Ed × Value)} {m : Ed × Value} (h : Apart ms) (hm : ∀ x, x ∈ ms → ∀ b, x.2.ownBlock = some b → m.2.ownBlock ≠ some b) : Apart (ms ++ [m]) :=
  List.pairwise_append.2 ⟨h, List.pairwise_singleton _ _, fun x hx y hy b e => by
    rw [List.mem_singleton.1 hy]
    exact hm x hx b e⟩
/-- Places with states come back, in memory of their own, no two rows in one block. -/
def RetEa (es : List Ed) (w : World) (e : Ending) (w' : World) : Prop := ∃ a c ms, e = .returned (.slice a es.length c) ∧ OwnE w' w.heap.size (.slice a es.length c) es.length ms ∧ ms.map (·.1) = es ∧ Apart ms ∧ Grew w w'
theorem retEa_none {w w' : World} (h : Grew w w') : RetEa [] w (.returned (.slice none 0 0)) w' := ⟨none, 0, [], rfl, OwnE.nil _ _, rfl, List.Pairwise.nil, h⟩
theorem implAbs (g : Nat) (xs : List Itv) (c : Itv) (w : World) (h4 : xs.length = 4) (hb : Blk w g 110 (stC xs c.lo c.hi)) :
    Calls Tryz.prog 55 #[.pointer (some ⟨g, 0, none⟩)] w fun en w' => ∃ a k, en = .returned (.agg #[.bool true, .slice a 4 k, .int .i64 c.lo, .int .i64 c.hi]) ∧ w'.ownsRow w.heap.size 31 2 (.slice a 4 k) 4 (xs.flatMap Itv.cells) ∧ Grew w w' := by
  match xs, h4 with
  | [x0, x1, x2, x3], _ =>
    refine (stAbs g x0 x1 x2 x3 c w hb).mono ?_
    rintro e w' ⟨val, rfl, ⟨a, k, rfl, ho⟩, hg⟩
    exact ⟨a, k, rfl, ho, hg⟩
/-- 'append' in a region that draws its order, its run known. -/
theorem heldAppend {P : Program} {ops : Array Oper} {o : Oper} {a : Act} {K : Act → World → Prop} {Q : Exit → Act → World → Prop} {E : Prop} {w w' : World} {v y v' : Value} {t : TypeId} (hgd : o.guard = none) (s x : Operand)
    (ho : o.op = .call { callee := .builtin .append, args := #[s, x], argTypes := #[t, t] }) (hty : o.type = t) (hs : a.eval s = v) (hx : a.eval x = y)
    (hrun : (Builtin.append_ #[t, t] t #[v, y]).run P w = .ok v' w') (h : K (a.put o.dst v') w') :
    if Region.wanted o (yielded ops a.tmps) = true then Oper.wp P o a w K Q else E := by
  have hw : Region.wanted o (yielded ops a.tmps) = true := by simp [Region.wanted, hgd]
  rw [if_pos hw]
  unfold Oper.wp execOp
  simp only [ho, hty, resolve, invoke, builtin, Sem.run_bind, Sem.run_pure, Result.andThen_ok, List.map_toArray, List.map_cons, List.map_nil, hs, hx, hrun]
  exact h
theorem implBelow (n : Int) (w : World) : Calls Tryz.prog 53 #[.int .i64 n, .int .i64 10] w fun e w' => e = .returned (.bool (decide (0 ≤ n) && decide (n < 10))) ∧ Grew w w' := by
  by_cases h1 : 0 ≤ n
  · go_enter Tryz.func53, Tryz.ntmps53
    go_wp2
    go_ret
    exact ⟨by simp [h1], gr⟩
  · go_enter Tryz.func53, Tryz.ntmps53
    go_wp2
    go_ret
    exact ⟨by simp; omega, gr⟩
set_option maxRecDepth 100000 in
set_option maxHeartbeats 8000000 in
theorem implAbsStep (pa : Option Addr) (pn pc : Nat) (ps : List Prc) (sa : Option Addr) (sn sc : Nat) (ss : List Sum) (i : Ins) (pcc : Int) (on : Bool) (xa : Option Addr) (xn xc : Nat) (xs : List Itv) (slo shi : Int) (w : World)
    (hr : RdP w pa pn ps) (hn : pn ≤ 9223372036854775807) (hss : RdL ESum 3 w sa sn ss) (hsn : sn ≤ 9223372036854775807) (hx : RdL EItv 2 w xa xn xs) (hxn : xn ≤ 9223372036854775807) (hc : xn ≤ xc) :
    Calls Tryz.prog 12 #[.agg #[.slice pa pn pc], .slice sa sn sc, i.v, .int .i64 pcc, .agg #[.bool on, .slice xa xn xc, .int .i64 slo, .int .i64 shi]] w (RetEa (stepL ps ss i pcc on xs slo shi) w) := by
  have HS := Lib.hid (fun W (h : Grew w W) => implReadState on xa xn xc xs slo shi W (hx.grew staysItv h) hxn hc)
  have HP := Lib.hid (fun W (h : Grew w W) => implSumsOk pa sa pn sn pc sc ps ss W (hr.grew h) (hss.grew staysSum h) hn hsn)
  have HQ := Lib.hid (fun W => implInsOk i pn 10 W)
  have HBL := Lib.hid (fun W => implBelow pcc W)
  have HED := Lib.hid (fun g W (gw : Grew w W) (hb : Blk W g 110 (stC xs slo shi)) (ho : stOkB true xs slo shi = true) (hp : sumsOkB ps ss = true) (hi : insOkB i pn 10 = true) (hpc : (decide (0 ≤ pcc) && decide (pcc < 10)) = true) => (by
    have hpp := hp
    simp only [sumsOkB, prgOkB, Bool.and_eq_true, decide_eq_true_eq] at hpp
    exact implEdges g pa pn pc ps sa sn sc ss i pcc xs slo shi W hb ho (hr.grew gw) (by simp only [sumsOkB, Bool.and_eq_true] at hp; exact hp.1.1) (hss.grew staysSum gw) (by rw [← hss.len, ← hr.len]; exact hpp.1.2) hi (by simpa using hpc) (by rw [← hr.len]; exact hpp.1.1.1.1) :
    Calls Tryz.prog 54 #[.pointer (some ⟨g, 0, none⟩), .agg #[.slice pa pn pc], .slice sa sn sc, i.v, .int .i64 pcc] W (RetEd (edgesI ps ss i pcc xs ⟨slo, shi⟩) W)))
  have HLEN := Lib.hid (fun e (h : e ∈ edgesI ps ss i pcc xs ⟨slo, shi⟩) => edges_len h)
  have HTWO := Lib.hid (edges_two ps ss i pcc xs ⟨slo, shi⟩)
  rw [stepL, stepB, hr.len]
  obtain ⟨q, hq⟩ : ∃ q, insOkB i pn 10 = q := ⟨_, rfl⟩
  obtain ⟨p, hp⟩ : ∃ p, sumsOkB ps ss = p := ⟨_, rfl⟩
  obtain ⟨r, hr3⟩ : ∃ r, (decide (0 ≤ pcc) && decide (pcc < 10)) = r := ⟨_, rfl⟩
  obtain ⟨es, hes⟩ : ∃ es, edgesI ps ss i pcc xs ⟨slo, shi⟩ = es := ⟨_, rfl⟩
  rw [hp] at HP HED ⊢
  rw [hq] at HQ HED ⊢
  rw [hr3] at HBL HED ⊢
  rw [hes] at HED HLEN HTWO ⊢
  obtain ⟨V, hV⟩ : ∃ V, (if ((stOkB on xs slo shi && on) && (p && (q && r))) = true then es else []) = V := ⟨_, rfl⟩
  rw [hV]
  have HV := Lib.hid hV
  clear hr hss hx hp hq hr3 hes hV
  obtain ⟨op, d, a, b, rel, lo, hi2, to⟩ := i
  go_enter Tryz.func12, Tryz.ntmps12
  go_wp2_with fail
  refine (HS.out _ (gr)).mono ?_
  rintro e w1 ⟨g1, ⟨h, rfl⟩ | ⟨h, sb, rfl, hb1, hb2⟩⟩
  · have HG := Lib.hid (show Grew w w1 from grew_tr (gr) g1)
    have hv := HV.out
    rw [h, Bool.false_and] at hv
    simp only [Bool.false_eq_true, if_false] at hv
    subst hv
    obtain ⟨r0, hr2⟩ : ∃ r, stOkB on xs slo shi = r := ⟨_, rfl⟩
    rw [hr2]
    clear g1 h hr2 HV
    cases r0
    all_goals
      go_wp2
      go_ret
      exact retEa_none HG.out
  · have HG := Lib.hid (show Grew w w1 from grew_tr (gr) g1)
    have hv := HV.out
    rw [h, Bool.true_and] at hv
    clear HV
    obtain ⟨hs1, rfl⟩ : stOkB on xs slo shi = true ∧ on = true := by simpa using h
    have h4 : xs.length = 4 := (stOk_parts hs1).1
    have HLN := Lib.hid (fun e he => (HLEN.out e he).trans h4)
    have HEB := Lib.hid (fun W (g : Grew w1 W) h1 h2 h3 => HED.out sb W (grew_tr HG.out g) (hb2.grew g) hs1 h1 h2 h3)
    have p0 : w1.cell? ⟨w.heap.size, 0, none⟩ = some (.slice pa pn pc) := (g1.cell (p := ⟨w.heap.size, 0, none⟩) (by simp only [World.size_alloc]; omega)).trans (by simp [go_sem])
    have i0 : w1.cell? ⟨w.heap.size + 1, 0, none⟩ = some (.int .i64 op) := (g1.cell (p := ⟨w.heap.size + 1, 0, none⟩) (by simp only [World.size_alloc]; omega)).trans (by simp [go_sem])
    have i1 : w1.cell? ⟨w.heap.size + 1, 1, none⟩ = some (.int .i64 d) := (g1.cell (p := ⟨w.heap.size + 1, 1, none⟩) (by simp only [World.size_alloc]; omega)).trans (by simp [go_sem])
    have i2 : w1.cell? ⟨w.heap.size + 1, 2, none⟩ = some (.int .i64 a) := (g1.cell (p := ⟨w.heap.size + 1, 2, none⟩) (by simp only [World.size_alloc]; omega)).trans (by simp [go_sem])
    have i3 : w1.cell? ⟨w.heap.size + 1, 3, none⟩ = some (.int .i64 b) := (g1.cell (p := ⟨w.heap.size + 1, 3, none⟩) (by simp only [World.size_alloc]; omega)).trans (by simp [go_sem])
    have i4 : w1.cell? ⟨w.heap.size + 1, 4, none⟩ = some (.int .i64 rel) := (g1.cell (p := ⟨w.heap.size + 1, 4, none⟩) (by simp only [World.size_alloc]; omega)).trans (by simp [go_sem])
    have i5 : w1.cell? ⟨w.heap.size + 1, 5, none⟩ = some (.int .i64 lo) := (g1.cell (p := ⟨w.heap.size + 1, 5, none⟩) (by simp only [World.size_alloc]; omega)).trans (by simp [go_sem])
    have i6 : w1.cell? ⟨w.heap.size + 1, 6, none⟩ = some (.int .i64 hi2) := (g1.cell (p := ⟨w.heap.size + 1, 6, none⟩) (by simp only [World.size_alloc]; omega)).trans (by simp [go_sem])
    have i7 : w1.cell? ⟨w.heap.size + 1, 7, none⟩ = some (.int .i64 to) := (g1.cell (p := ⟨w.heap.size + 1, 7, none⟩) (by simp only [World.size_alloc]; omega)).trans (by simp [go_sem])
    have lw : w.heap.size + 1 + 1 + 1 ≤ w1.heap.size := by have := g1.size; simp only [World.size_alloc] at this; omega
    have l0 : w.heap.size < w1.heap.size := by omega
    have l1 : w.heap.size + 1 < w1.heap.size := by omega
    clear g1 h hs1 hb1 hb2 HED HLEN
    cases p
    · simp only [Bool.false_and, Bool.false_eq_true, if_false] at hv
      subst hv
      go_wp2_with ((with_reducible refine (HP.out _ (grew_tr HG.out (gr))).mono ?_); rintro e w' ⟨rfl, g'⟩; (first | obtain ⟨x, rfl⟩ := ext_cold g' | obtain ⟨x, rfl⟩ := ext_col g' | obtain ⟨x, rfl⟩ := ext_of g'); clear g')
      go_ret
      refine retEa_none ?_
      have hg := HG.out
      exact gr
    cases q
    · simp only [Bool.false_and, Bool.and_false, Bool.false_eq_true, if_false] at hv
      subst hv
      go_wp2_with (first | ((with_reducible refine (HP.out _ (grew_tr HG.out (gr))).mono ?_); rintro e w' ⟨rfl, g'⟩; (first | obtain ⟨x, rfl⟩ := ext_cold g' | obtain ⟨x, rfl⟩ := ext_col g' | obtain ⟨x, rfl⟩ := ext_of g'); clear g') | ((with_reducible refine (HQ.out _).mono ?_); rintro e w' ⟨rfl, g'⟩; (first | obtain ⟨y, rfl⟩ := ext_cold g' | obtain ⟨y, rfl⟩ := ext_col g' | obtain ⟨y, rfl⟩ := ext_of g'); clear g'))
      go_ret
      refine retEa_none ?_
      have hg := HG.out
      exact gr
    cases r
    · simp only [Bool.and_false, Bool.false_eq_true, if_false] at hv
      subst hv
      go_wp2_with (first | ((with_reducible refine (HP.out _ (grew_tr HG.out (gr))).mono ?_); rintro e w' ⟨rfl, g'⟩; (first | obtain ⟨x, rfl⟩ := ext_cold g' | obtain ⟨x, rfl⟩ := ext_col g' | obtain ⟨x, rfl⟩ := ext_of g'); clear g') | ((with_reducible refine (HQ.out _).mono ?_); rintro e w' ⟨rfl, g'⟩; (first | obtain ⟨y, rfl⟩ := ext_cold g' | obtain ⟨y, rfl⟩ := ext_col g' | obtain ⟨y, rfl⟩ := ext_of g'); clear g') | ((with_reducible refine (HBL.out _).mono ?_); rintro e w' ⟨rfl, g'⟩; (first | obtain ⟨z, rfl⟩ := ext_cold g' | obtain ⟨z, rfl⟩ := ext_col g' | obtain ⟨z, rfl⟩ := ext_of g'); clear g'))
      go_ret
      refine retEa_none ?_
      have hg := HG.out
      exact gr
    simp only [Bool.and_self, if_true] at hv
    subst hv
    go_wp2_with (first | ((with_reducible refine (HP.out _ (grew_tr HG.out (gr))).mono ?_); rintro e w' ⟨rfl, g'⟩; (first | obtain ⟨x, rfl⟩ := ext_cold g' | obtain ⟨x, rfl⟩ := ext_col g' | obtain ⟨x, rfl⟩ := ext_of g'); clear g') | ((with_reducible refine (HQ.out _).mono ?_); rintro e w' ⟨rfl, g'⟩; (first | obtain ⟨y, rfl⟩ := ext_cold g' | obtain ⟨y, rfl⟩ := ext_col g' | obtain ⟨y, rfl⟩ := ext_of g'); clear g') | ((with_reducible refine (HBL.out _).mono ?_); rintro e w' ⟨rfl, g'⟩; (first | obtain ⟨z, rfl⟩ := ext_cold g' | obtain ⟨z, rfl⟩ := ext_col g' | obtain ⟨z, rfl⟩ := ext_of g'); clear g'))
    refine (HEB.out _ (gr) (by trivial) (by trivial) (by trivial)).mono ?_
    rintro e w2 ⟨ea, ec, rfl, her, ge2⟩
    have HW2 := Lib.hid (show Grew w w2 from grew_tr HG.out (grew_tr (gr) ge2))
    have HER := Lib.hid her
    obtain ⟨n, hn⟩ : ∃ n, es.length = n := ⟨_, rfl⟩
    rw [hn] at HER HTWO ⊢
    have HN := Lib.hid hn
    have hn2 := HTWO.out
    clear hn her ge2 p0 i0 i1 i2 i3 i4 i5 i6 i7 l0 l1 lw HEB HP HQ HBL HS
    go_wp2
    go_loopw [13, 53] (fun v i wr => ∃ (k : Nat) (ms : List (Ed × Value)), k ≤ n ∧ i = .int .i64 k ∧ Grew w2 wr ∧ ms.map (·.1) = es.take k ∧ OwnE wr w2.heap.size v k ms ∧ Apart ms) (fun _ i _ => n - (intOf i).toNat)
    case atStart => exact ⟨0, [], Nat.zero_le _, rfl, Below.refl _ _, rfl, OwnE.nil _ _, List.Pairwise.nil⟩
    case round =>
      obtain ⟨k, ms, hk, rfl, hg, hms, ho, hap⟩ := hrel
      have HAP := Lib.hid hap
      clear hap
      obtain ⟨oa, oc, rfl⟩ := owns_slice ho.2.1
      have HG2 := Lib.hid hg
      have HO := Lib.hid ho
      have HMS := Lib.hid hms
      by_cases hlt : k < n
      · obtain ⟨bb, off, ⟨eto, exs, ⟨el, eh⟩⟩, cc, hsa, hx, hcl, hcell, ⟨g, hcc, hbg⟩⟩ := (HER.out.grew staysEdge hg).at_ hlt
        subst hsa hcc
        have c0 := hcell 0 _ rfl
        have c1 := hcell 1 _ rfl
        simp only [Nat.add_zero] at c0
        have lb := World.block_lt_of_cell? _ _ c0
        have hxl := HLN.out _ (List.mem_of_getElem? hx)
        have HXL := Lib.hid hxl
        have HBG := Lib.hid hbg
        have HX := Lib.hid hx
        clear hx hcell hcl hbg hg ho hms hxl
        simp only at lb
        go_upto_region 8 with fail
        refine wp_letH ?_
        intro E hE
        have GE : Grew wr E := by rw [hE]; exact gr
        have q0 : E.cell? ⟨wr.heap.size, 0, none⟩ = some (.int .i64 eto) := by rw [hE]; simp [go_sem]
        have q1 : E.cell? ⟨wr.heap.size, 1, none⟩ = some (.pointer (some ⟨g, 0, none⟩)) := by rw [hE]; simp [go_sem]
        have HAB := Lib.hid (fun W (h : Grew E W) => implAbs g exs ⟨el, eh⟩ W HXL.out ((HBG.out.grew GE).grew h))
        have HSG := Lib.hid (fun W (h : Grew E W) => (⟨(h.cell (p := ⟨wr.heap.size, 0, none⟩) (World.block_lt_of_cell? _ _ q0)).trans q0, (h.cell (p := ⟨wr.heap.size, 1, none⟩) (World.block_lt_of_cell? _ _ q1)).trans q1⟩ : W.cell? ⟨wr.heap.size, 0, none⟩ = some (.int .i64 eto) ∧ W.cell? ⟨wr.heap.size, 1, none⟩ = some (.pointer (some ⟨g, 0, none⟩))))
        have HGE := Lib.hid GE
        clear hE c0 c1 lb GE
        go_region_held3 (fun W => W.cell? ⟨wr.heap.size, 0, none⟩ = some (.int .i64 eto) ∧ W.cell? ⟨wr.heap.size, 1, none⟩ = some (.pointer (some ⟨g, 0, none⟩))) (first | assumption | exact HSG.out _ (gr))
          (first
          | (refine (HAB.out _ (gr)).mono ?_; rintro e wh ⟨va, vc, rfl, hov, ga⟩; have hgh : Grew E wh := grew_tr (gr) ga; have hs8 := HSG.out _ hgh; clear ga
             have HOh := Lib.hid (HO.out.grew (grew_tr HGE.out hgh))
             have hz1 := HG2.out.size
             have hz2 := HGE.out.size
             have hz3 := hgh.size
             obtain ⟨v4, w4, hr4, ho4, g4⟩ := HOh.out.append ((⟨eto, exs, ⟨el, eh⟩⟩ : Ed), .slice va 4 vc) (by rw [show exs.length = 4 from HXL.out]; exact owns_mono hov (by first | omega | (simp only [World.size_drew]; omega))) rfl (by omega) (by omega)
             have R4 : Hid ((Builtin.append_ #[43, 43] 43 #[.slice oa k oc, .slice (some ⟨wh.heap.size, 0, none⟩) 1 1]).run Tryz.prog (wh.alloc (.cells #[.int .i64 eto, .bool true, .slice va 4 vc, .int .i64 el, .int .i64 eh] 55)) = .ok v4 w4) := Lib.hid hr4
             have HG4 := Lib.hid (show Grew w2 w4 from (grew_tr HG2.out (grew_tr HGE.out hgh)).grown g4 (by omega) (fun j hj => (HOh.out.2.1.lt j hj).1))
             have hnb : ¬ (Value.slice oa k oc).ownBlock = some wr.heap.size := fun e => by have := (HO.out.2.1.lt _ e).2; omega
             have hs9 : w4.cell? ⟨wr.heap.size, 0, none⟩ = some (.int .i64 eto) ∧ w4.cell? ⟨wr.heap.size, 1, none⟩ = some (.pointer (some ⟨g, 0, none⟩)) := ⟨(World.cell?_of_block (a := ⟨wr.heap.size, 0, none⟩) ((Chg.of_grownBy g4).block wr.heap.size (World.block_lt_of_cell? _ _ hs8.1) hnb)).trans hs8.1, (World.cell?_of_block (a := ⟨wr.heap.size, 1, none⟩) ((Chg.of_grownBy g4).block wr.heap.size (World.block_lt_of_cell? _ _ hs8.1) hnb)).trans hs8.2⟩
             have HO4 := Lib.hid ho4
             have HAP4 := Lib.hid (apart_snoc (m := ((⟨eto, exs, ⟨el, eh⟩⟩ : Ed), Value.slice va 4 vc)) HAP.out (fun x hx b e1 e2 => by have h1 := ((HO.out.2.2 x hx).lt b e1).2; have h2 := (hov.lt b e2).1; (try simp only [World.size_drew] at h2); omega))
             clear hr4 ho4 g4 hnb hov hz1 hz2 hz3)
          | (refine heldAppend rfl _ _ rfl rfl rfl rfl R4.out ?_))
        clear hs8 hs9 hgh q0 q1 R4 HSG HAB
        have HMS4 := Lib.hid (show (ms ++ [((⟨eto, exs, ⟨el, eh⟩⟩ : Ed), Value.slice va 4 vc)]).map (·.1) = es.take (k + 1) from by rw [List.map_append, HMS.out, take_get HX.out]; rfl)
        go_wp2
        go_roundw
        case rel => exact ⟨k + 1, _, by omega, by go_num, HG4.out, HMS4.out, HO4.out, HAP4.out⟩
        case measure => simp [intOf]; omega
      · obtain rfl : k = n := by omega
        have hfin : es.take k = es := List.take_of_length_le (by rw [HN.out]; exact Nat.le_refl _)
        clear hg ho hms
        go_wp2
        go_ret
        refine ⟨oa, oc, ms, (by rw [HN.out]; rfl), ?_, HMS.out.trans hfin, HAP.out, grew_tr HW2.out HG2.out⟩
        rw [HN.out]
        exact HO.out.mono HW2.out.size
end Go.Proofs.YtpmfpgbpndobpaaGreat
