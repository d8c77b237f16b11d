/- To which places a step leads, and with which states: the program's edges. No condition. -/
import Derived.Test.YtpmfpgbpndobpaaGreatStepE
namespace Go.Proofs.YtpmfpgbpndobpaaGreat
open Go.RowKit
set_option linter.unusedVariables false
set_option linter.unusedSimpArgs false
attribute [local go_sem] ext_cell ext_frozen ext_lt ext_le ext_le1 lt_s2 lt_s3 lt_s4 lt_s5 lt_s6 ext_lt1 ext_lt2 ext_lt3
attribute [local go_sem] asArith asNotArith asAny asNotAny asLoad asNotLoad asStore asNotStore asIf asNotIf asJump asNotJump asCall asNotCall asAssert asNotAssert asRet asNotRet

/-- A place, with a state. -/
structure Ed where
  to : Int
  xs : List Itv
  c : Itv
  deriving DecidableEq
def EEdge : World → List Value → Ed → Prop := fun w cs e => ∃ g, cs = [.int .i64 e.to, .pointer (some ⟨g, 0, none⟩)] ∧ Blk w g 110 (stC e.xs e.c.lo e.c.hi)
theorem staysEdge : Stays EEdge := fun w w' cs e hg ⟨g, h1, h2⟩ => ⟨g, h1, h2.grew hg⟩
def optE (o : Option (List Itv)) (to : Int) (c : Itv) : List Ed := match o with
  | none => []
  | some zs => [⟨to, zs, c⟩]
def optA (o : Option (List Itv × Itv)) (to : Int) : List Ed := match o with
  | none => []
  | some z => [⟨to, z.1, z.2⟩]
def edgesI (ps : List Prc) (ss : List Sum) (i : Ins) (pc : Int) (xs : List Itv) (c : Itv) : List Ed :=
  if i.op = 12 then []
  else if i.op = 9 then [⟨i.to, xs, c⟩]
  else if i.op = 8 then optE (relSt (relI i.rel (nthI xs i.a) (nthI xs i.b)) xs i.a i.b) i.to c ++ optE (relSt (notI i.rel (nthI xs i.a) (nthI xs i.b)) xs i.a i.b) (pc + 1) c
  else optA (actI ps ss i xs c) (pc + 1)
/-- A row of places with states, to be read. -/
def RetEd (es : List Ed) (w : World) (e : Ending) (w' : World) : Prop := ∃ a c, e = .returned (.slice a es.length c) ∧ RdL EEdge 2 w' a es.length es ∧ Grew w w'
theorem edgeInfo : (Tryz.prog.info? 104).map (fun i => (i.zero, i.size, i.bytes)) = some (some (.agg #[.int .i64 0, .pointer none]), 2, 16) := by kernel_rfl
theorem edgeEl : El Tryz.prog 101 104 (.agg #[.int .i64 0, .pointer none]) 2 16 := El.mk' edgeInfo Tryz.underlying101 rfl (by omega)
theorem rd_edge1 {w : World} {b off g : Nat} {to : Int} {xs : List Itv} {c : Itv} (h0 : w.cell? ⟨b, off, none⟩ = some (.int .i64 to)) (h1 : w.cell? ⟨b, off + 1, none⟩ = some (.pointer (some ⟨g, 0, none⟩))) (hb : Blk w g 110 (stC xs c.lo c.hi)) :
    RdL EEdge 2 w (some ⟨b, off, none⟩) 1 [⟨to, xs, c⟩] := by
  refine ⟨rfl, .inr ⟨b, off, rfl, fun k x hx => ?_⟩⟩
  match k, hx with
  | 0, hx =>
    cases hx
    exact ⟨[.int .i64 to, .pointer (some ⟨g, 0, none⟩)], rfl, fun j u hu => by
      match j, hu with
      | 0, hu => cases hu; simpa using h0
      | 1, hu => cases hu; simpa using h1, ⟨g, rfl, hb⟩⟩
def edC (e : Ed × Nat) : List Value := [.int .i64 e.1.to, .pointer (some ⟨e.2, 0, none⟩)]
theorem edC_len (e : Ed × Nat) : (edC e).length = 2 := rfl
theorem rd_edges {w : World} {B n cap : Nat} {a : Option Addr} (ms : List (Ed × Nat)) (hn : ms.length = n) (h : w.ownsRow B 104 2 (.slice a n cap) n (ms.flatMap edC)) (hb : ∀ m, m ∈ ms → Blk w m.2 110 (stC m.1.xs m.1.c.lo m.1.c.hi)) : RdL EEdge 2 w a n (ms.map (·.1)) := by
  have hr := owns_rd h
  refine ⟨by simp [hn], ?_⟩
  rcases hr.2 with h0 | ⟨b, off, rfl, hc⟩
  · left
    have := hr.1
    rw [h0, List.length_nil] at this
    omega
  · refine .inr ⟨b, off, rfl, fun k x hx => ?_⟩
    rw [List.getElem?_map] at hx
    obtain ⟨m, hm, rfl⟩ := Option.map_eq_some_iff.1 hx
    exact ⟨edC m, rfl, fun j u hu => by rw [Nat.add_assoc]; exact hc _ _ (flat_get edC 2 edC_len ms k m j u hm hu), ⟨m.2, rfl, hb m (List.mem_of_getElem? hm)⟩⟩
set_option maxRecDepth 100000 in
set_option maxHeartbeats 4000000 in
theorem implEdges12 (sb : Nat) (pa : Option Addr) (pn pc : Nat) (ps : List Prc) (sa : Option Addr) (sn sc : Nat) (ss : List Sum) (d a b rel lo hi to : Int) (pcc : Int) (xs : List Itv) (slo shi : Int) (w : World) (hBk : Blk w sb 110 (stC xs slo shi)) (ho : stOkB true xs slo shi = true) :
    Calls Tryz.prog 54 #[.pointer (some ⟨sb, 0, none⟩), .agg #[.slice pa pn pc], .slice sa sn sc, Ins.v ⟨12, d, a, b, rel, lo, hi, to⟩, .int .i64 pcc] w (RetEd (edgesI ps ss ⟨12, d, a, b, rel, lo, hi, to⟩ pcc xs ⟨slo, shi⟩) w) := by
  have h4 : xs.length = 4 := (stOk_parts ho).1
  have hsb := hBk.lt
  have HB := Lib.hid hBk
  have HCP := Lib.hid (fun W (hbb : Blk W sb 110 (stC xs slo shi)) => implCopy sb xs slo shi W hbb h4)
  have HC : Hid (∀ W, Calls Tryz.prog 95 #[Ins.v ⟨12, d, a, b, rel, lo, hi, to⟩] W fun e w' => e = .returned (.iface 156 (.agg #[.int .i64 a])) ∧ Grew W w') := Lib.hid (fun W => codeOf ⟨12, d, a, b, rel, lo, hi, to⟩ W)
  rw [show edgesI ps ss ⟨12, d, a, b, rel, lo, hi, to⟩ pcc xs ⟨slo, shi⟩ = [] from by simp [edgesI]]
  clear h4 ho hBk HCP
  go_enter Tryz.func54, Tryz.ntmps54
  go_wp2_with fail
  refine (HC.out _).mono ?_
  rintro e w1 ⟨rfl, g1⟩
  have hG := show Grew w w1 from grew_tr (gr) g1
  have HW1 := Lib.hid hG
  have HB1 := Lib.hid (HB.out.grew hG)
  have hs1 := HB1.out.lt
  clear g1 hG HC HB hsb
  go_wp2
  go_ret
  refine ⟨none, 0, rfl, RdL.nil _ _ _ _, ?_⟩
  have hg := HW1.out
  exact gr
set_option maxRecDepth 100000 in
set_option maxHeartbeats 4000000 in
theorem implEdges9 (sb : Nat) (pa : Option Addr) (pn pc : Nat) (ps : List Prc) (sa : Option Addr) (sn sc : Nat) (ss : List Sum) (d a b rel lo hi to : Int) (pcc : Int) (xs : List Itv) (slo shi : Int) (w : World) (hBk : Blk w sb 110 (stC xs slo shi)) (ho : stOkB true xs slo shi = true) :
    Calls Tryz.prog 54 #[.pointer (some ⟨sb, 0, none⟩), .agg #[.slice pa pn pc], .slice sa sn sc, Ins.v ⟨9, d, a, b, rel, lo, hi, to⟩, .int .i64 pcc] w (RetEd (edgesI ps ss ⟨9, d, a, b, rel, lo, hi, to⟩ pcc xs ⟨slo, shi⟩) w) := by
  have h4 : xs.length = 4 := (stOk_parts ho).1
  have hsb := hBk.lt
  have HB := Lib.hid hBk
  have HCP := Lib.hid (fun W (hbb : Blk W sb 110 (stC xs slo shi)) => implCopy sb xs slo shi W hbb h4)
  have HC : Hid (∀ W, Calls Tryz.prog 95 #[Ins.v ⟨9, d, a, b, rel, lo, hi, to⟩] W fun e w' => e = .returned (.iface 150 (.agg #[.int .i64 to])) ∧ Grew W w') := Lib.hid (fun W => codeOf ⟨9, d, a, b, rel, lo, hi, to⟩ W)
  rw [show edgesI ps ss ⟨9, d, a, b, rel, lo, hi, to⟩ pcc xs ⟨slo, shi⟩ = [⟨to, xs, ⟨slo, shi⟩⟩] from by simp [edgesI]]
  clear h4 ho hBk
  go_enter Tryz.func54, Tryz.ntmps54
  go_wp2_with fail
  refine (HC.out _).mono ?_
  rintro e w1 ⟨rfl, g1⟩
  have hG := show Grew w w1 from grew_tr (gr) g1
  have HW1 := Lib.hid hG
  have HB1 := Lib.hid (HB.out.grew hG)
  have hs1 := HB1.out.lt
  clear g1 hG HC HB hsb
  go_upto_region 7 with fail
  refine wp_letH ?_
  intro E hE
  have GE := Lib.hid (show Grew w1 E from by rw [hE]; exact gr)
  have q0 : E.cell? ⟨w1.heap.size, 0, none⟩ = some (.int .i64 to) := by rw [hE]; simp [go_sem]
  have HBE := Lib.hid (HB1.out.grew GE.out)
  have HSG := Lib.hid (fun W (g : Grew E W) => (g.cell (p := ⟨w1.heap.size, 0, none⟩) (World.block_lt_of_cell? _ _ q0)).trans q0)
  clear hE
  go_region_held3 (fun W => W.cell? ⟨w1.heap.size, 0, none⟩ = some (.int .i64 to)) (first | assumption | exact HSG.out _ (gr))
    (first
    | (refine (HCP.out _ (HBE.out.grew (gr))).mono ?_; rintro e wh ⟨g, rfl, hge, hbg, ga⟩; have hgh : Grew E wh := grew_tr (gr) ga; have hs8 := HSG.out _ hgh; clear ga))
  have HW2 := Lib.hid (grew_tr HW1.out (grew_tr GE.out hgh))
  have HBG := Lib.hid hbg
  clear hbg hgh hs8 q0 hge
  go_wp2
  go_ret
  refine ⟨_, _, rfl, rd_edge1 (g := g) (by simp [go_sem]) (by simp [go_sem]) ?_, ?_⟩
  · first
    | exact HBG.out.alloc _
    | exact (HBG.out.alloc _).grew (grew_d (Below.refl _ _))
    | exact (HBG.out.grew (grew_d (Below.refl _ _))).alloc _
  · have hg := HW2.out
    exact gr
set_option maxRecDepth 100000 in
set_option maxHeartbeats 4000000 in
theorem implEdges8 (sb : Nat) (pa : Option Addr) (pn pc : Nat) (ps : List Prc) (sa : Option Addr) (sn sc : Nat) (ss : List Sum) (d a b rel lo hi to : Int) (pcc : Int) (xs : List Itv) (slo shi : Int) (w : World) (hBk : Blk w sb 110 (stC xs slo shi)) (ho : stOkB true xs slo shi = true) (ha : varB a = true) (hb : varB b = true) (hrel : 1 ≤ rel ∧ rel ≤ 4) (hpc : 0 ≤ pcc ∧ pcc < 10):
    Calls Tryz.prog 54 #[.pointer (some ⟨sb, 0, none⟩), .agg #[.slice pa pn pc], .slice sa sn sc, Ins.v ⟨8, d, a, b, rel, lo, hi, to⟩, .int .i64 pcc] w (RetEd (edgesI ps ss ⟨8, d, a, b, rel, lo, hi, to⟩ pcc xs ⟨slo, shi⟩) w) := by
  have h4 : xs.length = 4 := (stOk_parts ho).1
  have hsb := hBk.lt
  have HB := Lib.hid hBk
  have HCP := Lib.hid (fun W (hbb : Blk W sb 110 (stC xs slo shi)) => implCopy sb xs slo shi W hbb h4)
  have HC : Hid (∀ W, Calls Tryz.prog 95 #[Ins.v ⟨8, d, a, b, rel, lo, hi, to⟩] W fun e w' => e = .returned (.iface 148 (.agg #[.int .i64 rel, .int .i64 a, .int .i64 b, .int .i64 to])) ∧ Grew W w') := Lib.hid (fun W => codeOf ⟨8, d, a, b, rel, lo, hi, to⟩ W)
  have HRA := Lib.hid (fun g W (hbb : Blk W g 110 (stC xs slo shi)) => implRelate 100 cfRel (relI rel (nthI xs a) (nthI xs b)) g rel a b xs slo shi W hbb ho ha hb (fun W => implItvRel rel _ _ W hrel (nthI_ok ho ha) (nthI_ok ho hb)) (fun p hp => relI_ok hp))
  have HRN := Lib.hid (fun g W (hbb : Blk W g 110 (stC xs slo shi)) => implRelate 101 cfNot (notI rel (nthI xs a) (nthI xs b)) g rel a b xs slo shi W hbb ho ha hb (fun W => implItvNotR rel _ _ W hrel (nthI_ok ho ha) (nthI_ok ho hb)) (fun p hp => notI_ok hp))
  rw [show edgesI ps ss ⟨8, d, a, b, rel, lo, hi, to⟩ pcc xs ⟨slo, shi⟩ = optE (relSt (relI rel (nthI xs a) (nthI xs b)) xs a b) to ⟨slo, shi⟩ ++ optE (relSt (notI rel (nthI xs a) (nthI xs b)) xs a b) (pcc + 1) ⟨slo, shi⟩ from by simp [edgesI]]
  obtain ⟨O1, hO1⟩ : ∃ o, relSt (relI rel (nthI xs a) (nthI xs b)) xs a b = o := ⟨_, rfl⟩
  obtain ⟨O2, hO2⟩ : ∃ o, relSt (notI rel (nthI xs a) (nthI xs b)) xs a b = o := ⟨_, rfl⟩
  rw [hO1] at HRA ⊢
  rw [hO2] at HRN ⊢
  clear hO1 hO2 h4 ho hBk ha hb hrel
  go_enter Tryz.func54, Tryz.ntmps54
  go_wp2_with fail
  refine (HC.out _).mono ?_
  rintro e w1 ⟨rfl, g1⟩
  have hG := show Grew w w1 from grew_tr (gr) g1
  have HW1 := Lib.hid hG
  have HB1 := Lib.hid (HB.out.grew hG)
  have hs1 := HB1.out.lt
  clear g1 hG HC HB hsb
  have w1s : w1.heap.size < w1.heap.size + 1 := by omega
  go_wp2_with fail
  refine (HCP.out _ (HB1.out.alloc _)).mono ?_
  rintro e w2 ⟨g1, rfl, ge1, hb1, ga1⟩
  simp only [World.size_alloc] at ge1
  have l1 := hb1.lt
  have k0 : w2.cell? ⟨w1.heap.size, 0, none⟩ = some (.int .i64 rel) := (ga1.cell (p := ⟨w1.heap.size, 0, none⟩) (by simp)).trans (by simp [go_sem])
  have k1 : w2.cell? ⟨w1.heap.size, 1, none⟩ = some (.int .i64 a) := (ga1.cell (p := ⟨w1.heap.size, 1, none⟩) (by simp)).trans (by simp [go_sem])
  have k2 : w2.cell? ⟨w1.heap.size, 2, none⟩ = some (.int .i64 b) := (ga1.cell (p := ⟨w1.heap.size, 2, none⟩) (by simp)).trans (by simp [go_sem])
  have k3 : w2.cell? ⟨w1.heap.size, 3, none⟩ = some (.int .i64 to) := (ga1.cell (p := ⟨w1.heap.size, 3, none⟩) (by simp)).trans (by simp [go_sem])
  have HW2 := Lib.hid (show Grew w w2 from grew_tr HW1.out (grew_tr (grew_al (Below.refl _ _) _) ga1))
  have HBs := Lib.hid ((HB1.out.alloc (.cells #[.int .i64 rel, .int .i64 a, .int .i64 b, .int .i64 to] 148)).grew ga1)
  have HG1 := Lib.hid hb1
  clear hb1 ga1
  go_wp2_with fail
  refine (HCP.out _ HBs.out).mono ?_
  rintro e w3 ⟨g2, rfl, ge2, hb2, ga2⟩
  have l2 := hb2.lt
  have k0 := (ga2.cell (p := ⟨w1.heap.size, 0, none⟩) (World.block_lt_of_cell? _ _ k0)).trans k0
  have k1 := (ga2.cell (p := ⟨w1.heap.size, 1, none⟩) (World.block_lt_of_cell? _ _ k1)).trans k1
  have k2 := (ga2.cell (p := ⟨w1.heap.size, 2, none⟩) (World.block_lt_of_cell? _ _ k2)).trans k2
  have k3 := (ga2.cell (p := ⟨w1.heap.size, 3, none⟩) (World.block_lt_of_cell? _ _ k3)).trans k3
  have HW3 := Lib.hid (grew_tr HW2.out ga2)
  have HG2 := Lib.hid hb2
  have HG13 := Lib.hid (HG1.out.grew ga2)
  have kl := World.block_lt_of_cell? _ _ k0
  simp only at kl
  have hwle := HW1.out.size
  have n1 : w1.heap.size ≠ g1 := by omega
  have n2 : w1.heap.size ≠ g2 := by omega
  have n12 : g2 ≠ g1 := by omega
  have n21 : g1 ≠ g2 := by omega
  clear hb2 ga2 HBs HCP HG1 HB1 HW2 hs1
  go_wp2_with fail
  refine (HRA.out g1 _ HG13.out).mono ?_
  rintro e w4 ⟨rfl, ⟨ys, l, h, hb4, hys⟩, hc4⟩
  have k0 := chg_cell hc4 k0 n1
  have k1 := chg_cell hc4 k1 n1
  have k2 := chg_cell hc4 k2 n1
  have k3 := chg_cell hc4 k3 n1
  have HG24 := Lib.hid (HG2.out.chg hc4 n12)
  have HG14 := Lib.hid hb4
  have HYS := Lib.hid hys
  have sz4 := hc4.size
  have l4 : g2 < w4.heap.size := by omega
  have kl := World.block_lt_of_cell? _ _ k0
  simp only at kl
  have HW4 := Lib.hid (Below.trans HW3.out (hc4.belowB HW3.out.size (fun k hk => by subst hk; omega)))
  clear hb4 hys hc4 HG2 HG13 HW3 HRA
  cases O1 with
  | none =>
    have HW5 := HW4
    have HG25 := HG24
    go_wp2_with fail
    refine (HRN.out g2 _ HG25.out).mono ?_
    rintro e w6 ⟨rfl, ⟨ys2, ll, hh, hb6, hys2⟩, hc6⟩
    have HG26 := Lib.hid hb6
    have HYS2 := Lib.hid hys2
    have HC6 := Lib.hid hc6
    have hw5 := HW5.out.size
    have HW6 := Lib.hid (Below.trans HW5.out (hc6.belowB HW5.out.size (fun k hk => by subst hk; omega)))
    clear hb6 hys2 hc6 k0 k1 k2 k3
    cases O2 with
    | none =>
      go_wp2
      go_ret
      exact ⟨none, 0, rfl, RdL.nil _ _ _ _, HW6.out⟩
    | some zs2 =>
      obtain ⟨v7, w7, hr7, o7, g7, hv7⟩ := owns_append_lit (P := Tryz.prog) w6 edgeEl (World.ownsRow_nil w6 w6.heap.size 104 2) 1 [.int .i64 (pcc + 1), .pointer (some ⟨g2, 0, none⟩)] rfl (by simp [Value.oneCell']) (by omega) (by omega) (Nat.le_refl _)
      have R7 := Lib.hid hr7
      have hw6 := HW6.out.size
      have hl26 := HG26.out.lt
      have G7 : Below (g2 + 1) w6 w7 := (Below.refl _ _).grown g7 (by omega) (fun j hj => by simp [Value.ownBlock] at hj)
      have HO7 := Lib.hid o7
      obtain ⟨oa7, oc7, rfl⟩ := owns_slice o7
      have HG27 := Lib.hid ((G7.block g2 (by omega)).trans HG26.out)
      have HW7 := Lib.hid (show Grew w w7 from Below.trans HW6.out (G7.mono (by omega)))
      clear hr7 o7 g7 hv7
      go_wp2_with (first | (at_builtin; refine wpList_append_run rfl _ _ rfl rfl rfl rfl R7.out ?_))
      go_ret
      obtain ⟨f1, f2⟩ := HYS2.out _ rfl
      simp only at f1 f2
      cases f2
      subst f1
      refine ⟨_, _, rfl, rd_edges [((⟨pcc + 1, ys2, ⟨slo, shi⟩⟩ : Ed), g2)] rfl HO7.out (fun m hm => ?_), HW7.out⟩
      simp only [List.mem_cons, List.not_mem_nil, or_false] at hm
      subst hm
      exact HG27.out
  | some zs1 =>
    obtain ⟨v5, w5, hr5, o5, g5, hv5⟩ := owns_append_lit (P := Tryz.prog) w4 edgeEl (World.ownsRow_nil w4 w4.heap.size 104 2) 1 [.int .i64 to, .pointer (some ⟨g1, 0, none⟩)] rfl (by simp [Value.oneCell']) (by omega) (by omega) (Nat.le_refl _)
    have R5 := Lib.hid hr5
    have G5 : Grew w4 w5 := (Below.refl _ _).grown g5 (Nat.le_refl _) (fun j hj => by simp [Value.ownBlock] at hj)
    have HW5 := Lib.hid (grew_tr HW4.out G5)
    have HO5 := Lib.hid o5
    obtain ⟨oa5, oc5, rfl⟩ := owns_slice o5
    have HG15 := Lib.hid (HG14.out.grew G5)
    have HG25 := Lib.hid (HG24.out.grew G5)
    have j0 := (G5.cell (p := ⟨w1.heap.size, 0, none⟩) kl).trans k0
    have j1 := (G5.cell (p := ⟨w1.heap.size, 1, none⟩) kl).trans k1
    have j2 := (G5.cell (p := ⟨w1.heap.size, 2, none⟩) kl).trans k2
    have j3 := (G5.cell (p := ⟨w1.heap.size, 3, none⟩) kl).trans k3
    have jl := World.block_lt_of_cell? _ _ j0
    simp only at jl
    have hsz45 : w4.heap.size ≤ w5.heap.size := G5.size
    clear hr5 o5 g5 hv5 G5
    go_wp2_with (first | (at_builtin; refine wpList_append_run rfl _ _ rfl rfl rfl rfl R5.out ?_))
    clear R5 j0 j1 j2 j3
    refine (HRN.out g2 _ HG25.out).mono ?_
    rintro e w6 ⟨rfl, ⟨ys2, ll, hh, hb6, hys2⟩, hc6⟩
    have HG26 := Lib.hid hb6
    have HYS2 := Lib.hid hys2
    have HC6 := Lib.hid hc6
    have hw5 := HW5.out.size
    have HW6 := Lib.hid (Below.trans HW5.out (hc6.belowB HW5.out.size (fun k hk => by subst hk; omega)))
    have HO6 := Lib.hid (owns_chg HO5.out hc6 (fun b hb hF => by have h1 := HO5.out.lt b hb; subst hF; omega))
    have HG16 := Lib.hid (HG15.out.chg hc6 n21)
    clear hb6 hys2 hc6 k0 k1 k2 k3
    cases O2 with
    | none =>
      go_wp2
      go_ret
      obtain ⟨e1, e2⟩ := HYS.out _ rfl
      simp only at e1 e2
      cases e2
      subst e1
      refine ⟨_, _, rfl, rd_edges [((⟨to, ys, ⟨slo, shi⟩⟩ : Ed), g1)] rfl HO6.out (fun m hm => ?_), HW6.out⟩
      simp only [List.mem_cons, List.not_mem_nil, or_false] at hm
      subst hm
      exact HG16.out
    | some zs2 =>
      obtain ⟨v7, w7, hr7, o7, g7, hv7⟩ := owns_append_lit (P := Tryz.prog) w6 edgeEl HO6.out 1 [.int .i64 (pcc + 1), .pointer (some ⟨g2, 0, none⟩)] rfl (by simp [Value.oneCell']) (by omega) (by omega) (by have := HW6.out.size; have := HC6.out.size; omega)
      have R7 := Lib.hid hr7
      have hw6 := HW6.out.size
      have hl26 := HG26.out.lt
      have hsz5 : w5.heap.size ≤ w6.heap.size := HC6.out.size
      have G7 : Below (g2 + 1) w6 w7 := (Below.refl _ _).grown g7 (by omega) (fun j hj => by have h1 := (HO6.out.lt j hj).1; omega)
      have HO7 := Lib.hid o7
      obtain ⟨oa7, oc7, rfl⟩ := owns_slice o7
      have HG27 := Lib.hid ((G7.block g2 (by omega)).trans HG26.out)
      have HG17 := Lib.hid ((G7.block g1 (by omega)).trans HG16.out)
      have HW7 := Lib.hid (show Grew w w7 from Below.trans HW6.out (G7.mono (by omega)))
      clear hr7 o7 g7 hv7
      go_wp2_with (first | (at_builtin; refine wpList_append_run rfl _ _ rfl rfl rfl rfl R7.out ?_))
      go_ret
      obtain ⟨f1, f2⟩ := HYS2.out _ rfl
      simp only at f1 f2
      cases f2
      subst f1
      obtain ⟨e1, e2⟩ := HYS.out _ rfl
      simp only at e1 e2
      cases e2
      subst e1
      refine ⟨_, _, rfl, rd_edges [((⟨to, ys, ⟨slo, shi⟩⟩ : Ed), g1), ((⟨pcc + 1, ys2, ⟨slo, shi⟩⟩ : Ed), g2)] rfl HO7.out (fun m hm => ?_), HW7.out⟩
      simp only [List.mem_cons, List.not_mem_nil, or_false] at hm
      rcases hm with rfl | rfl
      · exact HG17.out
      · exact HG27.out
set_option maxHeartbeats 4000000 in
theorem implEdgesO (T : TypeId) (v : Value) (sb : Nat) (pa : Option Addr) (pn pc : Nat) (ps : List Prc) (sa : Option Addr) (sn sc : Nat) (ss : List Sum) (i : Ins) (pcc : Int) (xs : List Itv) (slo shi : Int) (w : World) (hBk : Blk w sb 110 (stC xs slo shi)) (ho : stOkB true xs slo shi = true)
    (hr : RdP w pa pn ps) (hp : prgOkB ps = true) (hss : RdL ESum 3 w sa sn ss) (hsn : sn = pn) (hi : insOkB i pn 10 = true) (hk : i.op ≠ 8 ∧ i.op ≠ 9 ∧ i.op ≠ 12) (hpc : 0 ≤ pcc ∧ pcc < 10) (hpn : 0 < pn)
    (hT : T ≠ 156 ∧ T ≠ 150 ∧ T ≠ 148) (hcv : codeV i = .iface T v) :
    Calls Tryz.prog 54 #[.pointer (some ⟨sb, 0, none⟩), .agg #[.slice pa pn pc], .slice sa sn sc, i.v, .int .i64 pcc] w (RetEd (edgesI ps ss i pcc xs ⟨slo, shi⟩) w) := by
  have h4 : xs.length = 4 := (stOk_parts ho).1
  rw [show edgesI ps ss i pcc xs ⟨slo, shi⟩ = optA (actI ps ss i xs ⟨slo, shi⟩) (pcc + 1) from by simp [edgesI, hk.1, hk.2.1, hk.2.2]]
  have HCP := Lib.hid (fun W (hbb : Blk W sb 110 (stC xs slo shi)) => implCopy sb xs slo shi W hbb h4)
  have hpb : ∀ x : Addr, pa = some x → x.block < w.heap.size := fun x hx => hr.lt hpn hx
  have hsb : ∀ x : Addr, sa = some x → x.block < w.heap.size := fun x hx => hss.lt (by omega) hx
  have HAC := Lib.hid (fun g W (gw : Grew w W) (hg : w.heap.size ≤ g) (hbb : Blk W g 110 (stC xs slo shi)) => implAct g pa pn pc ps sa sn sc ss i xs slo shi W hbb ho (hr.grew gw) hp (hss.grew staysSum gw) hsn (fun x hx => by have := hpb x hx; omega) (fun x hx => by have := hsb x hx; omega) hi hk)
  obtain ⟨O, hO⟩ : ∃ o, actI ps ss i xs ⟨slo, shi⟩ = o := ⟨_, rfl⟩
  rw [hO] at HAC ⊢
  have CO := fun W => codeOf i W
  rw [hcv] at CO
  have HC := Lib.hid CO
  have HB := Lib.hid hBk
  obtain ⟨hT1, hT2, hT3⟩ := hT
  clear hO CO hcv hr hp hss hsn hi hk hpb hsb ho hBk h4 hpn
  obtain ⟨op, d, a, b, rel, lo, hi2, to⟩ := i
  go_enter Tryz.func54, Tryz.ntmps54
  go_wp2_with fail
  refine (HC.out _).mono ?_
  rintro e w1 ⟨rfl, g1⟩
  have HW1 := Lib.hid (show Grew w w1 from grew_tr (gr) g1)
  have p0 : w1.cell? ⟨w.heap.size, 0, none⟩ = some (.slice pa pn pc) := (g1.cell (p := ⟨w.heap.size, 0, none⟩) (by simp only [World.size_alloc]; omega)).trans (by simp [go_sem])
  have i0 : w1.cell? ⟨w.heap.size + 1, 0, none⟩ = some (.int .i64 op) := (g1.cell (p := ⟨w.heap.size + 1, 0, none⟩) (by simp only [World.size_alloc]; omega)).trans (by simp [go_sem])
  have i1 : w1.cell? ⟨w.heap.size + 1, 1, none⟩ = some (.int .i64 d) := (g1.cell (p := ⟨w.heap.size + 1, 1, none⟩) (by simp only [World.size_alloc]; omega)).trans (by simp [go_sem])
  have i2 : w1.cell? ⟨w.heap.size + 1, 2, none⟩ = some (.int .i64 a) := (g1.cell (p := ⟨w.heap.size + 1, 2, none⟩) (by simp only [World.size_alloc]; omega)).trans (by simp [go_sem])
  have i3 : w1.cell? ⟨w.heap.size + 1, 3, none⟩ = some (.int .i64 b) := (g1.cell (p := ⟨w.heap.size + 1, 3, none⟩) (by simp only [World.size_alloc]; omega)).trans (by simp [go_sem])
  have i4 : w1.cell? ⟨w.heap.size + 1, 4, none⟩ = some (.int .i64 rel) := (g1.cell (p := ⟨w.heap.size + 1, 4, none⟩) (by simp only [World.size_alloc]; omega)).trans (by simp [go_sem])
  have i5 : w1.cell? ⟨w.heap.size + 1, 5, none⟩ = some (.int .i64 lo) := (g1.cell (p := ⟨w.heap.size + 1, 5, none⟩) (by simp only [World.size_alloc]; omega)).trans (by simp [go_sem])
  have i6 : w1.cell? ⟨w.heap.size + 1, 6, none⟩ = some (.int .i64 hi2) := (g1.cell (p := ⟨w.heap.size + 1, 6, none⟩) (by simp only [World.size_alloc]; omega)).trans (by simp [go_sem])
  have i7 : w1.cell? ⟨w.heap.size + 1, 7, none⟩ = some (.int .i64 to) := (g1.cell (p := ⟨w.heap.size + 1, 7, none⟩) (by simp only [World.size_alloc]; omega)).trans (by simp [go_sem])
  have lw : w.heap.size + 1 + 1 ≤ w1.heap.size := by have := g1.size; simp only [World.size_alloc] at this; omega
  have l0 : w.heap.size < w1.heap.size := by omega
  have l1 : w.heap.size + 1 < w1.heap.size := by omega
  clear g1 HC
  go_wp2_with fail
  refine (HCP.out _ (HB.out.grew HW1.out)).mono ?_
  rintro e w2 ⟨g, rfl, ge, hbg, ga⟩
  have p0 := (ga.cell (p := ⟨w.heap.size, 0, none⟩) l0).trans p0
  have i0 := (ga.cell (p := ⟨w.heap.size + 1, 0, none⟩) l1).trans i0
  have i1 := (ga.cell (p := ⟨w.heap.size + 1, 1, none⟩) l1).trans i1
  have i2 := (ga.cell (p := ⟨w.heap.size + 1, 2, none⟩) l1).trans i2
  have i3 := (ga.cell (p := ⟨w.heap.size + 1, 3, none⟩) l1).trans i3
  have i4 := (ga.cell (p := ⟨w.heap.size + 1, 4, none⟩) l1).trans i4
  have i5 := (ga.cell (p := ⟨w.heap.size + 1, 5, none⟩) l1).trans i5
  have i6 := (ga.cell (p := ⟨w.heap.size + 1, 6, none⟩) l1).trans i6
  have i7 := (ga.cell (p := ⟨w.heap.size + 1, 7, none⟩) l1).trans i7
  have HW2 := Lib.hid (grew_tr HW1.out ga)
  have HBG := Lib.hid hbg
  have hl2 := ga.size
  have m0 : w.heap.size < w2.heap.size := by omega
  have m1 : w.heap.size + 1 < w2.heap.size := by omega
  clear hbg HCP HB l0 l1
  go_wp2_with fail
  refine (HAC.out g _ HW2.out (by omega) HBG.out).mono ?_
  rintro e w3 ⟨rfl, ⟨ys, l, h, hb3, hys⟩, hc3⟩
  have HB3 := Lib.hid hb3
  have HYS := Lib.hid hys
  have HW3 := Lib.hid (Below.trans HW2.out (hc3.belowB HW2.out.size (fun k hk => by subst hk; omega)))
  clear hb3 hys hc3 p0 i0 i1 i2 i3 i4 i5 i6 i7 ga HAC
  cases O with
  | none =>
    go_wp2
    go_ret
    exact ⟨none, 0, rfl, RdL.nil _ _ _ _, HW3.out⟩
  | some z =>
    obtain ⟨zs, ⟨zl, zh⟩⟩ := z
    have hpw : IntKind.i64.wrap (pcc + 1) = pcc + 1 := i64in (by omega) (by omega)
    go_wp2
    go_ret
    obtain ⟨e1, e2⟩ := HYS.out _ rfl
    simp only at e1 e2
    cases e2
    subst e1
    refine ⟨_, _, rfl, rd_edge1 (g := g) (by simp [go_sem]) (by simp [go_sem]) (HB3.out.alloc _), grew_al HW3.out _⟩
theorem implEdges (sb : Nat) (pa : Option Addr) (pn pc : Nat) (ps : List Prc) (sa : Option Addr) (sn sc : Nat) (ss : List Sum) (i : Ins) (pcc : Int) (xs : List Itv) (slo shi : Int) (w : World) (hBk : Blk w sb 110 (stC xs slo shi)) (ho : stOkB true xs slo shi = true)
    (hr : RdP w pa pn ps) (hp : prgOkB ps = true) (hss : RdL ESum 3 w sa sn ss) (hsn : sn = pn) (hi : insOkB i pn 10 = true) (hpc : 0 ≤ pcc ∧ pcc < 10) (hpn : 0 < pn) :
    Calls Tryz.prog 54 #[.pointer (some ⟨sb, 0, none⟩), .agg #[.slice pa pn pc], .slice sa sn sc, i.v, .int .i64 pcc] w (RetEd (edgesI ps ss i pcc xs ⟨slo, shi⟩) w) := by
  obtain ⟨op, d, a, b, rel, lo, hi2, to⟩ := i
  obtain ⟨h1, hD, hA, hB, hT⟩ := insParts hi
  rcases opTwelve h1 with rfl | rfl | rfl | rfl | rfl | rfl | rfl | rfl | rfl | rfl | rfl | rfl
  · exact implEdgesO 166 (.agg #[.int .i64 1, .int .i64 d, .int .i64 a, .int .i64 b]) sb pa pn pc ps sa sn sc ss _ pcc xs slo shi w hBk ho hr hp hss hsn hi (by simp) hpc hpn (by decide) (by simp [codeV])
  · exact implEdgesO 166 (.agg #[.int .i64 2, .int .i64 d, .int .i64 a, .int .i64 b]) sb pa pn pc ps sa sn sc ss _ pcc xs slo shi w hBk ho hr hp hss hsn hi (by simp) hpc hpn (by decide) (by simp [codeV])
  · exact implEdgesO 166 (.agg #[.int .i64 3, .int .i64 d, .int .i64 a, .int .i64 b]) sb pa pn pc ps sa sn sc ss _ pcc xs slo shi w hBk ho hr hp hss hsn hi (by simp) hpc hpn (by decide) (by simp [codeV])
  · exact implEdgesO 166 (.agg #[.int .i64 4, .int .i64 d, .int .i64 a, .int .i64 b]) sb pa pn pc ps sa sn sc ss _ pcc xs slo shi w hBk ho hr hp hss hsn hi (by simp) hpc hpn (by decide) (by simp [codeV])
  · exact implEdgesO 146 (.agg #[.int .i64 d, .int .i64 lo, .int .i64 hi2]) sb pa pn pc ps sa sn sc ss _ pcc xs slo shi w hBk ho hr hp hss hsn hi (by simp) hpc hpn (by decide) (by simp [codeV])
  · exact implEdgesO 168 (.agg #[.int .i64 d, .int .i64 a]) sb pa pn pc ps sa sn sc ss _ pcc xs slo shi w hBk ho hr hp hss hsn hi (by simp) hpc hpn (by decide) (by simp [codeV])
  · exact implEdgesO 170 (.agg #[.int .i64 a, .int .i64 b]) sb pa pn pc ps sa sn sc ss _ pcc xs slo shi w hBk ho hr hp hss hsn hi (by simp) hpc hpn (by decide) (by simp [codeV])
  · have hrel : 1 ≤ rel ∧ rel ≤ 4 := by
      simp only [tailB] at hT
      simp at hT
      exact hT.1
    exact implEdges8 sb pa pn pc ps sa sn sc ss d a b rel lo hi2 to pcc xs slo shi w hBk ho hA hB hrel hpc
  · exact implEdges9 sb pa pn pc ps sa sn sc ss d a b rel lo hi2 to pcc xs slo shi w hBk ho
  · exact implEdgesO 152 (.agg #[.int .i64 d, .int .i64 a, .int .i64 to]) sb pa pn pc ps sa sn sc ss _ pcc xs slo shi w hBk ho hr hp hss hsn hi (by simp) hpc hpn (by decide) (by simp [codeV])
  · exact implEdgesO 154 (.agg #[.int .i64 rel, .int .i64 a, .int .i64 b]) sb pa pn pc ps sa sn sc ss _ pcc xs slo shi w hBk ho hr hp hss hsn hi (by simp) hpc hpn (by decide) (by simp [codeV])
  · exact implEdges12 sb pa pn pc ps sa sn sc ss d a b rel lo hi2 to pcc xs slo shi w hBk ho
end Go.Proofs.YtpmfpgbpndobpaaGreat
