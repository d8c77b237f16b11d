/- Lemmas and walks of this proof, some texts one behind the other. No condition. -/
import Derived.Test.YtpmfpgbpndobpaaGreatMonoB
import Derived.Test.YtpmfpgbpndobpaaGreatEs
import Derived.Test.YtpmfpgbpndobpaaGreatStepG
import Derived.Test.YtpmfpgbpndobpaaGreatDrAI
import Derived.Test.YtpmfpgbpndobpaaGreatStepA
set_option linter.unusedSimpArgs false
set_option linter.unusedVariables false
/- To what a step leads is ok; of less comes less, of states in general: plain. No condition. -/
namespace Go.Proofs.YtpmfpgbpndobpaaGreat
open Go.RowKit
set_option linter.unusedVariables false
set_option linter.unusedSimpArgs false

theorem woI_ok {a : Itv} (ha : itvB a = true) (h : (woI a ⟨0, 0⟩).lo ≤ (woI a ⟨0, 0⟩).hi) : itvB (woI a ⟨0, 0⟩) = true := by
  have := woI_sub a ⟨0, 0⟩
  rw [itvB_iff] at ha ⊢
  omega
theorem relSt_ok {o : Option (Itv × Itv)} {xs zs : List Itv} {lo hi a b : Int} (h : stOkB true xs lo hi = true) (e : relSt o xs a b = some zs) : stOkB true zs lo hi = true := by
  cases o with
  | none => cases e
  | some p =>
    simp only [relSt] at e
    obtain ⟨us, e1, e2⟩ := Option.bind_eq_some_iff.1 e
    exact narI_ok (narI_ok h e1) e2
theorem stOk_c {xs : List Itv} {c c' : Itv} (h : stOkB true xs c.lo c.hi = true) (hc : itvB c' = true) : stOkB true xs c'.lo c'.hi = true := by
  obtain ⟨h1, h2, h3⟩ := stOk_parts h
  exact stOk_mk h1 h2 hc
theorem joinI_ok {x y : Itv} (hx : itvB x = true) (hy : itvB y = true) : itvB (joinI x y) = true := by
  rw [itvB_iff] at *
  simp only [joinI]
  omega
theorem actI_ok {ps : List Prc} {ss : List Sum} {i : Ins} {xs : List Itv} {c : Itv} {z : List Itv × Itv} (hi : insOkB i ps.length 10 = true) (hs : sumsOkB ps ss = true) (o1 : stOkB true xs c.lo c.hi = true) (e : actI ps ss i xs c = some z) : stOkB true z.1 z.2.lo z.2.hi = true := by
  obtain ⟨h1, hD, hA, hB, hT⟩ := ins_parts hi
  have ob := nthI_okS o1 hB
  have oc : itvB c = true := (stOk_parts o1).2.2
  unfold actI at e
  by_cases c5 : i.op = 5
  · rw [if_pos c5] at e
    cases e
    exact setI_ok o1 _ (by simpa [tailB, c5, itvB] using hT)
  rw [if_neg c5] at e
  by_cases c4 : i.op ≤ 4
  · rw [if_pos c4] at e
    obtain ⟨r, hr, rfl⟩ := Option.map_eq_some_iff.1 e
    simp only
    by_cases d4 : i.op = 4
    · rw [if_pos d4]
      have hr' := hr
      rw [d4] at hr'
      exact setI_ok (setI_ok o1 _ (woI_ok ob (doI_div (itvB_iff.1 ob).2.2 hr'))) _ (doI_ok hr)
    · rw [if_neg d4]
      exact setI_ok o1 _ (doI_ok hr)
  rw [if_neg c4] at e
  by_cases c6 : i.op = 6
  · rw [if_pos c6] at e
    obtain ⟨zs, hz, rfl⟩ := Option.map_eq_some_iff.1 e
    exact setI_ok (narI_ok o1 hz) _ oc
  rw [if_neg c6] at e
  by_cases c7 : i.op = 7
  · rw [if_pos c7] at e
    obtain ⟨zs, hz, rfl⟩ := Option.map_eq_some_iff.1 e
    exact stOk_c (narI_ok o1 hz) (joinI_ok oc ob)
  rw [if_neg c7] at e
  by_cases c10 : i.op = 10
  · rw [if_pos c10] at e
    obtain ⟨zs, hz, e2⟩ := Option.bind_eq_some_iff.1 e
    split at e2
    · rename_i hon
      cases e2
      refine setI_ok (narI_ok o1 hz) _ ?_
      have hto : 0 ≤ i.to ∧ i.to < ps.length := by simpa [tailB, c10] using hT
      simp only [sumsOkB, Bool.and_eq_true, decide_eq_true_eq, List.all_eq_true] at hs
      have hlt : i.to.toNat < ss.length := by rw [hs.1.2]; omega
      have hm := hs.2 ss[i.to.toNat] (List.getElem_mem hlt)
      have he : sumI ss i.to = ss[i.to.toNat] := by simp [sumI, List.getD_eq_getElem?_getD, hlt]
      rw [he] at hon ⊢
      rw [sumOkB, if_pos hon] at hm
      exact hm
    · cases e2
  rw [if_neg c10] at e
  obtain ⟨zs, hz, rfl⟩ := Option.map_eq_some_iff.1 e
  exact relSt_ok o1 hz
theorem edgesI_ok {ps : List Prc} {ss : List Sum} {i : Ins} {pc : Int} {xs : List Itv} {c : Itv} {e : Ed} (hi : insOkB i ps.length 10 = true) (hs : sumsOkB ps ss = true) (o1 : stOkB true xs c.lo c.hi = true) (he : e ∈ edgesI ps ss i pc xs c) : stOkB true e.xs e.c.lo e.c.hi = true := by
  have hE : ∀ (o : Option (List Itv)) (to : Int), (∀ zs, o = some zs → stOkB true zs c.lo c.hi = true) → e ∈ optE o to c → stOkB true e.xs e.c.lo e.c.hi = true := fun o to ho he => by
    cases o with
    | none => cases he
    | some zs =>
      simp only [optE, List.mem_cons, List.not_mem_nil, or_false] at he
      subst he
      exact ho zs rfl
  unfold edgesI at he
  split at he
  · cases he
  split at he
  · simp only [List.mem_cons, List.not_mem_nil, or_false] at he
    subst he
    exact o1
  split at he
  · rcases List.mem_append.1 he with he | he
    · exact hE _ _ (fun zs hz => relSt_ok o1 hz) he
    · exact hE _ _ (fun zs hz => relSt_ok o1 hz) he
  · cases ha : actI ps ss i xs c with
    | none => rw [ha] at he; cases he
    | some z =>
      rw [ha] at he
      simp only [optA, List.mem_cons, List.not_mem_nil, or_false] at he
      subst he
      exact actI_ok hi hs o1 ha
theorem stepB_parts {ps : List Prc} {ss : List Sum} {i : Ins} {pc : Int} {on : Bool} {xs : List Itv} {lo hi : Int} (h : stepB ps ss i pc on xs lo hi = true) : stOkB on xs lo hi = true ∧ on = true ∧ sumsOkB ps ss = true ∧ insOkB i ps.length 10 = true ∧ 0 ≤ pc ∧ pc < 10 := by
  simp only [stepB, Bool.and_eq_true, decide_eq_true_eq] at h
  exact ⟨h.1.1, h.1.2, h.2.1, h.2.2.1, h.2.2.2.1, h.2.2.2.2⟩
theorem stepL_ok {ps : List Prc} {ss : List Sum} {i : Ins} {pc : Int} {on : Bool} {xs : List Itv} {lo hi : Int} {e : Ed} (he : e ∈ stepL ps ss i pc on xs lo hi) : stOkB true e.xs e.c.lo e.c.hi = true := by
  unfold stepL at he
  split at he
  · rename_i h
    obtain ⟨h1, rfl, h3, h4, _⟩ := stepB_parts h
    exact edgesI_ok h4 h3 (c := ⟨lo, hi⟩) h1 he
  · cases he
/-- Whether one of some places has a place, and holds its state. -/
def anyIn (e : Ed) (ys : List Ed) : Bool := ys.any fun d => decide (e.to = d.to) && inG true e.xs e.c.lo e.c.hi true d.xs d.c.lo d.c.hi
theorem inG_parts {onA : Bool} {xs : List Itv} {la ha : Int} {onB : Bool} {ys : List Itv} {lb hb : Int} (h : inG onA xs la ha onB ys lb hb = true) : stOkB onA xs la ha = true ∧ stOkB onB ys lb hb = true ∧ (onA = true → onB = true ∧ LeS xs ys ∧ inI ⟨la, ha⟩ ⟨lb, hb⟩ = true) := by
  simp only [inG, Bool.and_eq_true, Bool.or_eq_true, Bool.not_eq_true'] at h
  obtain ⟨h1, h2, h3⟩ := h
  refine ⟨h1, h2, fun hon => ?_⟩
  subst hon
  rcases h3 with h3 | ⟨h3, h4⟩
  · cases h3
  · subst h3
    simp only [inS, Bool.and_eq_true] at h4
    exact ⟨rfl, leS_of (by rw [(stOk_parts h1).1, (stOk_parts h2).1]) h4.1, h4.2⟩
theorem mono_any {ps : List Prc} {ss : List Sum} {i : Ins} {pc : Int} {onA : Bool} {xs : List Itv} {la ha : Int} {onB : Bool} {ys : List Itv} {lb hb : Int} {e : Ed} (h : inG onA xs la ha onB ys lb hb = true) (he : e ∈ stepL ps ss i pc onA xs la ha) : anyIn e (stepL ps ss i pc onB ys lb hb) = true := by
  have hok := stepL_ok he
  unfold stepL at he
  split at he
  · rename_i hb1
    obtain ⟨h1, rfl, h3, h4, h5, h6⟩ := stepB_parts hb1
    obtain ⟨_, g2, g3⟩ := inG_parts h
    obtain ⟨rfl, g4, g5⟩ := g3 rfl
    obtain ⟨e', k1, k2, k3, k4⟩ := edgesI_mono h4 g4 g5 (c := ⟨la, ha⟩) (c' := ⟨lb, hb⟩) h1 g2 he
    have hbb : stepB ps ss i pc true ys lb hb = true := by simp only [stepB, g2, h3, h4, decide_eq_true h5, decide_eq_true h6, Bool.and_self]
    have hm : e' ∈ stepL ps ss i pc true ys lb hb := by rw [stepL, if_pos hbb]; exact k1
    have hok' := stepL_ok hm
    rw [anyIn, List.any_eq_true]
    refine ⟨e', hm, ?_⟩
    simp only [inG, inS, hok, hok', k2, leS_all k3, decide_true, Bool.true_and, Bool.and_true, Bool.not_true, Bool.false_or]
    exact k4
  · cases he
theorem mono_fails {ps : List Prc} {i : Ins} {onA : Bool} {xs : List Itv} {la ha : Int} {onB : Bool} {ys : List Itv} {lb hb : Int} (h : inG onA xs la ha onB ys lb hb = true) (hf : absFailsB ps i onA xs la ha = true) : absFailsB ps i onB ys lb hb = true := by
  simp only [absFailsB, Bool.and_eq_true] at hf ⊢
  obtain ⟨⟨f1, rfl⟩, f2, f3, f4⟩ := hf
  obtain ⟨_, g2, g3⟩ := inG_parts h
  obtain ⟨rfl, g4, g5⟩ := g3 rfl
  exact ⟨⟨g2, rfl⟩, f2, f3, failsB_mono f3 g4 (c := ⟨la, ha⟩) (c' := ⟨lb, hb⟩) f1 g2 f4⟩
end Go.Proofs.YtpmfpgbpndobpaaGreat

/- Rows of places with states, to be read, each state's row with its capacity. No condition. -/
namespace Go.Proofs.YtpmfpgbpndobpaaGreat
open Go.RowKit
set_option linter.unusedVariables false
set_option linter.unusedSimpArgs false
attribute [local go_sem] ext_cell ext_frozen ext_lt ext_le ext_le1 lt_s2 lt_s3 lt_s4 lt_s5 lt_s6 ext_lt1 ext_lt2 ext_lt3

def EEh : World → List Value → Ed → Prop := fun w cs e => ∃ a c, cs = [.int .i64 e.to, .bool true, .slice a e.xs.length c, .int .i64 e.c.lo, .int .i64 e.c.hi] ∧ RdL EItv 2 w a e.xs.length e.xs ∧ e.xs.length = 4 ∧ e.xs.length ≤ c
theorem staysEh : Stays EEh := fun w w' cs e hg ⟨a, c, h1, h2, h3⟩ => ⟨a, c, h1, h2.grew staysItv hg, h3⟩
theorem OwnE.rdh {w : World} {B n c : Nat} {a : Option Addr} {ms : List (Ed × Value)} {es : List Ed} (h : OwnE w B (.slice a n c) n ms) (hm : ms.map (·.1) = es) (h4 : ∀ e, e ∈ es → e.xs.length = 4) : RdL EEh 5 w a n es := by
  subst hm
  refine ⟨by rw [List.length_map]; exact h.1, ?_⟩
  rcases h.2.1.2 with ⟨h0, h1⟩ | ⟨g, cap, cur, hv, hB, hb, hc1, hc2, hsz, htk⟩
  · exact .inl h1
  · simp only [Value.slice.injEq] at hv
    obtain ⟨rfl, -, rfl⟩ := hv
    refine .inr ⟨g, 0, rfl, fun k x hx => ?_⟩
    rw [List.getElem?_map] at hx
    obtain ⟨m, hm, rfl⟩ := Option.map_eq_some_iff.1 hx
    have hmem := List.mem_of_getElem? hm
    have h5 := h4 m.1 (List.mem_map_of_mem hmem)
    obtain ⟨ra, rc, hr⟩ := owns_slice (h.2.2 m hmem)
    have hrow := h.2.2 m hmem
    rw [hr] at hrow
    refine ⟨esC m, rfl, fun j u hu => ?_, ra, rc, by rw [esC, hr], rdItv_of_own rfl hrow, h5, (owns_cap hrow).1⟩
    have hk : k < n := by rw [← h.1]; exact (List.getElem?_eq_some_iff.1 hm).1
    have hj : j < 5 := (List.getElem?_eq_some_iff.1 hu).1
    rw [Nat.zero_add]
    exact (h.2.1.cellAt (k * 5 + j) (by omega)).trans (flat_get esC 5 esC_len ms k m j u hm hu)
theorem rdEh_at {w : World} {a : Option Addr} {n : Nat} {es : List Ed} (h : RdL EEh 5 w a n es) {k : Nat} (hk : k < n) : ∃ b off e ra rc, a = some ⟨b, off, none⟩ ∧ es[k]? = some e ∧
    w.cell? ⟨b, off + k * 5, none⟩ = some (.int .i64 e.to) ∧ w.cell? ⟨b, off + k * 5 + 1, none⟩ = some (.bool true) ∧ w.cell? ⟨b, off + k * 5 + 2, none⟩ = some (.slice ra 4 rc) ∧ w.cell? ⟨b, off + k * 5 + 3, none⟩ = some (.int .i64 e.c.lo) ∧ w.cell? ⟨b, off + k * 5 + 4, none⟩ = some (.int .i64 e.c.hi) ∧
    b < w.heap.size ∧ RdL EItv 2 w ra 4 e.xs ∧ 4 ≤ rc := by
  obtain ⟨b, off, e, cs, rfl, hx, _, hc, ra, rc, rfl, h1, h2, h3⟩ := h.at_ hk
  rw [h2] at hc h1 h3
  exact ⟨b, off, e, ra, rc, rfl, hx, by have := hc 0 _ rfl; simpa using this, hc 1 _ rfl, hc 2 _ rfl, hc 3 _ rfl, hc 4 _ rfl, h.lt (by omega) rfl, h1, h3⟩
end Go.Proofs.YtpmfpgbpndobpaaGreat

/- Numbers and points of states that a law picks: owNorm, owOk, owPick. No condition. -/
namespace Go.Proofs.YtpmfpgbpndobpaaGreat
open Go.RowKit
set_option linter.unusedVariables false
set_option linter.unusedSimpArgs false
attribute [local go_sem] ext_cell ext_frozen ext_lt ext_le ext_le1 lt_s2 lt_s3 lt_s4 lt_s5 lt_s6 ext_lt1 ext_lt2 ext_lt3

theorem owOkQ (w : World) : Calls Tryz.prog 10 #[] w fun e w' => e = .returned (.bool true) ∧ w = w' := by
  have C := Lib.hid (fun w => implNumOk 1 w)
  go_enter Tryz.func10, Tryz.ntmps10
  go_wp2_with fail
  refine (C.out _).mono ?_
  rintro e w' ⟨rfl, rfl⟩
  go_wp2
  go_ret
  exact ⟨rfl, rfl⟩
theorem owNormQ (n : Int) (h0 : -9223372036854775808 ≤ n) (h1 : n ≤ 9223372036854775807) (w : World) :
    Calls Tryz.prog 11 #[.int .i64 n] w fun e w' => e = .returned (.int .i64 (n % 65536)) ∧ w = w' := by
  by_cases hn : 0 ≤ n
  · go_enter Tryz.func11, Tryz.ntmps11
    go_wp2
    go_ret
    exact ⟨rfl, rfl⟩
  · have ht : n.tmod 65536 = -((-n) % 65536) := by
      obtain ⟨m, rfl⟩ : ∃ m, n = -m := ⟨-n, by omega⟩
      rw [Int.neg_tmod, Int.tmod_eq_emod_of_nonneg (by omega), Int.neg_neg]
    by_cases hz : (-n) % 65536 = 0
    · have hf : n % 65536 = 0 := by omega
      have ht' : n.tmod 65536 = 0 := by omega
      have HF := Lib.hid hf; clear hf ht hz
      go_enter Tryz.func11, Tryz.ntmps11
      go_wp2
      go_ret
      exact ⟨by rw [HF.out]; rfl, rfl⟩
    · obtain ⟨m, hm⟩ : ∃ m, n.tmod 65536 = m := ⟨_, rfl⟩
      have hm1 : m < 0 := by omega
      have hm2 : -65536 < m := by omega
      have hf : n % 65536 = m + 65536 := by omega
      have HF := Lib.hid hf; clear hf ht hz
      go_enter Tryz.func11, Tryz.ntmps11
      go_wp2
      go_ret
      exact ⟨by rw [HF.out]; rfl, rfl⟩
set_option maxHeartbeats 2000000 in
/-- A number of bounds that are ok. -/
theorem owPick (lo hi n : Int) (hx : itvB ⟨lo, hi⟩ = true) (h0 : -9223372036854775808 ≤ n) (h1 : n ≤ 9223372036854775807) (w : World) :
    Calls Tryz.prog 15 #[.agg #[.int .i64 lo, .int .i64 hi], .int .i64 n] w fun e w' => (∃ z : Int, e = .returned (.int .i64 z) ∧ lo ≤ z ∧ z ≤ hi) ∧ Grew w w' := by
  obtain ⟨b1, b2, b3⟩ := itvB_iff.1 hx
  simp only at b1 b2 b3
  obtain ⟨m, hm⟩ : ∃ m, n % 65536 = m := ⟨_, rfl⟩
  have hm0 : 0 ≤ m := by omega
  have hm1 : m < 65536 := by omega
  have C := fun W => owNormQ n h0 h1 W
  rw [hm] at C
  have HC : Hid (∀ W, Calls Tryz.prog 11 #[.int .i64 n] W fun e w' => e = .returned (.int .i64 m) ∧ Grew W w') := Lib.hid (fun W => (C W).mono (fun e w' h => ⟨h.1, h.2 ▸ Below.refl _ _⟩))
  obtain ⟨d, hd⟩ : ∃ d, hi - lo = d := ⟨_, rfl⟩
  have hd0 : 0 ≤ d := by omega
  have hd1 : d ≤ 65535 := by omega
  have hdz : ¬ d + 1 = 0 := by omega
  obtain ⟨q, hq⟩ : ∃ q, m.tmod (d + 1) = q := ⟨_, rfl⟩
  have hqe : q = m % (d + 1) := by rw [← hq, Int.tmod_eq_emod_of_nonneg hm0]
  have hq0 : 0 ≤ q := by rw [hqe]; exact Int.emod_nonneg _ hdz
  have hq1 : q ≤ d := by have := Int.emod_lt_of_pos m (show 0 < d + 1 by omega); omega
  have hlq : lo + q ≤ hi := by omega
  have HLQ := Lib.hid hlq
  clear hqe hm C hx
  go_enter Tryz.func15, Tryz.ntmps15
  go_wp2_with fail
  first | refine wp_region_ext2 (by kernel_rfl) (by kernel_rfl) ?_ | refine wp_region_ext (by kernel_rfl) (by kernel_rfl) ?_
  repeat (go_big_quiet_step ((first | (with_reducible exact ext_grow (HC.out _)))))
  refine wpQuiet_nil ?_
  intro _ hw'
  obtain ⟨x, hw''⟩ := hw'
  subst hw''
  go_wp2
  go_ret
  exact ⟨⟨_, rfl, by omega, by omega⟩, gr⟩
end Go.Proofs.YtpmfpgbpndobpaaGreat

/- Boxes of a step, of a program, in worlds that grow. No condition. -/
namespace Go.Proofs.YtpmfpgbpndobpaaGreat
open Go.RowKit
set_option linter.unusedVariables false
set_option linter.unusedSimpArgs false
attribute [local go_sem] ext_cell ext_frozen ext_lt ext_le ext_le1 lt_s2 lt_s3 lt_s4 lt_s5 lt_s6 ext_lt1 ext_lt2 ext_lt3

/-- A step's box. -/
def I8B (W : World) (b : Nat) (i : Ins) : Prop := b < W.heap.size ∧ W.cell? ⟨b, 0, none⟩ = some (.int .i64 i.op) ∧ W.cell? ⟨b, 1, none⟩ = some (.int .i64 i.d) ∧ W.cell? ⟨b, 2, none⟩ = some (.int .i64 i.a) ∧ W.cell? ⟨b, 3, none⟩ = some (.int .i64 i.b) ∧ W.cell? ⟨b, 4, none⟩ = some (.int .i64 i.rel) ∧ W.cell? ⟨b, 5, none⟩ = some (.int .i64 i.lo) ∧ W.cell? ⟨b, 6, none⟩ = some (.int .i64 i.hi) ∧ W.cell? ⟨b, 7, none⟩ = some (.int .i64 i.to)
theorem I8B.grew {W W' : World} {b : Nat} {i : Ins} (h : I8B W b i) (g : Grew W W') : I8B W' b i := by
  obtain ⟨h0, h1⟩ := h
  refine ⟨Nat.lt_of_lt_of_le h0 g.size, ?_⟩
  rw [g.cell (p := ⟨b, 0, none⟩) h0, g.cell (p := ⟨b, 1, none⟩) h0, g.cell (p := ⟨b, 2, none⟩) h0, g.cell (p := ⟨b, 3, none⟩) h0, g.cell (p := ⟨b, 4, none⟩) h0, g.cell (p := ⟨b, 5, none⟩) h0, g.cell (p := ⟨b, 6, none⟩) h0, g.cell (p := ⟨b, 7, none⟩) h0]
  exact h1
theorem I8B.new (W : World) (op d a b rel lo hi ito : Int) (t : TypeId) : I8B (W.alloc (.cells #[.int .i64 op, .int .i64 d, .int .i64 a, .int .i64 b, .int .i64 rel, .int .i64 lo, .int .i64 hi, .int .i64 ito] t)) W.heap.size ⟨op, d, a, b, rel, lo, hi, ito⟩ :=
  ⟨by simp, by simp [go_sem], by simp [go_sem], by simp [go_sem], by simp [go_sem], by simp [go_sem], by simp [go_sem], by simp [go_sem], by simp [go_sem]⟩
/-- A program's box. -/
def P1B (W : World) (b : Nat) (a : Option Addr) (n c : Nat) : Prop := b < W.heap.size ∧ W.cell? ⟨b, 0, none⟩ = some (.slice a n c)
theorem P1B.grew {W W' : World} {b n c : Nat} {a : Option Addr} (h : P1B W b a n c) (g : Grew W W') : P1B W' b a n c := ⟨Nat.lt_of_lt_of_le h.1 g.size, (g.cell (p := ⟨b, 0, none⟩) h.1).trans h.2⟩
theorem P1B.new (W : World) (a : Option Addr) (n c : Nat) (t : TypeId) : P1B (W.alloc (.cells #[.slice a n c] t)) W.heap.size a n c := ⟨by simp, by simp [go_sem]⟩
theorem any_take {α : Type} {l : List α} {k : Nat} {x : α} {f : α → Bool} (h : l[k]? = some x) : (l.take (k + 1)).any f = ((l.take k).any f || f x) := by
  rw [take_get h, List.any_append]
  simp

end Go.Proofs.YtpmfpgbpndobpaaGreat
