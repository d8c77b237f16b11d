/- Lemmas and walks of this proof, some texts one behind the other. No condition. -/
import Derived.Test.YtpmfpgbpndobpaaGreatFailI
import Derived.Test.YtpmfpgbpndobpaaGreatStepA
import Derived.Test.YtpmfpgbpndobpaaGreatRegG
import Derived.Test.YtpmfpgbpndobpaaGreatDoE
import Derived.Test.YtpmfpgbpndobpaaGreatLawInsOk
import Derived.Test.YtpmfpgbpndobpaaGreatHas4
import Derived.Test.YtpmfpgbpndobpaaGreatDoA
import Derived.Test.YtpmfpgbpndobpaaGreatStepG
set_option linter.unusedSimpArgs false
set_option linter.unusedVariables false
/- May an instruction fail in a state: both sides put together. No condition. -/
namespace Go.Proofs.YtpmfpgbpndobpaaGreat
open Go.RowKit
set_option linter.unusedVariables false
set_option linter.unusedSimpArgs false
attribute [local go_sem] ext_cell ext_frozen ext_lt ext_le ext_le1 lt_s2 lt_s3 lt_s4 lt_s5 lt_s6 ext_lt1 ext_lt2 ext_lt3

theorem ins_parts {i : Ins} {n m : Int} (h : insOkB i n m = true) : (1 ≤ i.op ∧ i.op ≤ 12) ∧ varB i.d = true ∧ varB i.a = true ∧ varB i.b = true ∧ tailB i n m = true := by
  simp only [insOkB, headB, Bool.and_eq_true, decide_eq_true_eq] at h
  obtain ⟨⟨h1, _, hD, hA, hB⟩, hT⟩ := h
  exact ⟨h1, hD, hA, hB, hT⟩
theorem op12 {op : Int} (h : 1 ≤ op ∧ op ≤ 12) : op = 1 ∨ op = 2 ∨ op = 3 ∨ op = 4 ∨ op = 5 ∨ op = 6 ∨ op = 7 ∨ op = 8 ∨ op = 9 ∨ op = 10 ∨ op = 11 ∨ op = 12 := by omega
theorem implFails (sb : Nat) (pa : Option Addr) (pn pc : Nat) (ps : List Prc) (i : Ins) (xs : List Itv) (slo shi : Int) (w : World) (hr : RdP w pa pn ps) (hb : Blk w sb 110 (stC xs slo shi)) (ho : stOkB true xs slo shi = true) (hp : prgOkB ps = true) (hi : insOkB i pn 10 = true) :
    Calls Tryz.prog 57 #[.pointer (some ⟨sb, 0, none⟩), .agg #[.slice pa pn pc], i.v] w fun e w' => e = .returned (.bool (failsB ps i xs)) ∧ Grew w w' := by
  obtain ⟨op, d, a, b, rel, lo, hi2, to⟩ := i
  obtain ⟨h1, hD, hA, hB, hT⟩ := ins_parts hi
  rcases op12 h1 with rfl | rfl | rfl | rfl | rfl | rfl | rfl | rfl | rfl | rfl | rfl | rfl
  · rw [show failsB ps ⟨1, d, a, b, rel, lo, hi2, to⟩ xs = false from by simp [failsB]]
    exact implFails1 sb pa pn pc d a b rel lo hi2 to xs slo shi w
  · rw [show failsB ps ⟨2, d, a, b, rel, lo, hi2, to⟩ xs = false from by simp [failsB]]
    exact implFails2 sb pa pn pc d a b rel lo hi2 to xs slo shi w
  · rw [show failsB ps ⟨3, d, a, b, rel, lo, hi2, to⟩ xs = false from by simp [failsB]]
    exact implFails3 sb pa pn pc d a b rel lo hi2 to xs slo shi w
  · rw [show failsB ps ⟨4, d, a, b, rel, lo, hi2, to⟩ xs = (inB (nthI xs b).lo (nthI xs b).hi 0) from by simp [failsB]]
    exact implFails4 sb pa pn pc d a b rel lo hi2 to xs slo shi w hb ho hB
  · rw [show failsB ps ⟨5, d, a, b, rel, lo, hi2, to⟩ xs = false from by simp [failsB]]
    exact implFails5 sb pa pn pc d a b rel lo hi2 to xs slo shi w
  · rw [show failsB ps ⟨6, d, a, b, rel, lo, hi2, to⟩ xs = (!inI (nthI xs a) ⟨0, 3⟩) from by simp [failsB]]
    exact implFails6 sb pa pn pc d a b rel lo hi2 to xs slo shi w hb ho hA
  · rw [show failsB ps ⟨7, d, a, b, rel, lo, hi2, to⟩ xs = (!inI (nthI xs a) ⟨0, 3⟩) from by simp [failsB]]
    exact implFails7 sb pa pn pc d a b rel lo hi2 to xs slo shi w hb ho hA
  · rw [show failsB ps ⟨8, d, a, b, rel, lo, hi2, to⟩ xs = false from by simp [failsB]]
    exact implFails8 sb pa pn pc d a b rel lo hi2 to xs slo shi w
  · rw [show failsB ps ⟨9, d, a, b, rel, lo, hi2, to⟩ xs = false from by simp [failsB]]
    exact implFails9 sb pa pn pc d a b rel lo hi2 to xs slo shi w
  · rw [show failsB ps ⟨10, d, a, b, rel, lo, hi2, to⟩ xs = (!inI (nthI xs a) (prcI ps to)) from by simp [failsB]]
    have hto : 0 ≤ to ∧ to < pn := by simpa [tailB] using hT
    exact implFails10 sb pa pn pc d a b rel lo hi2 to xs slo shi w hb ho hA ps hr hp hto.1 hto.2
  · rw [show failsB ps ⟨11, d, a, b, rel, lo, hi2, to⟩ xs = ((notI rel (nthI xs a) (nthI xs b)).isSome) from by simp [failsB]]
    have hrel : 1 ≤ rel ∧ rel ≤ 4 := by simpa [tailB] using hT
    exact implFails11 sb pa pn pc d a b rel lo hi2 to xs slo shi w hb ho hA hB hrel
  · rw [show failsB ps ⟨12, d, a, b, rel, lo, hi2, to⟩ xs = false from by simp [failsB]]
    exact implFails12 sb pa pn pc d a b rel lo hi2 to xs slo shi w

set_option maxHeartbeats 4000000 in
theorem implAbsFails (pa : Option Addr) (pn pc : Nat) (ps : List Prc) (i : Ins) (on : Bool) (xa : Option Addr) (xn xc : Nat) (xs : List Itv) (slo shi : Int) (w : World) (hr : RdP w pa pn ps) (hn : pn ≤ 9223372036854775807) (hx : RdL EItv 2 w xa xn xs) (hxn : xn ≤ 9223372036854775807) (hc : xn ≤ xc) :
    Calls Tryz.prog 14 #[.agg #[.slice pa pn pc], i.v, .agg #[.bool on, .slice xa xn xc, .int .i64 slo, .int .i64 shi]] w fun e w' => e = .returned (.bool (absFailsB ps i on xs slo shi)) ∧ Grew w w' := by
  have HS := Lib.hid (fun W (h : Grew w W) => implReadState on xa xn xc xs slo shi W (hx.grew staysItv h) hxn hc)
  have HP := Lib.hid (fun W (h : Grew w W) => implPrgOk pa pn pc ps W (hr.grew h) hn)
  have HQ := Lib.hid (fun W => implInsOk i pn 10 W)
  have HFL := Lib.hid (fun W (g : Grew w W) sb (hb : Blk W sb 110 (stC xs slo shi)) (ho : stOkB true xs slo shi = true) (hp : prgOkB ps = true) (hi : insOkB i pn 10 = true) => implFails sb pa pn pc ps i xs slo shi W (hr.grew g) hb ho hp hi)
  rw [absFailsB, hr.len]
  obtain ⟨p, hp⟩ : ∃ p, prgOkB ps = p := ⟨_, rfl⟩
  obtain ⟨q, hq⟩ : ∃ q, insOkB i pn 10 = q := ⟨_, rfl⟩
  obtain ⟨f, hf⟩ : ∃ f, failsB ps i xs = f := ⟨_, rfl⟩
  have H1 := Lib.hid hp
  have H2 := Lib.hid hq
  rw [hp] at HP ⊢
  rw [hq] at HQ ⊢
  rw [hf] at HFL ⊢
  clear hr hx hp hq hf
  obtain ⟨op, d, a, b, rel, lo, hi, to⟩ := i
  obtain ⟨V, hV⟩ : ∃ V, ((stOkB on xs slo shi && on) && (p && (q && f))) = V := ⟨_, rfl⟩
  rw [hV]
  have HV := Lib.hid hV
  clear hV
  go_enter Tryz.func14, Tryz.ntmps14
  go_wp2_with fail
  refine (HS.out _ (gr)).mono ?_
  rintro e w1 ⟨g1, ⟨h, rfl⟩ | ⟨h, sb, rfl, hb1, hb2⟩⟩
  · have HG := Lib.hid (show Grew w w1 from grew_tr (gr) g1)
    have hv := HV.out
    rw [h, Bool.false_and] at hv
    subst hv
    obtain ⟨r, hr2⟩ : ∃ r, stOkB on xs slo shi = r := ⟨_, rfl⟩
    rw [hr2]
    clear g1 h hr2 HV
    cases r
    all_goals
      go_wp2
      go_ret
      refine ⟨rfl, ?_⟩
      have hg := HG.out
      exact gr
  · have HG := Lib.hid (show Grew w w1 from grew_tr (gr) g1)
    have hv := HV.out
    rw [h, Bool.true_and] at hv
    clear HV
    subst hv
    obtain ⟨hs1, rfl⟩ : stOkB on xs slo shi = true ∧ on = true := by simpa using h
    have HSB := Lib.hid (fun W (g : Grew w1 W) (hp : p = true) (hq : q = true) => HFL.out W (grew_tr HG.out g) sb (hb2.grew g) hs1 (H1.out.trans hp) (H2.out.trans hq))
    have lw : w.heap.size + 1 + 1 + 1 ≤ w1.heap.size := by have := g1.size; simp only [World.size_alloc] at this; omega
    have l0 : w.heap.size < w1.heap.size := by omega
    have l1 : w.heap.size + 1 < w1.heap.size := by omega
    have p0 : w1.cell? ⟨w.heap.size, 0, none⟩ = some (.slice pa pn pc) := (g1.cell (p := ⟨w.heap.size, 0, none⟩) (by simp only [World.size_alloc]; omega)).trans (by simp [go_sem])
    have i0 : w1.cell? ⟨w.heap.size + 1, 0, none⟩ = some (.int .i64 op) := (g1.cell (p := ⟨w.heap.size + 1, 0, none⟩) (by simp only [World.size_alloc]; omega)).trans (by simp [go_sem])
    have i1 : w1.cell? ⟨w.heap.size + 1, 1, none⟩ = some (.int .i64 d) := (g1.cell (p := ⟨w.heap.size + 1, 1, none⟩) (by simp only [World.size_alloc]; omega)).trans (by simp [go_sem])
    have i2 : w1.cell? ⟨w.heap.size + 1, 2, none⟩ = some (.int .i64 a) := (g1.cell (p := ⟨w.heap.size + 1, 2, none⟩) (by simp only [World.size_alloc]; omega)).trans (by simp [go_sem])
    have i3 : w1.cell? ⟨w.heap.size + 1, 3, none⟩ = some (.int .i64 b) := (g1.cell (p := ⟨w.heap.size + 1, 3, none⟩) (by simp only [World.size_alloc]; omega)).trans (by simp [go_sem])
    have i4 : w1.cell? ⟨w.heap.size + 1, 4, none⟩ = some (.int .i64 rel) := (g1.cell (p := ⟨w.heap.size + 1, 4, none⟩) (by simp only [World.size_alloc]; omega)).trans (by simp [go_sem])
    have i5 : w1.cell? ⟨w.heap.size + 1, 5, none⟩ = some (.int .i64 lo) := (g1.cell (p := ⟨w.heap.size + 1, 5, none⟩) (by simp only [World.size_alloc]; omega)).trans (by simp [go_sem])
    have i6 : w1.cell? ⟨w.heap.size + 1, 6, none⟩ = some (.int .i64 hi) := (g1.cell (p := ⟨w.heap.size + 1, 6, none⟩) (by simp only [World.size_alloc]; omega)).trans (by simp [go_sem])
    have i7 : w1.cell? ⟨w.heap.size + 1, 7, none⟩ = some (.int .i64 to) := (g1.cell (p := ⟨w.heap.size + 1, 7, none⟩) (by simp only [World.size_alloc]; omega)).trans (by simp [go_sem])
    clear g1 h hs1 hb1 hb2
    cases p
    · go_wp2_with ((with_reducible refine (HP.out _ (grew_tr HG.out (gr))).mono ?_); rintro e w' ⟨rfl, g'⟩; (first | obtain ⟨x, rfl⟩ := ext_cold g' | obtain ⟨x, rfl⟩ := ext_col g' | obtain ⟨x, rfl⟩ := ext_of g'); clear g')
      go_ret
      refine ⟨by simp, ?_⟩
      have hg := HG.out
      exact gr
    cases q
    · go_wp2_with (first | ((with_reducible refine (HP.out _ (grew_tr HG.out (gr))).mono ?_); rintro e w' ⟨rfl, g'⟩; (first | obtain ⟨x, rfl⟩ := ext_cold g' | obtain ⟨x, rfl⟩ := ext_col g' | obtain ⟨x, rfl⟩ := ext_of g'); clear g') | ((with_reducible refine (HQ.out _).mono ?_); rintro e w' ⟨rfl, g'⟩; (first | obtain ⟨y, rfl⟩ := ext_cold g' | obtain ⟨y, rfl⟩ := ext_col g' | obtain ⟨y, rfl⟩ := ext_of g'); clear g'))
      go_ret
      refine ⟨by simp, ?_⟩
      have hg := HG.out
      exact gr
    go_wp2_with (first | ((with_reducible refine (HP.out _ (grew_tr HG.out (gr))).mono ?_); rintro e w' ⟨rfl, g'⟩; (first | obtain ⟨x, rfl⟩ := ext_cold g' | obtain ⟨x, rfl⟩ := ext_col g' | obtain ⟨x, rfl⟩ := ext_of g'); clear g') | ((with_reducible refine (HQ.out _).mono ?_); rintro e w' ⟨rfl, g'⟩; (first | obtain ⟨y, rfl⟩ := ext_cold g' | obtain ⟨y, rfl⟩ := ext_col g' | obtain ⟨y, rfl⟩ := ext_of g'); clear g') | ((with_reducible refine (HSB.out _ (gr) (by trivial) (by trivial)).mono ?_); rintro e w' ⟨rfl, g'⟩; (first | obtain ⟨z, rfl⟩ := ext_cold g' | obtain ⟨z, rfl⟩ := ext_col g' | obtain ⟨z, rfl⟩ := ext_of g'); clear g'))
    go_ret
    refine ⟨by simp, ?_⟩
    have hg := HG.out
    exact gr
end Go.Proofs.YtpmfpgbpndobpaaGreat

/- What a step makes of a state within another one is within what it makes of that: plain. No condition. -/
namespace Go.Proofs.YtpmfpgbpndobpaaGreat
open Go.RowKit
set_option linter.unusedVariables false
set_option linter.unusedSimpArgs false

def LeS (xs ys : List Itv) : Prop := xs.length = ys.length ∧ ∀ k : Int, inI (nthI xs k) (nthI ys k) = true
theorem leS_of {xs ys : List Itv} (hl : xs.length = ys.length) (h : (xs.zip ys).all (fun p => inI p.1 p.2) = true) : LeS xs ys := by
  refine ⟨hl, fun k => ?_⟩
  unfold nthI
  by_cases hk : k.toNat < xs.length
  · have hk' : k.toNat < ys.length := by omega
    rw [List.all_eq_true] at h
    have := h (xs[k.toNat], ys[k.toNat]) (by
      rw [List.mem_iff_getElem]
      exact ⟨k.toNat, by simp; omega, by simp⟩)
    simpa [List.getD_eq_getElem?_getD, hk, hk'] using this
  · rw [List.getD_eq_getElem?_getD, List.getD_eq_getElem?_getD, List.getElem?_eq_none (by omega), List.getElem?_eq_none (by omega)]
    exact inI_refl _
theorem leS_all {xs ys : List Itv} (h : LeS xs ys) : (xs.zip ys).all (fun p => inI p.1 p.2) = true := by
  rw [List.all_eq_true]
  intro p hp
  rw [List.mem_iff_getElem] at hp
  obtain ⟨k, hk, rfl⟩ := hp
  have hk1 : k < xs.length := by simp at hk; omega
  have hk2 : k < ys.length := by simp at hk; omega
  have := h.2 (k : Int)
  simpa [nthI, List.getD_eq_getElem?_getD, hk1, hk2] using this
theorem nthI_setI (xs : List Itv) (k j : Int) (x : Itv) : nthI (setI xs k x) j = if k.toNat = j.toNat ∧ j.toNat < xs.length then x else nthI xs j := by
  unfold nthI setI
  rw [List.getD_eq_getElem?_getD, List.getD_eq_getElem?_getD, List.getElem?_set]
  by_cases h : k.toNat = j.toNat
  · by_cases h2 : j.toNat < xs.length
    · simp [h, h2]
    · rw [if_pos h, if_neg (by omega), if_neg (by omega), List.getElem?_eq_none (by omega)]
  · simp [h]
theorem setI_mono {xs ys : List Itv} {x y : Itv} (h : LeS xs ys) (hi : inI x y = true) (k : Int) : LeS (setI xs k x) (setI ys k y) := by
  refine ⟨by rw [setI_len, setI_len, h.1], fun j => ?_⟩
  rw [nthI_setI, nthI_setI, ← h.1]
  split
  · exact hi
  · exact h.2 j
theorem nthI_okS {xs : List Itv} {lo hi k : Int} (h : stOkB true xs lo hi = true) (hk : varB k = true) : itvB (nthI xs k) = true := by
  obtain ⟨h4, ha, _⟩ := stOk_parts h
  obtain ⟨j, rfl, hj, hx⟩ := nthI_get h4 hk
  exact ha _ (List.mem_of_getElem? hx)
theorem narI_mono {xs ys zs : List Itv} {lo hi k : Int} {t t' : Itv} (h : LeS xs ys) (ho : stOkB true ys lo hi = true) (hk : varB k = true) (ht : inI t t' = true) (e : narI xs k t = some zs) : ∃ zs', narI ys k t' = some zs' ∧ LeS zs zs' := by
  unfold narI at e ⊢
  rw [Option.map_eq_some_iff] at e
  obtain ⟨x, hx, rfl⟩ := e
  obtain ⟨x', h1, h2⟩ := meetI_mono (h.2 k) ht (nthI_okS ho hk) hx
  exact ⟨_, by rw [h1]; rfl, setI_mono h h2 k⟩
theorem relSt_mono {o o' : Option (Itv × Itv)} {xs ys zs : List Itv} {lo hi a b : Int} (h : LeS xs ys) (ho : stOkB true ys lo hi = true) (ha : varB a = true) (hb : varB b = true)
    (hoo : ∀ x y, o = some (x, y) → ∃ x' y', o' = some (x', y') ∧ inI x x' = true ∧ inI y y' = true) (e : relSt o xs a b = some zs) : ∃ zs', relSt o' ys a b = some zs' ∧ LeS zs zs' := by
  cases o with
  | none => cases e
  | some p =>
    obtain ⟨x, y⟩ := p
    obtain ⟨x', y', rfl, h1, h2⟩ := hoo x y rfl
    simp only [relSt] at e ⊢
    obtain ⟨us, e1, e2⟩ := Option.bind_eq_some_iff.1 e
    obtain ⟨us', f1, f2⟩ := narI_mono h ho ha h1 e1
    obtain ⟨zs', g1, g2⟩ := narI_mono f2 (narI_ok ho f1) hb h2 e2
    exact ⟨zs', by rw [f1]; exact g1, g2⟩
theorem sec4_ne {b : Itv} (hb : b.lo ≤ b.hi) (h : secI 4 b ≠ []) : ¬ (b.lo = 0 ∧ b.hi = 0) := by
  rintro ⟨h1, h2⟩
  obtain ⟨bl, bh⟩ := b
  simp only at h1 h2
  subst h1 h2
  exact h (by simp [secI, inB])
theorem doI_div {a b r : Itv} (hb : b.lo ≤ b.hi) (h : doI 4 a b = some r) : (woI b ⟨0, 0⟩).lo ≤ (woI b ⟨0, 0⟩).hi := by
  have hne : secI 4 b ≠ [] := by
    intro e
    simp [doI, ressI, cornI, e] at h
  have := sec4_ne hb hne
  unfold woI
  simp only [if_true]
  repeat' split
  all_goals (first | omega | (simp only; omega))
theorem joinI_mono {x y x' y' : Itv} (h1 : inI x x' = true) (h2 : inI y y' = true) : inI (joinI x y) (joinI x' y') = true := by
  rw [inI_iff] at *
  simp only [joinI]
  omega
theorem actI_mono {ps : List Prc} {ss : List Sum} {i : Ins} {xs ys : List Itv} {c c' : Itv} {z : List Itv × Itv} (hi : insOkB i ps.length 10 = true) (h : LeS xs ys) (hc : inI c c' = true) (o1 : stOkB true xs c.lo c.hi = true) (o2 : stOkB true ys c'.lo c'.hi = true) (e : actI ps ss i xs c = some z) :
    ∃ z', actI ps ss i ys c' = some z' ∧ LeS z.1 z'.1 ∧ inI z.2 z'.2 = true := by
  obtain ⟨h1, hD, hA, hB, hT⟩ := ins_parts hi
  have oa := nthI_okS o1 hA
  have ob := nthI_okS o1 hB
  have oa' := nthI_okS o2 hA
  have ob' := nthI_okS o2 hB
  unfold actI at e ⊢
  by_cases c5 : i.op = 5
  · rw [if_pos c5] at e ⊢
    cases e
    exact ⟨_, rfl, setI_mono h (inI_refl _) _, hc⟩
  rw [if_neg c5] at e ⊢
  by_cases c4 : i.op ≤ 4
  · rw [if_pos c4] at e ⊢
    obtain ⟨r, hr, rfl⟩ := Option.map_eq_some_iff.1 e
    obtain ⟨r', hr', hri⟩ := doI_mono h1.1 c4 (itvB_iff.1 oa).2.2 (itvB_iff.1 ob).2.2 (h.2 i.a) (h.2 i.b) hr
    refine ⟨_, by rw [hr']; rfl, ?_, hc⟩
    simp only
    by_cases d4 : i.op = 4
    · rw [if_pos d4, if_pos d4]
      rw [d4] at hr
      exact setI_mono (setI_mono h (woI_mono (by simp) (h.2 i.b) (inI_refl _) (doI_div (itvB_iff.1 ob).2.2 hr)) _) hri _
    · rw [if_neg d4, if_neg d4]
      exact setI_mono h hri _
  rw [if_neg c4] at e ⊢
  by_cases c6 : i.op = 6
  · rw [if_pos c6] at e ⊢
    obtain ⟨zs, hz, rfl⟩ := Option.map_eq_some_iff.1 e
    obtain ⟨zs', f1, f2⟩ := narI_mono h o2 hA (inI_refl _) hz
    exact ⟨_, by rw [f1]; rfl, setI_mono f2 hc _, hc⟩
  rw [if_neg c6] at e ⊢
  by_cases c7 : i.op = 7
  · rw [if_pos c7] at e ⊢
    obtain ⟨zs, hz, rfl⟩ := Option.map_eq_some_iff.1 e
    obtain ⟨zs', f1, f2⟩ := narI_mono h o2 hA (inI_refl _) hz
    exact ⟨_, by rw [f1]; rfl, f2, joinI_mono hc (h.2 i.b)⟩
  rw [if_neg c7] at e ⊢
  by_cases c10 : i.op = 10
  · rw [if_pos c10] at e ⊢
    obtain ⟨zs, hz, e2⟩ := Option.bind_eq_some_iff.1 e
    obtain ⟨zs', f1, f2⟩ := narI_mono h o2 hA (inI_refl _) hz
    split at e2
    · rename_i hon
      cases e2
      exact ⟨_, by rw [f1]; simp only [Option.bind_some, hon, if_true]; rfl, setI_mono f2 (inI_refl _) _, hc⟩
    · cases e2
  rw [if_neg c10] at e ⊢
  obtain ⟨zs, hz, rfl⟩ := Option.map_eq_some_iff.1 e
  obtain ⟨zs', f1, f2⟩ := relSt_mono h o2 hA hB (fun x y hxy => relI_mono oa ob oa' ob' (h.2 i.a) (h.2 i.b) hxy) hz
  exact ⟨_, by rw [f1]; rfl, f2, hc⟩
/-- Of less comes less: each place with a state has one that holds it. -/
theorem edgesI_mono {ps : List Prc} {ss : List Sum} {i : Ins} {pc : Int} {xs ys : List Itv} {c c' : Itv} {e : Ed} (hi : insOkB i ps.length 10 = true) (h : LeS xs ys) (hc : inI c c' = true) (o1 : stOkB true xs c.lo c.hi = true) (o2 : stOkB true ys c'.lo c'.hi = true) (he : e ∈ edgesI ps ss i pc xs c) :
    ∃ e', e' ∈ edgesI ps ss i pc ys c' ∧ e.to = e'.to ∧ LeS e.xs e'.xs ∧ inI e.c e'.c = true := by
  obtain ⟨h1, hD, hA, hB, hT⟩ := ins_parts hi
  have oa := nthI_okS o1 hA
  have ob := nthI_okS o1 hB
  have oa' := nthI_okS o2 hA
  have ob' := nthI_okS o2 hB
  have hE : ∀ (o o' : Option (List Itv)) (to : Int), (∀ zs, o = some zs → ∃ zs', o' = some zs' ∧ LeS zs zs') → e ∈ optE o to c → ∃ e', e' ∈ optE o' to c' ∧ e.to = e'.to ∧ LeS e.xs e'.xs ∧ inI e.c e'.c = true := fun o o' to ho he => by
    cases o with
    | none => cases he
    | some zs =>
      simp only [optE, List.mem_cons, List.not_mem_nil, or_false] at he
      subst he
      obtain ⟨zs', rfl, hz⟩ := ho zs rfl
      exact ⟨⟨to, zs', c'⟩, by simp only [optE, List.mem_cons, List.not_mem_nil, or_false], rfl, hz, hc⟩
  unfold edgesI at he ⊢
  by_cases c12 : i.op = 12
  · rw [if_pos c12] at he; cases he
  rw [if_neg c12] at he ⊢
  by_cases c9 : i.op = 9
  · rw [if_pos c9] at he ⊢
    simp only [List.mem_cons, List.not_mem_nil, or_false] at he
    subst he
    exact ⟨⟨i.to, ys, c'⟩, by simp only [List.mem_cons, List.not_mem_nil, or_false], rfl, h, hc⟩
  rw [if_neg c9] at he ⊢
  by_cases c8 : i.op = 8
  · rw [if_pos c8] at he ⊢
    rcases List.mem_append.1 he with he | he
    · obtain ⟨e', g1, g2⟩ := hE _ _ _ (fun zs hz => relSt_mono h o2 hA hB (fun x y hxy => relI_mono oa ob oa' ob' (h.2 i.a) (h.2 i.b) hxy) hz) he
      exact ⟨e', List.mem_append.2 (.inl g1), g2⟩
    · obtain ⟨e', g1, g2⟩ := hE _ _ _ (fun zs hz => relSt_mono h o2 hA hB (fun x y hxy => notI_mono oa ob oa' ob' (h.2 i.a) (h.2 i.b) hxy) hz) he
      exact ⟨e', List.mem_append.2 (.inr g1), g2⟩
  rw [if_neg c8] at he ⊢
  cases ha : actI ps ss i xs c with
  | none => rw [ha] at he; cases he
  | some z =>
    rw [ha] at he
    simp only [optA, List.mem_cons, List.not_mem_nil, or_false] at he
    subst he
    obtain ⟨z', g1, g2, g3⟩ := actI_mono hi h hc o1 o2 ha
    exact ⟨⟨pc + 1, z'.1, z'.2⟩, by rw [g1]; simp only [optA, List.mem_cons, List.not_mem_nil, or_false], rfl, g2, g3⟩
theorem failsB_mono {ps : List Prc} {i : Ins} {xs ys : List Itv} {c c' : Itv} (hi : insOkB i ps.length 10 = true) (h : LeS xs ys) (o1 : stOkB true xs c.lo c.hi = true) (o2 : stOkB true ys c'.lo c'.hi = true) (hf : failsB ps i xs = true) : failsB ps i ys = true := by
  obtain ⟨h1, hD, hA, hB, hT⟩ := ins_parts hi
  have oa := nthI_okS o1 hA
  have ob := nthI_okS o1 hB
  have oa' := nthI_okS o2 hA
  have ob' := nthI_okS o2 hB
  have ia := h.2 i.a
  have ib := h.2 i.b
  have hout : ∀ t, (!inI (nthI xs i.a) t) = true → (!inI (nthI ys i.a) t) = true := fun t ht => by
    cases hq : inI (nthI ys i.a) t
    · rfl
    · rw [inI_trans ia hq] at ht
      cases ht
  unfold failsB at hf ⊢
  by_cases c4 : i.op = 4
  · rw [if_pos c4] at hf ⊢
    rw [inI_iff] at ib
    simp only [inB, Bool.and_eq_true, decide_eq_true_eq] at hf ⊢
    omega
  rw [if_neg c4] at hf ⊢
  by_cases c6 : i.op = 6 ∨ i.op = 7
  · rw [if_pos c6] at hf ⊢
    exact hout _ hf
  rw [if_neg c6] at hf ⊢
  by_cases c10 : i.op = 10
  · rw [if_pos c10] at hf ⊢
    exact hout _ hf
  rw [if_neg c10] at hf ⊢
  by_cases c11 : i.op = 11
  · rw [if_pos c11] at hf ⊢
    cases hn : notI i.rel (nthI xs i.a) (nthI xs i.b) with
    | none => rw [hn] at hf; cases hf
    | some p =>
      obtain ⟨x, y⟩ := p
      obtain ⟨x', y', g, _⟩ := notI_mono oa ob oa' ob' ia ib hn
      rw [g]
      rfl
  rw [if_neg c11] at hf
  cases hf
end Go.Proofs.YtpmfpgbpndobpaaGreat
