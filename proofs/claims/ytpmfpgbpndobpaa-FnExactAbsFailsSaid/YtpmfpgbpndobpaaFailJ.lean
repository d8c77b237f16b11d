/- May an instruction fail in a state: both sides put together. No condition. -/
import Derived.Test.YtpmfpgbpndobpaaFailI
import Derived.Test.YtpmfpgbpndobpaaFailS
import Derived.Test.YtpmfpgbpndobpaaLawInsOk
import Derived.Test.YtpmfpgbpndobpaaSt
namespace Go.Proofs.Ytpmfpgbpndobpaa
open Go.RowKit
set_option linter.unusedVariables false
set_option linter.unusedSimpArgs false
attribute [local go_sem] ext_cell ext_frozen ext_lt ext_le ext_le1 lt_s2 lt_s3 lt_s4 lt_s5 lt_s6 ext_lt1 ext_lt2 ext_lt3

theorem ins_parts {i : Ins} {n m : Int} (h : insOkB i n m = true) : (1 ≤ i.op ∧ i.op ≤ 12) ∧ varB i.d = true ∧ varB i.a = true ∧ varB i.b = true ∧ tailB i n m = true := by
  simp only [insOkB, headB, Bool.and_eq_true, decide_eq_true_eq] at h
  obtain ⟨⟨h1, _, hD, hA, hB⟩, hT⟩ := h
  exact ⟨h1, hD, hA, hB, hT⟩
theorem op12 {op : Int} (h : 1 ≤ op ∧ op ≤ 12) : op = 1 ∨ op = 2 ∨ op = 3 ∨ op = 4 ∨ op = 5 ∨ op = 6 ∨ op = 7 ∨ op = 8 ∨ op = 9 ∨ op = 10 ∨ op = 11 ∨ op = 12 := by omega
theorem implFails (sb : Nat) (pa : Option Addr) (pn pc : Nat) (ps : List Prc) (i : Ins) (xs : List Itv) (slo shi : Int) (w : World) (hr : RdP w pa pn ps) (hb : Blk w sb 82 (stC xs slo shi)) (ho : stOkB true xs slo shi = true) (hp : prgOkB ps = true) (hi : insOkB i pn 10 = true) :
    Calls Try.prog 27 #[.pointer (some ⟨sb, 0, none⟩), .agg #[.slice pa pn pc], i.v] w fun e w' => e = .returned (.bool (failsB ps i xs)) ∧ Grew w w' := by
  obtain ⟨op, d, a, b, rel, lo, hi2, to⟩ := i
  obtain ⟨h1, hD, hA, hB, hT⟩ := ins_parts hi
  rcases op12 h1 with rfl | rfl | rfl | rfl | rfl | rfl | rfl | rfl | rfl | rfl | rfl | rfl
  · rw [show failsB ps ⟨1, d, a, b, rel, lo, hi2, to⟩ xs = false from by simp [failsB]]
    exact implFails1 sb pa pn pc d a b rel lo hi2 to xs slo shi w
  · rw [show failsB ps ⟨2, d, a, b, rel, lo, hi2, to⟩ xs = false from by simp [failsB]]
    exact implFails2 sb pa pn pc d a b rel lo hi2 to xs slo shi w
  · rw [show failsB ps ⟨3, d, a, b, rel, lo, hi2, to⟩ xs = false from by simp [failsB]]
    exact implFails3 sb pa pn pc d a b rel lo hi2 to xs slo shi w
  · rw [show failsB ps ⟨4, d, a, b, rel, lo, hi2, to⟩ xs = (inB (nthI xs b).lo (nthI xs b).hi 0) from by simp [failsB]]
    exact implFails4 sb pa pn pc d a b rel lo hi2 to xs slo shi w hb ho hB
  · rw [show failsB ps ⟨5, d, a, b, rel, lo, hi2, to⟩ xs = false from by simp [failsB]]
    exact implFails5 sb pa pn pc d a b rel lo hi2 to xs slo shi w
  · rw [show failsB ps ⟨6, d, a, b, rel, lo, hi2, to⟩ xs = (!inI (nthI xs a) ⟨0, 3⟩) from by simp [failsB]]
    exact implFails6 sb pa pn pc d a b rel lo hi2 to xs slo shi w hb ho hA
  · rw [show failsB ps ⟨7, d, a, b, rel, lo, hi2, to⟩ xs = (!inI (nthI xs a) ⟨0, 3⟩) from by simp [failsB]]
    exact implFails7 sb pa pn pc d a b rel lo hi2 to xs slo shi w hb ho hA
  · rw [show failsB ps ⟨8, d, a, b, rel, lo, hi2, to⟩ xs = false from by simp [failsB]]
    exact implFails8 sb pa pn pc d a b rel lo hi2 to xs slo shi w
  · rw [show failsB ps ⟨9, d, a, b, rel, lo, hi2, to⟩ xs = false from by simp [failsB]]
    exact implFails9 sb pa pn pc d a b rel lo hi2 to xs slo shi w
  · rw [show failsB ps ⟨10, d, a, b, rel, lo, hi2, to⟩ xs = (!inI (nthI xs a) (prcI ps to)) from by simp [failsB]]
    have hto : 0 ≤ to ∧ to < pn := by simpa [tailB] using hT
    exact implFails10 sb pa pn pc d a b rel lo hi2 to xs slo shi w hb ho hA ps hr hp hto.1 hto.2
  · rw [show failsB ps ⟨11, d, a, b, rel, lo, hi2, to⟩ xs = ((notI rel (nthI xs a) (nthI xs b)).isSome) from by simp [failsB]]
    have hrel : 1 ≤ rel ∧ rel ≤ 4 := by simpa [tailB] using hT
    exact implFails11 sb pa pn pc d a b rel lo hi2 to xs slo shi w hb ho hA hB hrel
  · rw [show failsB ps ⟨12, d, a, b, rel, lo, hi2, to⟩ xs = false from by simp [failsB]]
    exact implFails12 sb pa pn pc d a b rel lo hi2 to xs slo shi w

theorem specAbsFails (pa : Option Addr) (pn pc : Nat) (ps : List Prc) (i : Ins) (on : Bool) (xa : Option Addr) (xn xc : Nat) (xs : List Itv) (slo shi : Int) (w : World) (hr : RdP w pa pn ps) (hn : pn ≤ 9223372036854775807) (hx : RdL EItv 2 w xa xn xs) (hxn : xn ≤ 9223372036854775807) :
    Calls Try.prog 6 #[.agg #[.slice pa pn pc], i.v, .agg #[.bool on, .slice xa xn xc, .int .i64 slo, .int .i64 shi]] w fun e w' => e = .returned (.bool (absFailsB ps i on xs slo shi)) ∧ Grew w w' := by
  have key : absFailsB ps i on xs slo shi = (fitB ps i on xs slo shi && failsB ps i xs) := by
    simp only [absFailsB, fitB]
    cases prgOkB ps <;> cases stOkB on xs slo shi <;> cases on <;> simp
  rw [key]
  obtain ⟨op, d, a, b, rel, lo, hi, to⟩ := i
  cases hf : fitB ps ⟨op, d, a, b, rel, lo, hi, to⟩ on xs slo shi
  · exact specFailsN op pa pn pc ps d a b rel lo hi to on xa xn xc xs slo shi w hr hn hx hxn hf
  rw [Bool.true_and]
  have hff := hf
  simp only [fitB, Bool.and_eq_true] at hff
  obtain ⟨h1, hD, hA, hB, hT⟩ := ins_parts hff.2.1
  rcases op12 h1 with rfl | rfl | rfl | rfl | rfl | rfl | rfl | rfl | rfl | rfl | rfl | rfl
  · rw [show failsB ps ⟨1, d, a, b, rel, lo, hi, to⟩ xs = (false) from by simp [failsB]]
    exact specFails1 pa pn pc ps d a b rel lo hi to on xa xn xc xs slo shi w hr hn hx hxn hf
  · rw [show failsB ps ⟨2, d, a, b, rel, lo, hi, to⟩ xs = (false) from by simp [failsB]]
    exact specFails2 pa pn pc ps d a b rel lo hi to on xa xn xc xs slo shi w hr hn hx hxn hf
  · rw [show failsB ps ⟨3, d, a, b, rel, lo, hi, to⟩ xs = (false) from by simp [failsB]]
    exact specFails3 pa pn pc ps d a b rel lo hi to on xa xn xc xs slo shi w hr hn hx hxn hf
  · rw [show failsB ps ⟨4, d, a, b, rel, lo, hi, to⟩ xs = (inB (nthI xs b).lo (nthI xs b).hi 0) from by simp [failsB]]
    exact specFails4 pa pn pc ps d a b rel lo hi to on xa xn xc xs slo shi w hr hn hx hxn hf
  · rw [show failsB ps ⟨5, d, a, b, rel, lo, hi, to⟩ xs = (false) from by simp [failsB]]
    exact specFails5 pa pn pc ps d a b rel lo hi to on xa xn xc xs slo shi w hr hn hx hxn hf
  · rw [show failsB ps ⟨6, d, a, b, rel, lo, hi, to⟩ xs = (!inI (nthI xs a) ⟨0, 3⟩) from by simp [failsB]]
    exact specFails6 pa pn pc ps d a b rel lo hi to on xa xn xc xs slo shi w hr hn hx hxn hf
  · rw [show failsB ps ⟨7, d, a, b, rel, lo, hi, to⟩ xs = (!inI (nthI xs a) ⟨0, 3⟩) from by simp [failsB]]
    exact specFails7 pa pn pc ps d a b rel lo hi to on xa xn xc xs slo shi w hr hn hx hxn hf
  · rw [show failsB ps ⟨8, d, a, b, rel, lo, hi, to⟩ xs = (false) from by simp [failsB]]
    exact specFails8 pa pn pc ps d a b rel lo hi to on xa xn xc xs slo shi w hr hn hx hxn hf
  · rw [show failsB ps ⟨9, d, a, b, rel, lo, hi, to⟩ xs = (false) from by simp [failsB]]
    exact specFails9 pa pn pc ps d a b rel lo hi to on xa xn xc xs slo shi w hr hn hx hxn hf
  · rw [show failsB ps ⟨10, d, a, b, rel, lo, hi, to⟩ xs = (!inI (nthI xs a) (prcI ps to)) from by simp [failsB]]
    exact specFails10 pa pn pc ps d a b rel lo hi to on xa xn xc xs slo shi w hr hn hx hxn hf
  · rw [show failsB ps ⟨11, d, a, b, rel, lo, hi, to⟩ xs = ((notI rel (nthI xs a) (nthI xs b)).isSome) from by simp [failsB]]
    exact specFails11 pa pn pc ps d a b rel lo hi to on xa xn xc xs slo shi w hr hn hx hxn hf
  · rw [show failsB ps ⟨12, d, a, b, rel, lo, hi, to⟩ xs = (false) from by simp [failsB]]
    exact specFails12 pa pn pc ps d a b rel lo hi to on xa xn xc xs slo shi w hr hn hx hxn hf

set_option maxHeartbeats 4000000 in
theorem implAbsFails (pa : Option Addr) (pn pc : Nat) (ps : List Prc) (i : Ins) (on : Bool) (xa : Option Addr) (xn xc : Nat) (xs : List Itv) (slo shi : Int) (w : World) (hr : RdP w pa pn ps) (hn : pn ≤ 9223372036854775807) (hx : RdL EItv 2 w xa xn xs) (hxn : xn ≤ 9223372036854775807) (hc : xn ≤ xc) :
    Calls Try.prog 10 #[.agg #[.slice pa pn pc], i.v, .agg #[.bool on, .slice xa xn xc, .int .i64 slo, .int .i64 shi]] w fun e w' => e = .returned (.bool (absFailsB ps i on xs slo shi)) ∧ Grew w w' := by
  have HS := Lib.hid (fun W (h : Grew w W) => implReadState on xa xn xc xs slo shi W (hx.grew staysItv h) hxn hc)
  have HP := Lib.hid (fun W (h : Grew w W) => implPrgOk pa pn pc ps W (hr.grew h) hn)
  have HQ := Lib.hid (fun W => implInsOk i pn 10 W)
  have HFL := Lib.hid (fun W (g : Grew w W) sb (hb : Blk W sb 82 (stC xs slo shi)) (ho : stOkB true xs slo shi = true) (hp : prgOkB ps = true) (hi : insOkB i pn 10 = true) => implFails sb pa pn pc ps i xs slo shi W (hr.grew g) hb ho hp hi)
  rw [absFailsB, hr.len]
  obtain ⟨p, hp⟩ : ∃ p, prgOkB ps = p := ⟨_, rfl⟩
  obtain ⟨q, hq⟩ : ∃ q, insOkB i pn 10 = q := ⟨_, rfl⟩
  obtain ⟨f, hf⟩ : ∃ f, failsB ps i xs = f := ⟨_, rfl⟩
  have H1 := Lib.hid hp
  have H2 := Lib.hid hq
  rw [hp] at HP ⊢
  rw [hq] at HQ ⊢
  rw [hf] at HFL ⊢
  clear hr hx hp hq hf
  obtain ⟨op, d, a, b, rel, lo, hi, to⟩ := i
  obtain ⟨V, hV⟩ : ∃ V, ((stOkB on xs slo shi && on) && (p && (q && f))) = V := ⟨_, rfl⟩
  rw [hV]
  have HV := Lib.hid hV
  clear hV
  go_enter Try.func10, Try.ntmps10
  go_wp2_with fail
  refine (HS.out _ (by repeat (first | with_reducible exact Below.refl _ _ | with_reducible assumption | with_reducible apply grew_ext | with_reducible apply grew_al | with_reducible apply grew_dn | with_reducible apply grew_d | (with_reducible refine grew_set ?_ (by first | omega | (repeat (first | with_reducible exact Nat.le_refl _ | with_reducible apply le_pl | with_reducible apply le_ext | with_reducible apply le_al))) _)))).mono ?_
  rintro e w1 ⟨g1, ⟨h, rfl⟩ | ⟨h, sb, rfl, hb1, hb2⟩⟩
  · have HG := Lib.hid (show Grew w w1 from grew_tr (by repeat (first | with_reducible exact Below.refl _ _ | with_reducible assumption | with_reducible apply grew_ext | with_reducible apply grew_al | with_reducible apply grew_dn | with_reducible apply grew_d | (with_reducible refine grew_set ?_ (by first | omega | (repeat (first | with_reducible exact Nat.le_refl _ | with_reducible apply le_pl | with_reducible apply le_ext | with_reducible apply le_al))) _))) g1)
    have hv := HV.out
    rw [h, Bool.false_and] at hv
    subst hv
    obtain ⟨r, hr2⟩ : ∃ r, stOkB on xs slo shi = r := ⟨_, rfl⟩
    rw [hr2]
    clear g1 h hr2 HV
    cases r
    all_goals
      go_wp2
      go_ret
      refine ⟨rfl, ?_⟩
      have hg := HG.out
      repeat (first | with_reducible exact Below.refl _ _ | with_reducible assumption | with_reducible apply grew_ext | with_reducible apply grew_al | with_reducible apply grew_dn | with_reducible apply grew_d | (with_reducible refine grew_set ?_ (by first | omega | (repeat (first | with_reducible exact Nat.le_refl _ | with_reducible apply le_pl | with_reducible apply le_ext | with_reducible apply le_al))) _))
  · have HG := Lib.hid (show Grew w w1 from grew_tr (by repeat (first | with_reducible exact Below.refl _ _ | with_reducible assumption | with_reducible apply grew_ext | with_reducible apply grew_al | with_reducible apply grew_dn | with_reducible apply grew_d | (with_reducible refine grew_set ?_ (by first | omega | (repeat (first | with_reducible exact Nat.le_refl _ | with_reducible apply le_pl | with_reducible apply le_ext | with_reducible apply le_al))) _))) g1)
    have hv := HV.out
    rw [h, Bool.true_and] at hv
    clear HV
    subst hv
    obtain ⟨hs1, rfl⟩ : stOkB on xs slo shi = true ∧ on = true := by simpa using h
    have HSB := Lib.hid (fun W (g : Grew w1 W) (hp : p = true) (hq : q = true) => HFL.out W (grew_tr HG.out g) sb (hb2.grew g) hs1 (H1.out.trans hp) (H2.out.trans hq))
    have lw : w.heap.size + 1 + 1 + 1 ≤ w1.heap.size := by have := g1.size; simp only [World.size_alloc] at this; omega
    have l0 : w.heap.size < w1.heap.size := by omega
    have l1 : w.heap.size + 1 < w1.heap.size := by omega
    have p0 : w1.cell? ⟨w.heap.size, 0, none⟩ = some (.slice pa pn pc) := (g1.cell (p := ⟨w.heap.size, 0, none⟩) (by simp only [World.size_alloc]; omega)).trans (by simp [go_sem])
    have i0 : w1.cell? ⟨w.heap.size + 1, 0, none⟩ = some (.int .i64 op) := (g1.cell (p := ⟨w.heap.size + 1, 0, none⟩) (by simp only [World.size_alloc]; omega)).trans (by simp [go_sem])
    have i1 : w1.cell? ⟨w.heap.size + 1, 1, none⟩ = some (.int .i64 d) := (g1.cell (p := ⟨w.heap.size + 1, 1, none⟩) (by simp only [World.size_alloc]; omega)).trans (by simp [go_sem])
    have i2 : w1.cell? ⟨w.heap.size + 1, 2, none⟩ = some (.int .i64 a) := (g1.cell (p := ⟨w.heap.size + 1, 2, none⟩) (by simp only [World.size_alloc]; omega)).trans (by simp [go_sem])
    have i3 : w1.cell? ⟨w.heap.size + 1, 3, none⟩ = some (.int .i64 b) := (g1.cell (p := ⟨w.heap.size + 1, 3, none⟩) (by simp only [World.size_alloc]; omega)).trans (by simp [go_sem])
    have i4 : w1.cell? ⟨w.heap.size + 1, 4, none⟩ = some (.int .i64 rel) := (g1.cell (p := ⟨w.heap.size + 1, 4, none⟩) (by simp only [World.size_alloc]; omega)).trans (by simp [go_sem])
    have i5 : w1.cell? ⟨w.heap.size + 1, 5, none⟩ = some (.int .i64 lo) := (g1.cell (p := ⟨w.heap.size + 1, 5, none⟩) (by simp only [World.size_alloc]; omega)).trans (by simp [go_sem])
    have i6 : w1.cell? ⟨w.heap.size + 1, 6, none⟩ = some (.int .i64 hi) := (g1.cell (p := ⟨w.heap.size + 1, 6, none⟩) (by simp only [World.size_alloc]; omega)).trans (by simp [go_sem])
    have i7 : w1.cell? ⟨w.heap.size + 1, 7, none⟩ = some (.int .i64 to) := (g1.cell (p := ⟨w.heap.size + 1, 7, none⟩) (by simp only [World.size_alloc]; omega)).trans (by simp [go_sem])
    clear g1 h hs1 hb1 hb2
    cases p
    · go_wp2_with ((with_reducible refine (HP.out _ (grew_tr HG.out (by repeat (first | with_reducible exact Below.refl _ _ | with_reducible assumption | with_reducible apply grew_ext | with_reducible apply grew_al | with_reducible apply grew_dn | with_reducible apply grew_d | (with_reducible refine grew_set ?_ (by first | omega | (repeat (first | with_reducible exact Nat.le_refl _ | with_reducible apply le_pl | with_reducible apply le_ext | with_reducible apply le_al))) _))))).mono ?_); rintro e w' ⟨rfl, g'⟩; (first | obtain ⟨x, rfl⟩ := ext_cold g' | obtain ⟨x, rfl⟩ := ext_col g' | obtain ⟨x, rfl⟩ := ext_of g'); clear g')
      go_ret
      refine ⟨by simp, ?_⟩
      have hg := HG.out
      repeat (first | with_reducible exact Below.refl _ _ | with_reducible assumption | with_reducible apply grew_ext | with_reducible apply grew_al | with_reducible apply grew_dn | with_reducible apply grew_d | (with_reducible refine grew_set ?_ (by first | omega | (repeat (first | with_reducible exact Nat.le_refl _ | with_reducible apply le_pl | with_reducible apply le_ext | with_reducible apply le_al))) _))
    cases q
    · go_wp2_with (first | ((with_reducible refine (HP.out _ (grew_tr HG.out (by repeat (first | with_reducible exact Below.refl _ _ | with_reducible assumption | with_reducible apply grew_ext | with_reducible apply grew_al | with_reducible apply grew_dn | with_reducible apply grew_d | (with_reducible refine grew_set ?_ (by first | omega | (repeat (first | with_reducible exact Nat.le_refl _ | with_reducible apply le_pl | with_reducible apply le_ext | with_reducible apply le_al))) _))))).mono ?_); rintro e w' ⟨rfl, g'⟩; (first | obtain ⟨x, rfl⟩ := ext_cold g' | obtain ⟨x, rfl⟩ := ext_col g' | obtain ⟨x, rfl⟩ := ext_of g'); clear g') | ((with_reducible refine (HQ.out _).mono ?_); rintro e w' ⟨rfl, g'⟩; (first | obtain ⟨y, rfl⟩ := ext_cold g' | obtain ⟨y, rfl⟩ := ext_col g' | obtain ⟨y, rfl⟩ := ext_of g'); clear g'))
      go_ret
      refine ⟨by simp, ?_⟩
      have hg := HG.out
      repeat (first | with_reducible exact Below.refl _ _ | with_reducible assumption | with_reducible apply grew_ext | with_reducible apply grew_al | with_reducible apply grew_dn | with_reducible apply grew_d | (with_reducible refine grew_set ?_ (by first | omega | (repeat (first | with_reducible exact Nat.le_refl _ | with_reducible apply le_pl | with_reducible apply le_ext | with_reducible apply le_al))) _))
    go_wp2_with (first | ((with_reducible refine (HP.out _ (grew_tr HG.out (by repeat (first | with_reducible exact Below.refl _ _ | with_reducible assumption | with_reducible apply grew_ext | with_reducible apply grew_al | with_reducible apply grew_dn | with_reducible apply grew_d | (with_reducible refine grew_set ?_ (by first | omega | (repeat (first | with_reducible exact Nat.le_refl _ | with_reducible apply le_pl | with_reducible apply le_ext | with_reducible apply le_al))) _))))).mono ?_); rintro e w' ⟨rfl, g'⟩; (first | obtain ⟨x, rfl⟩ := ext_cold g' | obtain ⟨x, rfl⟩ := ext_col g' | obtain ⟨x, rfl⟩ := ext_of g'); clear g') | ((with_reducible refine (HQ.out _).mono ?_); rintro e w' ⟨rfl, g'⟩; (first | obtain ⟨y, rfl⟩ := ext_cold g' | obtain ⟨y, rfl⟩ := ext_col g' | obtain ⟨y, rfl⟩ := ext_of g'); clear g') | ((with_reducible refine (HSB.out _ (by repeat (first | with_reducible exact Below.refl _ _ | with_reducible assumption | with_reducible apply grew_ext | with_reducible apply grew_al | with_reducible apply grew_dn | with_reducible apply grew_d | (with_reducible refine grew_set ?_ (by first | omega | (repeat (first | with_reducible exact Nat.le_refl _ | with_reducible apply le_pl | with_reducible apply le_ext | with_reducible apply le_al))) _))) (by trivial) (by trivial)).mono ?_); rintro e w' ⟨rfl, g'⟩; (first | obtain ⟨z, rfl⟩ := ext_cold g' | obtain ⟨z, rfl⟩ := ext_col g' | obtain ⟨z, rfl⟩ := ext_of g'); clear g'))
    go_ret
    refine ⟨by simp, ?_⟩
    have hg := HG.out
    repeat (first | with_reducible exact Below.refl _ _ | with_reducible assumption | with_reducible apply grew_ext | with_reducible apply grew_al | with_reducible apply grew_dn | with_reducible apply grew_d | (with_reducible refine grew_set ?_ (by first | omega | (repeat (first | with_reducible exact Nat.le_refl _ | with_reducible apply le_pl | with_reducible apply le_ext | with_reducible apply le_al))) _))
end Go.Proofs.Ytpmfpgbpndobpaa
