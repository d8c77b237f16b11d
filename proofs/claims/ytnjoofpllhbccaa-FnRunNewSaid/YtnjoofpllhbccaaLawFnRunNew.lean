/- The walk of the law FnRunNew. No condition. -/
import Derived.Test.YtnjoofpllhbccaaDrRn
import Derived.Test.YtnjoofpllhbccaaOwR
import Derived.Test.YtnjoofpllhbccaaRunRes
namespace Go.Proofs.Ytnjoofpllhbccaa
open Go.RowKit
set_option linter.unusedVariables false
set_option linter.unusedSimpArgs false
attribute [local go_sem] ext_cell ext_frozen ext_lt ext_le ext_le1 lt_s2 lt_s3 lt_s4 lt_s5 lt_s6 ext_lt1 ext_lt2 ext_lt3

theorem owOkR (w : World) : Calls Try.prog 18 #[] w fun e w' => e = .returned (.bool true) ∧ w = w' := by
  have C := Lib.hid (fun w => implNumOk 1 w)
  go_enter Try.func18, Try.ntmps18
  go_wp2_with fail
  refine (C.out _).mono ?_
  rintro e w' ⟨rfl, rfl⟩
  go_wp2
  go_ret
  exact ⟨rfl, rfl⟩
theorem run_sz {w : World} {B N c : Nat} {a : Option Addr} {S : Ru} (h : OwnRun w B N a c S) : ∀ p, p ∈ S.frames → p.vars.length ≤ 1000 ∧ p.cells.length ≤ 1000 := by
  intro p hp
  rcases h with ⟨h, _⟩ | ⟨f, g, b1, b2, h, _, _, hr⟩
  · rw [h] at hp
    cases hp
  · rw [h, List.mem_singleton] at hp
    subst hp
    have h1 := hr.lv
    have h2 := hr.lc
    omega
theorem new_p {ps : List Prc} {x y : Int} (h : newOk ps x y = true) : prgOkB ps = true ∧ ∃ (k : Nat) (p : Prc), x = k ∧ ps[k]? = some p ∧ p.lo ≤ y ∧ y ≤ p.hi := by
  rw [newOk, Bool.and_eq_true] at h
  refine ⟨h.1, ?_⟩
  have h2 := h.2
  unfold prcO at h2
  split at h2
  · rename_i p hp
    split at hp
    · rename_i h0
      rw [Bool.and_eq_true, decide_eq_true_eq, decide_eq_true_eq] at h2
      exact ⟨x.toNat, p, by omega, hp, h2.1, h2.2⟩
    · cases hp
  · cases h2
theorem new_q {ps : List Prc} {k : Nat} {p : Prc} {y : Int} (h1 : prgOkB ps = true) (h2 : ps[k]? = some p) (h3 : p.lo ≤ y) (h4 : y ≤ p.hi) : newOk ps k y = true := by
  have e : prcO ps (k : Int) = some p := by rw [prcO, if_pos (by omega)]; exact h2
  rw [newOk, h1, e]
  simp [h3, h4]
theorem new_runOk {ps : List Prc} {x y : Int} (h : newOk ps x y = true) : runOkB ps ⟨1, [newFr x y], 0, 0, 0⟩ = true := by
  obtain ⟨hB, k, p, rfl, hk, h3, h4⟩ := new_p h
  have hi := prgOk_itv hB hk
  have hcode : 1 ≤ p.code.length := by
    simp only [prgOkB, Bool.and_eq_true, decide_eq_true_eq, List.all_eq_true] at hB
    have := hB.2 p (List.mem_of_getElem? hk)
    simp only [prcOkB, Bool.and_eq_true, decide_eq_true_eq, List.all_eq_true] at this
    exact this.1.1.2.1
  simp only [itvOkB, Bool.and_eq_true, decide_eq_true_eq] at hi
  have hy : numB y = true := by
    simp only [numB, Bool.and_eq_true, decide_eq_true_eq]
    omega
  have hat : (atO ps (k : Int) 0).isSome = true := by
    have : atO ps (k : Int) ((0 : Nat) : Int) = some (p.code[0]'(by omega)) := by
      rw [atO_nat, hk]
      simp
    have h0 : (((0 : Nat) : Int)) = 0 := rfl
    rw [h0] at this
    rw [this]
    rfl
  have n0 : numB 0 = true := by decide
  simp [runOkB, hB, framesB, okAt, frB, linkB, newFr, hat, numsB, hy, n0]
set_option maxRecDepth 100000 in
set_option maxHeartbeats 4000000 in
theorem lawFnRunNew (a : Option Addr) (n c : Nat) (xs : List Int) (w : World) (hr : Rd w a n 1 (ints .u8 xs)) (hx : Bs xs) (hc : n ≤ c ∧ c ≤ maxLen) :
    Calls Try.prog 7 #[.slice a n c] w fun e w' => e = .returned (.bool true) ∧ Grew w w' := by
  have HR := Lib.hid hr; clear hr
  have HX := Lib.hid hx; clear hx
  by_cases h1 : (n : Int) > 1048576
  · go_enter Try.func7, Try.ntmps7
    go_wp2
    go_ret
    exact ⟨rfl, Below.refl _ _⟩
  go_enter Try.func7, Try.ntmps7
  go_wp2_with fail
  refine (drawRunNew a n c xs w HR.out HX.out hc).mono ?_
  rintro e w1 ⟨pa, m, pc, ps, x, y, rfl, hp, g1⟩
  have hm5 : m ≤ 5 := hp.2.1
  have hm63 : m ≤ 9223372036854775807 := by omega
  have HML := Lib.hid hp.len
  have B1 := Lib.hid (Blk.new w1 49 #[.slice pa m pc])
  have hal := grew_al (Below.refl _ w1) (.cells #[.slice pa m pc] 49)
  have P1 := Lib.hid (hp.grew hal)
  have G1 := Lib.hid (grew_tr g1 hal)
  have CI := Lib.hid (fun W (h : RdP W pa m ps) => implRunNew pa m pc ps x y W h hm63)
  have CS := Lib.hid (fun W (h : RdP W pa m ps) => specRunNew pa m pc ps x y W h hm63)
  have CP := Lib.hid (fun W (h : RdP W pa m ps) => specPrgOk pa m pc ps W h hm63)
  obtain ⟨S, hS⟩ : ∃ S, newRun ps x y = S := ⟨_, rfl⟩
  obtain ⟨st, fs, out, pr, pq⟩ := S
  rw [hS] at CI CS
  have HS := Lib.hid hS
  have CI : Hid (∀ W, RdP W pa m ps → Calls Try.prog 36 #[.agg #[.slice pa m pc], .int .i64 x, .int .i64 y] W (fun e w' => ∃ a c, e = .returned (.agg #[.int .i64 st, .slice a fs.length c, .int .i64 out, .int .i64 pr, .int .i64 pq]) ∧ OwnRun w' W.heap.size w'.heap.size a c ⟨st, fs, out, pr, pq⟩ ∧ Grew W w')) := CI
  have CS : Hid (∀ W, RdP W pa m ps → Calls Try.prog 34 #[.agg #[.slice pa m pc], .int .i64 x, .int .i64 y] W (fun e w' => ∃ a c, e = .returned (.agg #[.int .i64 st, .slice a fs.length c, .int .i64 out, .int .i64 pr, .int .i64 pq]) ∧ OwnRun w' W.heap.size w'.heap.size a c ⟨st, fs, out, pr, pq⟩ ∧ Grew W w')) := CS
  clear hp g1 HR HX hS hal
  obtain ⟨b3, hb3⟩ : ∃ b, w1.heap.size = b := ⟨_, rfl⟩
  rw [hb3] at B1
  go_wp2_with fail
  refine (CI.out _ P1.out.1).mono ?_
  rintro e w2 ⟨ra, rc, rfl, o2, g2⟩
  have hb6 : w1.heap.size < w2.heap.size := Nat.lt_of_lt_of_le (by simp) g2.size
  obtain ⟨b6, hb6e⟩ : ∃ b, w2.heap.size = b := ⟨_, rfl⟩
  rw [hb3, hb6e] at hb6
  have HO0 := Lib.hid o2
  have B0 := Lib.hid (B1.out.grew g2)
  have P0 := Lib.hid (P1.out.grew g2)
  have G0 := Lib.hid (grew_tr G1.out g2)
  have hfl : fs.length ≤ 1 := o2.len
  have n36 : ¬ b3 = b6 := by omega
  have n63 : ¬ b6 = b3 := by omega
  have p0 : w2.cell? ⟨b3, 0, none⟩ = some (.slice pa m pc) := B0.out.cell 0
  have pl := B0.out.lt
  clear o2 g2 B1 P1 G1
  try simp only [hb3]
  clear hb3
  go_upto_region 5 with fail
  try simp only [hb6e]
  refine wp_let_c ?_
  intro E hE
  have hal2 : Grew w2 E := by rw [hE]; exact grew_al (Below.refl _ _) _
  have X5 : Hid (Blk E b6 65 #[.int .i64 st, .slice ra fs.length rc, .int .i64 out, .int .i64 pr, .int .i64 pq]) := Lib.hid (by rw [hE, ← hb6e]; exact Blk.new _ _ _)
  have HO5 := Lib.hid (HO0.out.grew hal2)
  have B5 := Lib.hid (B0.out.grew hal2)
  have P5 := Lib.hid (P0.out.grew hal2)
  have G5 := Lib.hid (grew_tr G0.out hal2)
  clear hE hal2 p0 pl B0 P0 G0 HO0 hb6e
  have d3 : E.cell? ⟨b3, 0, none⟩ = some (.slice pa m pc) := B5.out.cell 0
  have l3 := B5.out.lt
  have e0 : E.cell? ⟨b6, 0, none⟩ = some (.int .i64 st) := X5.out.cell 0
  have e1 : E.cell? ⟨b6, 1, none⟩ = some (.slice ra fs.length rc) := X5.out.cell 1
  have e2 : E.cell? ⟨b6, 2, none⟩ = some (.int .i64 out) := X5.out.cell 2
  have e3 : E.cell? ⟨b6, 3, none⟩ = some (.int .i64 pr) := X5.out.cell 3
  have e4 : E.cell? ⟨b6, 4, none⟩ = some (.int .i64 pq) := X5.out.cell 4
  have l6 := X5.out.lt
  have HCY := Lib.hid (fun W (h : Grew E W) => (⟨(h.cell (p := ⟨b3, 0, none⟩) l3).trans d3, (h.cell (p := ⟨b6, 0, none⟩) l6).trans e0, (h.cell (p := ⟨b6, 1, none⟩) l6).trans e1, (h.cell (p := ⟨b6, 2, none⟩) l6).trans e2, (h.cell (p := ⟨b6, 3, none⟩) l6).trans e3, (h.cell (p := ⟨b6, 4, none⟩) l6).trans e4⟩ : W.cell? ⟨b3, 0, none⟩ = some (.slice pa m pc) ∧ W.cell? ⟨b6, 0, none⟩ = some (.int .i64 st) ∧ W.cell? ⟨b6, 1, none⟩ = some (.slice ra fs.length rc) ∧ W.cell? ⟨b6, 2, none⟩ = some (.int .i64 out) ∧ W.cell? ⟨b6, 3, none⟩ = some (.int .i64 pr) ∧ W.cell? ⟨b6, 4, none⟩ = some (.int .i64 pq)))
  have HRF := Lib.hid (fun W (h : Grew E W) => (HO5.out.grew h).rd)
  have HSz := Lib.hid (run_sz HO5.out)
  have HPW := Lib.hid (fun W (h : Grew E W) => (P5.out.1.grew h : RdP W pa m ps))
  obtain ⟨wo, hwo⟩ : ∃ wo : World, wo = E := ⟨_, rfl⟩
  subst hwo
  clear d3 l3 e0 e1 e2 e3 e4 l6 B5 P5
  go_wp2_with fail
  go_region_held3 (fun W => W.cell? ⟨b3, 0, none⟩ = some (.slice pa m pc) ∧ W.cell? ⟨b6, 0, none⟩ = some (.int .i64 st) ∧ W.cell? ⟨b6, 1, none⟩ = some (.slice ra fs.length rc) ∧ W.cell? ⟨b6, 2, none⟩ = some (.int .i64 out) ∧ W.cell? ⟨b6, 3, none⟩ = some (.int .i64 pr) ∧ W.cell? ⟨b6, 4, none⟩ = some (.int .i64 pq)) (first | assumption | exact HCY.out _ (by repeat (first | with_reducible exact Below.refl _ _ | with_reducible assumption | with_reducible apply grew_ext | with_reducible apply grew_al | with_reducible apply grew_dn | with_reducible apply grew_d | (with_reducible refine grew_set ?_ (by first | omega | (repeat (first | with_reducible exact Nat.le_refl _ | with_reducible apply le_pl | with_reducible apply le_ext | with_reducible apply le_al))) _))))
    (first
    | (go_at_call 34; refine (CS.out _ (HPW.out _ (by repeat (first | with_reducible exact Below.refl _ _ | with_reducible assumption | with_reducible apply grew_ext | with_reducible apply grew_al | with_reducible apply grew_dn | with_reducible apply grew_d | (with_reducible refine grew_set ?_ (by first | omega | (repeat (first | with_reducible exact Nat.le_refl _ | with_reducible apply le_pl | with_reducible apply le_ext | with_reducible apply le_al))) _))))).mono ?_; rintro e wh ⟨sa, sc, rfl, oc, ga⟩; have RS := Lib.hid oc.rd; clear oc; (first | obtain ⟨ya, rfl⟩ := ext_cold ga | obtain ⟨ya, rfl⟩ := ext_col ga | obtain ⟨ya, rfl⟩ := ext_of ga); clear ga)
    | (go_at_call 43; refine (owRunE st ra sa fs.length rc sc fs out pr pq _ (HRF.out _ (by repeat (first | with_reducible exact Below.refl _ _ | with_reducible assumption | with_reducible apply grew_ext | with_reducible apply grew_al | with_reducible apply grew_dn | with_reducible apply grew_d | (with_reducible refine grew_set ?_ (by first | omega | (repeat (first | with_reducible exact Nat.le_refl _ | with_reducible apply le_pl | with_reducible apply le_ext | with_reducible apply le_al))) _)))) RS.out (by omega) HSz.out).mono ?_; rintro e wh ⟨rfl, gb⟩; (first | obtain ⟨yb, rfl⟩ := ext_cold gb | obtain ⟨yb, rfl⟩ := ext_of gb); clear gb))
  obtain ⟨w8, hE8⟩ : ∃ X, X = ext (ext wo.drew ya) yb := ⟨_, rfl⟩
  have HG8 : Hid (Grew wo w8) := Lib.hid (by rw [hE8]; repeat (first | with_reducible exact Below.refl _ _ | with_reducible assumption | with_reducible apply grew_ext | with_reducible apply grew_al | with_reducible apply grew_dn | with_reducible apply grew_d | (with_reducible refine grew_set ?_ (by first | omega | (repeat (first | with_reducible exact Nat.le_refl _ | with_reducible apply le_pl | with_reducible apply le_ext | with_reducible apply le_al))) _)))
  rw [← hE8]
  clear hE8 RS CS CI
  have G8 := Lib.hid (grew_tr G5.out HG8.out)
  have HP8 := Lib.hid (HPW.out _ HG8.out)
  obtain ⟨q0, x0, x1, x2, x3, x4⟩ := HCY.out _ HG8.out
  have pl : b3 < w8.heap.size := World.block_lt_of_cell? _ _ q0
  have pl6 : b6 < w8.heap.size := World.block_lt_of_cell? _ _ x0
  have HO8 := Lib.hid (HO5.out.grew HG8.out)
  have HOK := Lib.hid owOkR
  clear HCY HRF HSz HPW HO5 G5 X5 HG8
  cases hN : newOk ps x y
  · have hS := HS.out
    rw [newRun_no hN] at hS
    cases hS
    have hS0 := HO8.out
    obtain ⟨rfl, rfl⟩ : ra = none ∧ rc = 0 := by
      rcases hS0 with ⟨_, h2, h3⟩ | ⟨f, g, c1, c2, h, _⟩
      · exact ⟨h2, h3⟩
      · cases h
    clear hS0 HO8
    have hcp := CP.out _ HP8.out
    cases hB : prgOkB ps
    · rw [hB] at hcp
      have HCP := Lib.hid hcp
      clear hcp CP
      go_wp2_with (first | ((with_reducible refine (HCP.out).mono ?_); rintro e w' ⟨rfl, g'⟩; (first | obtain ⟨z, rfl⟩ := ext_cold g' | obtain ⟨z, rfl⟩ := ext_col g' | obtain ⟨z, rfl⟩ := ext_of g'); clear g') | ((with_reducible refine (HOK.out _).mono ?_); rintro e w' ⟨rfl, rfl⟩))
      go_ret
      have hg := G8.out
      refine ⟨rfl, ?_⟩
      repeat (first | with_reducible exact Below.refl _ _ | with_reducible assumption | with_reducible apply grew_ext | with_reducible apply grew_al | with_reducible apply grew_dn | with_reducible apply grew_d | (with_reducible refine grew_set ?_ (by first | omega | (repeat (first | with_reducible exact Nat.le_refl _ | with_reducible apply le_pl | with_reducible apply le_ext | with_reducible apply le_al))) _))
    rw [hB] at hcp
    have HCP := Lib.hid hcp
    clear hcp CP
    by_cases hx0 : x < 0
    · have hxd : decide (x < 0) = true := decide_eq_true hx0
      go_wp2_with (first | ((with_reducible refine (HCP.out).mono ?_); rintro e w' ⟨rfl, g'⟩; (first | obtain ⟨z, rfl⟩ := ext_cold g' | obtain ⟨z, rfl⟩ := ext_col g' | obtain ⟨z, rfl⟩ := ext_of g'); clear g') | ((with_reducible refine (HOK.out _).mono ?_); rintro e w' ⟨rfl, rfl⟩))
      go_ret
      have hg := G8.out
      refine ⟨rfl, ?_⟩
      repeat (first | with_reducible exact Below.refl _ _ | with_reducible assumption | with_reducible apply grew_ext | with_reducible apply grew_al | with_reducible apply grew_dn | with_reducible apply grew_d | (with_reducible refine grew_set ?_ (by first | omega | (repeat (first | with_reducible exact Nat.le_refl _ | with_reducible apply le_pl | with_reducible apply le_ext | with_reducible apply le_al))) _))
    obtain ⟨k, rfl⟩ := Int.eq_ofNat_of_zero_le (show 0 ≤ x by omega)
    have hxd : decide ((k : Int) < 0) = false := decide_eq_false hx0
    by_cases hkm : k < m
    rotate_left
    · have hkd : decide ((m : Int) ≤ (k : Int)) = true := decide_eq_true (by omega)
      have hkd2 : decide (m ≤ k) = true := decide_eq_true (by omega)
      have hkd3 : m ≤ k := by omega
      go_wp2_with (first | ((with_reducible refine (HCP.out).mono ?_); rintro e w' ⟨rfl, g'⟩; (first | obtain ⟨z, rfl⟩ := ext_cold g' | obtain ⟨z, rfl⟩ := ext_col g' | obtain ⟨z, rfl⟩ := ext_of g'); clear g') | ((with_reducible refine (HOK.out _).mono ?_); rintro e w' ⟨rfl, rfl⟩))
      go_ret
      have hg := G8.out
      refine ⟨rfl, ?_⟩
      repeat (first | with_reducible exact Below.refl _ _ | with_reducible assumption | with_reducible apply grew_ext | with_reducible apply grew_al | with_reducible apply grew_dn | with_reducible apply grew_d | (with_reducible refine grew_set ?_ (by first | omega | (repeat (first | with_reducible exact Nat.le_refl _ | with_reducible apply le_pl | with_reducible apply le_ext | with_reducible apply le_al))) _))
    have hkd : decide ((m : Int) ≤ (k : Int)) = false := decide_eq_false (by omega)
    have hkd2 : decide (m ≤ k) = false := decide_eq_false (by omega)
    have hkd3 : ¬ m ≤ k := by omega
    obtain ⟨qb, qo, lo, hi, is, ia, ic, rfl, hxk, c0, c1, c2, hqb, _, _, _⟩ := rdP_at HP8.out hkm
    have HQ := Lib.hid (new_q (k := k) (y := y) hB hxk)
    have HNo := Lib.hid hN
    clear hxk c2 hN hB
    by_cases hlo : y < lo
    · have hlod : decide (y < lo) = true := decide_eq_true hlo
      go_wp2_with (first | ((with_reducible refine (HCP.out).mono ?_); rintro e w' ⟨rfl, g'⟩; (first | obtain ⟨z, rfl⟩ := ext_cold g' | obtain ⟨z, rfl⟩ := ext_col g' | obtain ⟨z, rfl⟩ := ext_of g'); clear g') | ((with_reducible refine (HOK.out _).mono ?_); rintro e w' ⟨rfl, rfl⟩))
      go_ret
      have hg := G8.out
      refine ⟨rfl, ?_⟩
      repeat (first | with_reducible exact Below.refl _ _ | with_reducible assumption | with_reducible apply grew_ext | with_reducible apply grew_al | with_reducible apply grew_dn | with_reducible apply grew_d | (with_reducible refine grew_set ?_ (by first | omega | (repeat (first | with_reducible exact Nat.le_refl _ | with_reducible apply le_pl | with_reducible apply le_ext | with_reducible apply le_al))) _))
    have hlod : decide (y < lo) = false := decide_eq_false hlo
    by_cases hhi : hi < y
    · have hhid : decide (hi < y) = true := decide_eq_true hhi
      go_wp2_with (first | ((with_reducible refine (HCP.out).mono ?_); rintro e w' ⟨rfl, g'⟩; (first | obtain ⟨z, rfl⟩ := ext_cold g' | obtain ⟨z, rfl⟩ := ext_col g' | obtain ⟨z, rfl⟩ := ext_of g'); clear g') | ((with_reducible refine (HOK.out _).mono ?_); rintro e w' ⟨rfl, rfl⟩))
      go_ret
      have hg := G8.out
      refine ⟨rfl, ?_⟩
      repeat (first | with_reducible exact Below.refl _ _ | with_reducible assumption | with_reducible apply grew_ext | with_reducible apply grew_al | with_reducible apply grew_dn | with_reducible apply grew_d | (with_reducible refine grew_set ?_ (by first | omega | (repeat (first | with_reducible exact Nat.le_refl _ | with_reducible apply le_pl | with_reducible apply le_ext | with_reducible apply le_al))) _))
    have h := HQ.out (by simp only; omega) (by simp only; omega)
    rw [HNo.out] at h
    cases h
  · have hS := HS.out
    rw [newRun_yes hN] at hS
    cases hS
    obtain ⟨hB, k, p, rfl, hk, h3, h4⟩ := new_p hN
    have hkm : k < m := by
      have := (List.getElem?_eq_some_iff.1 hk).1
      rw [HML.out] at this
      exact this
    have hrok := new_runOk hN
    obtain ⟨qb, qo, lo, hi, is, ia, ic, rfl, hxk, c0, c1, c2, hqb, _, _, _⟩ := rdP_at HP8.out hkm
    rw [hk] at hxk
    cases hxk
    simp only at h3 h4
    have hxd : decide ((k : Int) < 0) = false := decide_eq_false (by omega)
    have hkd : decide ((m : Int) ≤ (k : Int)) = false := decide_eq_false (by omega)
    have hkd2 : decide (m ≤ k) = false := decide_eq_false (by omega)
    have hkd3 : ¬ m ≤ k := by omega
    have hlod : decide (y < lo) = false := decide_eq_false (by omega)
    have hhid : decide (hi < y) = false := decide_eq_false (by omega)
    have hcp := CP.out _ HP8.out
    rw [hB] at hcp
    have HCP := Lib.hid hcp
    have HROK := Lib.hid hrok
    have HFR := Lib.hid (HO8.out.rd)
    obtain ⟨g, b1, b2, rfl, rfl, hr1⟩ : ∃ g b1 b2, ra = some ⟨g, 0, none⟩ ∧ rc = 1 ∧ Run1 w8 (w1.alloc (.cells #[.slice (some ⟨qb, qo, none⟩) m pc] 49)).heap.size w2.heap.size g b1 b2 (newFr k y) := by
      rcases HO8.out with ⟨h, _⟩ | ⟨f, g, b1, b2, hf, h1, h2, h3⟩
      · cases h
      · cases hf
        exact ⟨g, b1, b2, h1, h2, h3⟩
    have f0 : w8.cell? ⟨g, 0, none⟩ = some (.int .i64 k) := hr1.row.cell 0
    have f2 : w8.cell? ⟨g, 2, none⟩ = some (.slice (some ⟨b1, 0, none⟩) 4 4) := hr1.row.cell 2
    have f3 : w8.cell? ⟨g, 3, none⟩ = some (.slice (some ⟨b2, 0, none⟩) 4 4) := hr1.row.cell 3
    have HV1 : Hid (Rd w8 (some ⟨b1, 0, none⟩) 4 1 (ints .i64 [y, 0, 0, 0])) := Lib.hid (owns_rd (blk_own (B := 0) (n := 4) (size := 1) hr1.vars rfl (Nat.zero_le _) (by unfold maxLen; omega)))
    have HV2 : Hid (Rd w8 (some ⟨b2, 0, none⟩) 4 1 (ints .i64 [0, 0, 0, 0])) := Lib.hid (owns_rd (blk_own (B := 0) (n := 4) (size := 1) hr1.cells rfl (Nat.zero_le _) (by unfold maxLen; omega)))
    have lg := hr1.row.lt
    have x1 : w8.cell? ⟨b6, 1, none⟩ = some (.slice (some ⟨g, 0, none⟩) 1 1) := x1
    have HFR : Hid (RdF w8 (some ⟨g, 0, none⟩) 1 [newFr k y]) := HFR
    have HCY := Lib.hid (fun W (h : Grew w8 W) => (⟨(h.cell (p := ⟨b3, 0, none⟩) pl).trans q0, (h.cell (p := ⟨b6, 0, none⟩) pl6).trans x0, (h.cell (p := ⟨b6, 1, none⟩) pl6).trans x1, (h.cell (p := ⟨b6, 2, none⟩) pl6).trans x2, (h.cell (p := ⟨b6, 3, none⟩) pl6).trans x3, (h.cell (p := ⟨b6, 4, none⟩) pl6).trans x4, (h.cell (p := ⟨qb, qo + k * 3, none⟩) hqb).trans c0, (h.cell (p := ⟨qb, qo + k * 3 + 1, none⟩) hqb).trans c1⟩ : W.cell? ⟨b3, 0, none⟩ = some (.slice (some ⟨qb, qo, none⟩) m pc) ∧ W.cell? ⟨b6, 0, none⟩ = some (.int .i64 1) ∧ W.cell? ⟨b6, 1, none⟩ = some (.slice (some ⟨g, 0, none⟩) 1 1) ∧ W.cell? ⟨b6, 2, none⟩ = some (.int .i64 0) ∧ W.cell? ⟨b6, 3, none⟩ = some (.int .i64 0) ∧ W.cell? ⟨b6, 4, none⟩ = some (.int .i64 0) ∧ W.cell? ⟨qb, qo + k * 3, none⟩ = some (.int .i64 lo) ∧ W.cell? ⟨qb, qo + k * 3 + 1, none⟩ = some (.int .i64 hi)))
    have HCF := Lib.hid (fun W (h : Grew w8 W) => (⟨(h.cell (p := ⟨g, 0, none⟩) lg).trans f0, (h.cell (p := ⟨g, 2, none⟩) lg).trans f2, (h.cell (p := ⟨g, 3, none⟩) lg).trans f3⟩ : W.cell? ⟨g, 0, none⟩ = some (.int .i64 k) ∧ W.cell? ⟨g, 2, none⟩ = some (.slice (some ⟨b1, 0, none⟩) 4 4) ∧ W.cell? ⟨g, 3, none⟩ = some (.slice (some ⟨b2, 0, none⟩) 4 4)))
    have HRK := Lib.hid (fun W (h : Grew w8 W) => (by have := implRunOk (some ⟨qb, qo, none⟩) m pc ps 1 (some ⟨g, 0, none⟩) 1 1 [newFr k y] 0 0 0 W (HP8.out.grew h) hm63 (HFR.out.grew h) (by omega); rw [HROK.out] at this; exact this : Calls Try.prog 44 #[.agg #[.slice (some ⟨qb, qo, none⟩) m pc], .agg #[.int .i64 1, .slice (some ⟨g, 0, none⟩) 1 1, .int .i64 0, .int .i64 0, .int .i64 0]] W (fun e w' => e = .returned (.bool true) ∧ Grew W w')))
    have HRD := Lib.hid (fun W (h : Grew w8 W) => (by have := implRunDepth (some ⟨qb, qo, none⟩) m pc ps 1 (some ⟨g, 0, none⟩) 1 1 [newFr k y] 0 0 0 W (HP8.out.grew h) hm63 (HFR.out.grew h) (by omega); rw [HROK.out, if_pos rfl] at this; exact this : Calls Try.prog 45 #[.agg #[.slice (some ⟨qb, qo, none⟩) m pc], .agg #[.int .i64 1, .slice (some ⟨g, 0, none⟩) 1 1, .int .i64 0, .int .i64 0, .int .i64 0]] W (fun e w' => e = .returned (.int .i64 1) ∧ Grew W w')))
    clear hcp CP c2 hk hN hB hrok HS HOK HO8 hr1 f0 f2 f3 HFR
    go_wp2_with fail
    refine HCP.out.mono ?_
    rintro e w9 ⟨rfl, g9⟩
    have G9 := Lib.hid g9
    obtain ⟨y0, z0, z1, z2, z3, z4, d0, d1⟩ := HCY.out _ g9
    clear q0 x0 x1 x2 x3 x4 c0 c1 pl pl6 hqb lg g9 HCP
    go_wp2_with fail
    refine (HRK.out _ G9.out).mono ?_
    rintro e w10 ⟨rfl, g10⟩
    have G10 := Lib.hid (grew_tr G9.out g10)
    clear y0 z0 z1 z2 z3 z4 d0 d1 g10
    obtain ⟨y0, z0, z1, z2, z3, z4, d0, d1⟩ := HCY.out _ G10.out
    go_wp2_with fail
    refine (HRD.out _ G10.out).mono ?_
    rintro e w11 ⟨rfl, g11⟩
    have G11 := Lib.hid (grew_tr G10.out g11)
    clear y0 z0 z1 z2 z3 z4 d0 d1 g11
    obtain ⟨y0, z0, z1, z2, z3, z4, d0, d1⟩ := HCY.out _ G11.out
    obtain ⟨f0, f2, f3⟩ := HCF.out _ G11.out
    have l6 : b6 < w11.heap.size := World.block_lt_of_cell? _ _ z0
    have lg : g < w11.heap.size := World.block_lt_of_cell? _ _ f0
    go_wp2_with fail
    refine (owIntsE (some ⟨b1, 0, none⟩) 4 4 (some ⟨w11.heap.size, 0, none⟩) 4 4 [y, 0, 0, 0] _ (HV1.out.grew (grew_tr G11.out (grew_al (Below.refl _ _) _))) (show Rd (w11.alloc (.cells #[.int .i64 y, .int .i64 0, .int .i64 0, .int .i64 0] 3)) (some ⟨w11.heap.size, 0, none⟩) 4 1 (ints .i64 [y, 0, 0, 0]) from rd_lit w11 3 #[.int .i64 y, .int .i64 0, .int .i64 0, .int .i64 0] 4 1 rfl) (by omega)).mono ?_
    rintro e w12 ⟨rfl, g12⟩
    have G12 := Lib.hid (grew_tr G11.out (grew_tr (grew_al (Below.refl _ w11) _) g12))
    clear y0 z0 z1 z2 z3 z4 d0 d1 f0 f2 f3 l6 lg g12
    obtain ⟨y0, z0, z1, z2, z3, z4, d0, d1⟩ := HCY.out _ G12.out
    obtain ⟨f0, f2, f3⟩ := HCF.out _ G12.out
    have l6 : b6 < w12.heap.size := World.block_lt_of_cell? _ _ z0
    have lg : g < w12.heap.size := World.block_lt_of_cell? _ _ f0
    go_wp2_with fail
    refine (owIntsE (some ⟨b2, 0, none⟩) 4 4 (some ⟨w12.heap.size, 0, none⟩) 4 4 [0, 0, 0, 0] _ (HV2.out.grew (grew_tr G12.out (grew_al (Below.refl _ _) _))) (show Rd (w12.alloc (.cells #[.int .i64 0, .int .i64 0, .int .i64 0, .int .i64 0] 3)) (some ⟨w12.heap.size, 0, none⟩) 4 1 (ints .i64 [0, 0, 0, 0]) from rd_lit w12 3 #[.int .i64 0, .int .i64 0, .int .i64 0, .int .i64 0] 4 1 rfl) (by omega)).mono ?_
    rintro e w13 ⟨rfl, g13⟩
    have G13 := Lib.hid (grew_tr G8.out (grew_tr G12.out (grew_tr (grew_al (Below.refl _ w12) _) g13)))
    clear y0 z0 z1 z2 z3 z4 d0 d1 f0 f2 f3 l6 lg g13
    go_wp2
    go_ret
    exact ⟨rfl, G13.out⟩
end Go.Proofs.Ytnjoofpllhbccaa
