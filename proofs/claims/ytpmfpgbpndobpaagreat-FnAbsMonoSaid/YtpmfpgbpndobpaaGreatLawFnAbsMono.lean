/- The walk of the law FnAbsMono. No condition. -/
import Derived.Test.YtpmfpgbpndobpaaGreatDrAS
import Derived.Test.YtpmfpgbpndobpaaGreatDrAI
import Derived.Test.YtpmfpgbpndobpaaGreatLw
namespace Go.Proofs.YtpmfpgbpndobpaaGreat
open Go.RowKit
set_option linter.unusedVariables false
set_option linter.unusedSimpArgs false
attribute [local go_sem] ext_cell ext_frozen ext_lt ext_le ext_le1 lt_s2 lt_s3 lt_s4 lt_s5 lt_s6 ext_lt1 ext_lt2 ext_lt3

set_option maxHeartbeats 16000000 in
theorem lawFnAbsMono (a : Option Addr) (n c : Nat) (xs : List Int) (a' : Option Addr) (n' c' : Nat) (ys : List Int) (w : World) (hr : Rd w a n 1 (ints .u8 xs)) (hx : Bs xs) (hc : n ≤ c ∧ c ≤ maxLen) (hr' : Rd w a' n' 1 (ints .u8 ys)) (hy : Bs ys) (hc' : n' ≤ c' ∧ c' ≤ maxLen) :
    Calls Tryz.prog 4 #[.slice a n c, .slice a' n' c'] w fun e w' => e = .returned (.bool true) ∧ Grew w w' := by
  have HR := Lib.hid hr; clear hr
  have HR' := Lib.hid hr'; clear hr'
  have HX := Lib.hid hx; clear hx
  have HY := Lib.hid hy; clear hy
  by_cases h1 : (n : Int) > 1048576
  · go_enter Tryz.func4, Tryz.ntmps4
    go_wp2
    go_ret
    exact ⟨rfl, Below.refl _ _⟩
  by_cases h2 : (n' : Int) > 1048576
  · go_enter Tryz.func4, Tryz.ntmps4
    go_wp2
    go_ret
    exact ⟨rfl, Below.refl _ _⟩
  go_enter Tryz.func4, Tryz.ntmps4
  go_wp2_with fail
  refine (drawAbsStep a n c xs w HR.out HX.out hc).mono ?_
  rintro e w1 ⟨pa, m, pc, ps, ua, un, uc, ss, ⟨op, d, ia, ib, rel, ilo, ihi, ito⟩, k0, on, sa, sn, sc, lo, hi, rfl, hp, hu, hun, hk0, hs, g1⟩
  have HP1 := Lib.hid hp
  have HU1 := Lib.hid hu
  have G1 := Lib.hid g1
  clear hp hu hs g1
  go_upto_region 4 with fail
  refine wp_letH ?_
  intro E1 hE1
  have gE1 : Grew w1 E1 := by rw [hE1]; exact grew_al (grew_al (grew_al (Below.refl _ _) _) _) _
  have B5 : Hid (P1B E1 w1.heap.size pa m pc) := Lib.hid (by rw [hE1]; exact (P1B.new w1 _ _ _ _).grew (grew_al (grew_al (Below.refl _ _) _) _))
  have B7 : Hid (I8B E1 (w1.heap.size + 1) ⟨op, d, ia, ib, rel, ilo, ihi, ito⟩) := Lib.hid (by rw [hE1]; have := (I8B.new (w1.alloc (.cells #[.slice pa m pc] 25)) op d ia ib rel ilo ihi ito 28).grew (grew_al (Below.refl _ _) (.cells #[.bool on, .slice sa sn sc, .int .i64 lo, .int .i64 hi] 33)); simpa only [World.size_alloc] using this)
  have HP2 := Lib.hid (HP1.out.grew gE1)
  have HU2 := Lib.hid (HU1.out.grew staysSum gE1)
  have G2 := Lib.hid (grew_tr G1.out gE1)
  clear hE1 gE1 HP1 HU1 G1
  obtain ⟨b5, hb5⟩ : ∃ b, w1.heap.size = b := ⟨_, rfl⟩
  obtain ⟨b7, hb7⟩ : ∃ b, w1.heap.size + 1 = b := ⟨_, rfl⟩
  simp only [hb7] at B7 ⊢
  simp only [hb5] at B5 ⊢
  clear hb5 hb7
  go_wp2_with fail
  refine (drawAbsIn a' n' c' ys _ (HR'.out.grew G2.out) HY.out hc').mono ?_
  rintro e w2 ⟨onA, aa, an, ac, la, ha, onB, ba, bn, bc, lb, hb, rfl, hsA, hsB, g2⟩
  have HSA := Lib.hid hsA
  have HSB := Lib.hid hsB
  have G3 := Lib.hid g2
  clear hsA hsB g2 HR HR' HX HY
  go_upto_region 5 with fail
  refine wp_letH ?_
  intro E hE
  have gE : Grew w2 E := by rw [hE]; exact grew_al (grew_al (Below.refl _ _) _) _
  have SA : Hid (S4B E w2.heap.size onA aa an ac la ha) := Lib.hid (by rw [hE]; exact (S4B.new w2 _ _ _ _ _ _ _).grew (grew_al (Below.refl _ _) _))
  have SB : Hid (S4B E (w2.heap.size + 1) onB ba bn bc lb hb) := Lib.hid (by rw [hE]; have := S4B.new (w2.alloc (.cells #[.bool onA, .slice aa an ac, .int .i64 la, .int .i64 ha] 33)) onB ba bn bc lb hb 33; simpa only [World.size_alloc] using this)
  have g3 := grew_tr G3.out gE
  have B5 := Lib.hid (B5.out.grew g3)
  have B7 := Lib.hid (B7.out.grew g3)
  have HP := Lib.hid (HP2.out.grew g3)
  have HU := Lib.hid (HU2.out.grew staysSum g3)
  have GE := Lib.hid (grew_tr G2.out g3)
  obtain ⟨xa, hxa⟩ := (HSA.out.grew gE).rd
  obtain ⟨xb, hxb⟩ := (HSB.out.grew gE).rd
  have hac := HSA.out.1
  have hbc := HSB.out.1
  have han : an ≤ 9223372036854775807 := by have := HSA.out.2.1; omega
  have hbn : bn ≤ 9223372036854775807 := by have := HSB.out.2.1; omega
  have RA := Lib.hid hxa
  have RB := Lib.hid hxb
  have hm : m ≤ 9223372036854775807 := by have := HP.out.2.1; omega
  have hun' : un ≤ 9223372036854775807 := by omega
  clear hE gE g3 HP2 HU2 G2 G3 HSA HSB hxa hxb
  obtain ⟨bA, hbA⟩ : ∃ b, w2.heap.size = b := ⟨_, rfl⟩
  obtain ⟨bB, hbB⟩ : ∃ b, w2.heap.size + 1 = b := ⟨_, rfl⟩
  simp only [hbB] at SB ⊢
  simp only [hbA] at SA ⊢
  clear hbA hbB
  -- what is called, in worlds that grew from E
  have HSum := Lib.hid (fun W (g : Grew E W) => specSumsOk pa ua m un pc uc ps ss W (HP.out.1.grew g) (HU.out.grew staysSum g) hm hun')
  have HIns := Lib.hid (fun W => specInsOk ⟨op, d, ia, ib, rel, ilo, ihi, ito⟩ m 10 W)
  have HIn := Lib.hid (fun W (g : Grew E W) => implAbsInG onA aa an ac xa la ha onB ba bn bc xb lb hb W (RA.out.grew staysItv g) (RB.out.grew staysItv g) han hbn hac hbc)
  have HSIn := Lib.hid (fun W (g : Grew E W) => specAbsInG onA aa an ac xa la ha onB ba bn bc xb lb hb W (RA.out.grew staysItv g) (RB.out.grew staysItv g) han hbn)
  have HOw := Lib.hid (fun W => owOkQ W)
  obtain ⟨q1, hq1⟩ : ∃ q, sumsOkB ps ss = q := ⟨_, rfl⟩
  obtain ⟨q2, hq2⟩ : ∃ q, insOkB ⟨op, d, ia, ib, rel, ilo, ihi, ito⟩ m 10 = q := ⟨_, rfl⟩
  obtain ⟨q3, hq3⟩ : ∃ q, inG onA xa la ha onB xb lb hb = q := ⟨_, rfl⟩
  have H3 := Lib.hid hq3
  rw [hq1] at HSum
  rw [hq2] at HIns
  rw [hq3] at HIn HSIn
  clear hq1 hq2 hq3
  obtain ⟨l5, p5⟩ := B5.out
  obtain ⟨l7, i0, i1, i2, i3, i4, i5, i6, i7⟩ := B7.out
  obtain ⟨lA, a0, a1, a2, a3⟩ := SA.out
  obtain ⟨lB, b0, b1, b2, b3⟩ := SB.out
  simp only at i0 i1 i2 i3 i4 i5 i6 i7
  by_cases hq : (q1 && q2 && q3) = true
  case neg =>
    cases q1
    · go_wp2_with ((with_reducible refine (HSum.out _ (gr)).mono ?_); rintro e w' ⟨rfl, g'⟩; (first | obtain ⟨y, rfl⟩ := ext_cold g' | obtain ⟨y, rfl⟩ := ext_col g' | obtain ⟨y, rfl⟩ := ext_of g'); clear g')
      first | refine wp_region_ext2 (by kernel_rfl) (by kernel_rfl) ?_ | refine wp_region_ext (by kernel_rfl) (by kernel_rfl) ?_
      repeat (go_big_quiet_step ((first | (with_reducible exact ext_grow ((HOw.out _).mono (fun _ _ h => ⟨h.1, h.2 ▸ Below.refl _ _⟩))) | (with_reducible exact ext_grow (HIn.out _ (gr))) | (with_reducible exact ext_grow (HSIn.out _ (gr))))))
      refine wpQuiet_nil ?_
      intro _ hw'
      obtain ⟨u, hw''⟩ := hw'
      subst hw''
      go_wp2
      go_ret
      exact ⟨rfl, grew_tr GE.out (gr)⟩
    cases q2
    · go_wp2_with (first | ((with_reducible refine (HSum.out _ (gr)).mono ?_); rintro e w' ⟨rfl, g'⟩; (first | obtain ⟨y, rfl⟩ := ext_cold g' | obtain ⟨y, rfl⟩ := ext_col g' | obtain ⟨y, rfl⟩ := ext_of g'); clear g') | ((with_reducible refine (HIns.out _).mono ?_); rintro e w' ⟨rfl, g'⟩; (first | obtain ⟨z, rfl⟩ := ext_cold g' | obtain ⟨z, rfl⟩ := ext_col g' | obtain ⟨z, rfl⟩ := ext_of g'); clear g'))
      first | refine wp_region_ext2 (by kernel_rfl) (by kernel_rfl) ?_ | refine wp_region_ext (by kernel_rfl) (by kernel_rfl) ?_
      repeat (go_big_quiet_step ((first | (with_reducible exact ext_grow ((HOw.out _).mono (fun _ _ h => ⟨h.1, h.2 ▸ Below.refl _ _⟩))) | (with_reducible exact ext_grow (HIn.out _ (gr))) | (with_reducible exact ext_grow (HSIn.out _ (gr))))))
      refine wpQuiet_nil ?_
      intro _ hw'
      obtain ⟨u, hw''⟩ := hw'
      subst hw''
      go_wp2
      go_ret
      exact ⟨rfl, grew_tr GE.out (gr)⟩
    cases q3
    · go_wp2_with (first | ((with_reducible refine (HSum.out _ (gr)).mono ?_); rintro e w' ⟨rfl, g'⟩; (first | obtain ⟨y, rfl⟩ := ext_cold g' | obtain ⟨y, rfl⟩ := ext_col g' | obtain ⟨y, rfl⟩ := ext_of g'); clear g') | ((with_reducible refine (HIns.out _).mono ?_); rintro e w' ⟨rfl, g'⟩; (first | obtain ⟨z, rfl⟩ := ext_cold g' | obtain ⟨z, rfl⟩ := ext_col g' | obtain ⟨z, rfl⟩ := ext_of g'); clear g') | ((with_reducible refine (HIn.out _ (gr)).mono ?_); rintro e w' ⟨rfl, g'⟩; (first | obtain ⟨z, rfl⟩ := ext_cold g' | obtain ⟨z, rfl⟩ := ext_col g' | obtain ⟨z, rfl⟩ := ext_of g'); clear g'))
      first | refine wp_region_ext2 (by kernel_rfl) (by kernel_rfl) ?_ | refine wp_region_ext (by kernel_rfl) (by kernel_rfl) ?_
      repeat (go_big_quiet_step ((first | (with_reducible exact ext_grow ((HOw.out _).mono (fun _ _ h => ⟨h.1, h.2 ▸ Below.refl _ _⟩))) | (with_reducible exact ext_grow (HIn.out _ (gr))) | (with_reducible exact ext_grow (HSIn.out _ (gr))))))
      refine wpQuiet_nil ?_
      intro _ hw'
      obtain ⟨u, hw''⟩ := hw'
      subst hw''
      go_wp2
      go_ret
      exact ⟨rfl, grew_tr GE.out (gr)⟩
    · exact absurd rfl hq
  obtain ⟨rfl, rfl, rfl⟩ : q1 = true ∧ q2 = true ∧ q3 = true := by simpa [Bool.and_eq_true, and_assoc] using hq
  clear hq
  have HStA := Lib.hid (fun W (g : Grew E W) => implAbsStep pa m pc ps ua un uc ss ⟨op, d, ia, ib, rel, ilo, ihi, ito⟩ k0 onA aa an ac xa la ha W (HP.out.1.grew g) hm (HU.out.grew staysSum g) hun' (RA.out.grew staysItv g) han hac)
  have HStB := Lib.hid (fun W (g : Grew E W) => implAbsStep pa m pc ps ua un uc ss ⟨op, d, ia, ib, rel, ilo, ihi, ito⟩ k0 onB ba bn bc xb lb hb W (HP.out.1.grew g) hm (HU.out.grew staysSum g) hun' (RB.out.grew staysItv g) hbn hbc)
  have HFA := Lib.hid (fun W (g : Grew E W) => implAbsFails pa m pc ps ⟨op, d, ia, ib, rel, ilo, ihi, ito⟩ onA aa an ac xa la ha W (HP.out.1.grew g) hm (RA.out.grew staysItv g) han hac)
  have HFB := Lib.hid (fun W (g : Grew E W) => implAbsFails pa m pc ps ⟨op, d, ia, ib, rel, ilo, ihi, ito⟩ onB ba bn bc xb lb hb W (HP.out.1.grew g) hm (RB.out.grew staysItv g) hbn hbc)
  have HMA := Lib.hid (fun e (he : e ∈ stepL ps ss ⟨op, d, ia, ib, rel, ilo, ihi, ito⟩ k0 onA xa la ha) => mono_any (pc := k0) H3.out he)
  have H4A := Lib.hid (stepL_four (ps := ps) (ss := ss) (i := ⟨op, d, ia, ib, rel, ilo, ihi, ito⟩) (pc := k0) (on := onA) (xs := xa) (lo := la) (hi := ha))
  have H4B := Lib.hid (stepL_four (ps := ps) (ss := ss) (i := ⟨op, d, ia, ib, rel, ilo, ihi, ito⟩) (pc := k0) (on := onB) (xs := xb) (lo := lb) (hi := hb))
  have hlA := stepL_two ps ss ⟨op, d, ia, ib, rel, ilo, ihi, ito⟩ k0 onA xa la ha
  have hlB := stepL_two ps ss ⟨op, d, ia, ib, rel, ilo, ihi, ito⟩ k0 onB xb lb hb
  obtain ⟨LA, hLA⟩ : ∃ L, stepL ps ss ⟨op, d, ia, ib, rel, ilo, ihi, ito⟩ k0 onA xa la ha = L := ⟨_, rfl⟩
  obtain ⟨LB, hLB⟩ : ∃ L, stepL ps ss ⟨op, d, ia, ib, rel, ilo, ihi, ito⟩ k0 onB xb lb hb = L := ⟨_, rfl⟩
  rw [hLA] at HStA HMA H4A hlA
  rw [hLB] at HStB HMA H4B hlB
  clear hLA hLB
  obtain ⟨nA, hnA⟩ : ∃ n, LA.length = n := ⟨_, rfl⟩
  obtain ⟨nB, hnB⟩ : ∃ n, LB.length = n := ⟨_, rfl⟩
  have HStA' : Hid (∀ W, Grew E W → Calls Tryz.prog 12 #[.agg #[.slice pa m pc], .slice ua un uc, .agg #[.int .i64 op, .int .i64 d, .int .i64 ia, .int .i64 ib, .int .i64 rel, .int .i64 ilo, .int .i64 ihi, .int .i64 ito], .int .i64 k0, .agg #[.bool onA, .slice aa an ac, .int .i64 la, .int .i64 ha]] W fun e w' => ∃ a c, e = .returned (.slice a nA c) ∧ RdL EEh 5 w' a nA LA ∧ Grew W w') := Lib.hid (fun W g => (HStA.out W g).mono (fun e w' ⟨a, c, ms, h1, h2, h3, _, h5⟩ => ⟨a, c, by rw [h1, hnA], by rw [← hnA]; exact h2.rdh h3 H4A.out, h5⟩))
  have HStB' : Hid (∀ W, Grew E W → Calls Tryz.prog 12 #[.agg #[.slice pa m pc], .slice ua un uc, .agg #[.int .i64 op, .int .i64 d, .int .i64 ia, .int .i64 ib, .int .i64 rel, .int .i64 ilo, .int .i64 ihi, .int .i64 ito], .int .i64 k0, .agg #[.bool onB, .slice ba bn bc, .int .i64 lb, .int .i64 hb]] W fun e w' => ∃ a c, e = .returned (.slice a nB c) ∧ RdL EEh 5 w' a nB LB ∧ Grew W w') := Lib.hid (fun W g => (HStB.out W g).mono (fun e w' ⟨a, c, ms, h1, h2, h3, _, h5⟩ => ⟨a, c, by rw [h1, hnB], by rw [← hnB]; exact h2.rdh h3 H4B.out, h5⟩))
  rw [hnA] at hlA
  rw [hnB] at hlB
  have HNA := Lib.hid hnA
  have HNB := Lib.hid hnB
  clear HStA HStB hnA hnB
  go_wp2_with fail
  refine (HSum.out _ (gr)).mono ?_
  rintro e w3 ⟨rfl, g3⟩
  have G3 := Lib.hid g3
  obtain ⟨l5, p5⟩ := B5.out.grew G3.out
  obtain ⟨l7, i0, i1, i2, i3, i4, i5, i6, i7⟩ := B7.out.grew G3.out
  obtain ⟨lA, a0, a1, a2, a3⟩ := SA.out.grew G3.out
  obtain ⟨lB, b0, b1, b2, b3⟩ := SB.out.grew G3.out
  simp only at i0 i1 i2 i3 i4 i5 i6 i7
  go_wp2_with fail
  refine (HIns.out _).mono ?_
  rintro e w4 ⟨rfl, g4⟩
  have G4 := Lib.hid (grew_tr G3.out g4)
  clear g3 g4 G3
  obtain ⟨l5, p5⟩ := B5.out.grew G4.out
  obtain ⟨l7, i0, i1, i2, i3, i4, i5, i6, i7⟩ := B7.out.grew G4.out
  obtain ⟨lA, a0, a1, a2, a3⟩ := SA.out.grew G4.out
  obtain ⟨lB, b0, b1, b2, b3⟩ := SB.out.grew G4.out
  simp only at i0 i1 i2 i3 i4 i5 i6 i7
  go_wp2_with fail
  refine (HIn.out _ G4.out).mono ?_
  rintro e w5 ⟨rfl, g5⟩
  have G5 := Lib.hid (grew_tr G4.out g5)
  clear g5 G4
  obtain ⟨l5, p5⟩ := B5.out.grew G5.out
  obtain ⟨l7, i0, i1, i2, i3, i4, i5, i6, i7⟩ := B7.out.grew G5.out
  obtain ⟨lA, a0, a1, a2, a3⟩ := SA.out.grew G5.out
  obtain ⟨lB, b0, b1, b2, b3⟩ := SB.out.grew G5.out
  simp only at i0 i1 i2 i3 i4 i5 i6 i7
  go_wp2_with fail
  refine (HStA'.out _ G5.out).mono ?_
  rintro e w6 ⟨ra, rc, rfl, hra, g6⟩
  have G6 := Lib.hid (grew_tr G5.out g6)
  have R6 := Lib.hid hra
  clear g6 hra G5
  obtain ⟨l5, p5⟩ := B5.out.grew G6.out
  obtain ⟨l7, i0, i1, i2, i3, i4, i5, i6, i7⟩ := B7.out.grew G6.out
  obtain ⟨lA, a0, a1, a2, a3⟩ := SA.out.grew G6.out
  obtain ⟨lB, b0, b1, b2, b3⟩ := SB.out.grew G6.out
  simp only at i0 i1 i2 i3 i4 i5 i6 i7
  go_wp2_with fail
  refine (HStB'.out _ G6.out).mono ?_
  rintro e w7 ⟨rb, rd, rfl, hrb, g7⟩
  have G7 := Lib.hid (grew_tr G6.out g7)
  have R7 := Lib.hid (RdL.grew staysEh R6.out g7)
  have S7 := Lib.hid hrb
  clear g7 hrb G6 R6 l5 p5 l7 i0 i1 i2 i3 i4 i5 i6 i7 lA a0 a1 a2 a3 lB b0 b1 b2 b3
  go_wp2
  go_loopw [14] (fun i wr => ∃ k : Nat, k ≤ nA ∧ i = .int .i64 k ∧ Grew w7 wr) (fun i _ => nA - (intOf i).toNat)
  case atStart => exact ⟨0, Nat.zero_le _, rfl, Below.refl _ _⟩
  case round =>
    obtain ⟨k, hk, rfl, hg⟩ := hrel
    have HG := Lib.hid hg
    clear hg
    by_cases hlt : k < nA
    · obtain ⟨xo, xf, ⟨eto, exs, ⟨ecl, ech⟩⟩, era, erc, rfl, hek, c0, c1, c2, c3, c4, cl, hrr, hrc⟩ := rdEh_at (R7.out.grew staysEh HG.out) hlt
      have HE := Lib.hid (HMA.out _ (List.mem_of_getElem? hek))
      have HRR := Lib.hid hrr
      have hki : (k : Int) < (nA : Int) := by omega
      simp only at c0 c3 c4
      obtain ⟨f, hf⟩ : ∃ f : Ed → Bool, f = fun d => decide (eto = d.to) && inG true exs ecl ech true d.xs d.c.lo d.c.hi := ⟨_, rfl⟩
      have HFF := Lib.hid hf
      have HEf : Hid (LB.any f = true) := Lib.hid (by rw [hf]; exact HE.out)
      obtain ⟨wo, hwo⟩ : ∃ wo : World, wo = wr := ⟨_, rfl⟩
      rw [← hwo] at HG HRR c0 c1 c2 c3 c4 cl ⊢
      have HC : Hid (wo.cell? ⟨xo, xf + k * 5, none⟩ = some (.int .i64 eto) ∧ wo.cell? ⟨xo, xf + k * 5 + 1, none⟩ = some (.bool true) ∧ wo.cell? ⟨xo, xf + k * 5 + 2, none⟩ = some (.slice era 4 erc) ∧ wo.cell? ⟨xo, xf + k * 5 + 3, none⟩ = some (.int .i64 ecl) ∧ wo.cell? ⟨xo, xf + k * 5 + 4, none⟩ = some (.int .i64 ech)) := Lib.hid ⟨c0, c1, c2, c3, c4⟩
      clear hek hf hrr hwo c0 c1 c2 c3 c4 HE
      go_wp2
      go_loopw [15, 16] (fun v i wr => ∃ j : Nat, j ≤ nB ∧ i = .int .i64 j ∧ v = .bool ((LB.take j).any f) ∧ Grew wo wr) (fun _ i _ => nB - (intOf i).toNat)
      case atStart => exact ⟨0, Nat.zero_le _, rfl, by simp, Below.refl _ _⟩
      case round =>
        obtain ⟨j, hj, rfl, rfl, hg2⟩ := hrel
        have HG2 := Lib.hid hg2
        clear hg2
        by_cases hltj : j < nB
        · obtain ⟨yo, yf, ⟨dto, dxs, ⟨dcl, dch⟩⟩, dra, drc, rfl, hdk, d0, d1, d2, d3, d4, dl, hdr, hdc⟩ := rdEh_at ((S7.out.grew staysEh HG.out).grew staysEh HG2.out) hltj
          have hji : (j : Int) < (nB : Int) := by omega
          simp only at d0 d3 d4
          have c0 := (HG2.out.cell (p := ⟨xo, xf + k * 5, none⟩) cl).trans HC.out.1
          have c1 := (HG2.out.cell (p := ⟨xo, xf + k * 5 + 1, none⟩) cl).trans HC.out.2.1
          have c2 := (HG2.out.cell (p := ⟨xo, xf + k * 5 + 2, none⟩) cl).trans HC.out.2.2.1
          have c3 := (HG2.out.cell (p := ⟨xo, xf + k * 5 + 3, none⟩) cl).trans HC.out.2.2.2.1
          have c4 := (HG2.out.cell (p := ⟨xo, xf + k * 5 + 4, none⟩) cl).trans HC.out.2.2.2.2
          have cl2 : xo < wr.heap.size := Nat.lt_of_lt_of_le cl HG2.out.size
          have HTK := Lib.hid (any_take (f := f) hdk)
          have HAI := Lib.hid (fun W (g : Grew wr W) => implAbsInG true era 4 erc exs ecl ech true dra 4 drc dxs dcl dch W ((HRR.out.grew staysItv HG2.out).grew staysItv g) (hdr.grew staysItv g) (by omega) (by omega) hrc hdc)
          have HFV : Hid (f ⟨dto, dxs, ⟨dcl, dch⟩⟩ = (decide (eto = dto) && inG true exs ecl ech true dxs dcl dch)) := Lib.hid (by rw [HFF.out])
          obtain ⟨G, hG⟩ : ∃ G, inG true exs ecl ech true dxs dcl dch = G := ⟨_, rfl⟩
          rw [hG] at HAI HFV
          obtain ⟨B, hB⟩ : ∃ B, (LB.take j).any f = B := ⟨_, rfl⟩
          rw [hB] at HTK ⊢
          clear hdk hdr hG hB
          by_cases hto : eto = dto
          · have HV : Hid ((LB.take (j + 1)).any f = (B || G)) := Lib.hid (by rw [HTK.out, HFV.out, decide_eq_true hto, Bool.true_and])
            have ht1 : (eto == dto) = true := by simp [hto]
            have HT := Lib.hid hto
            clear hto HTK HFV
            cases B
            · go_wp2_with fail
              first | refine wp_region_ext2 (by kernel_rfl) (by kernel_rfl) ?_ | refine wp_region_ext (by kernel_rfl) (by kernel_rfl) ?_
              repeat (go_big_quiet_step ((first | (with_reducible exact ext_grow (HAI.out _ (gr))))))
              refine wpQuiet_nil ?_
              intro _ hw'
              obtain ⟨u, hw''⟩ := hw'
              subst hw''
              have HG3 := Lib.hid (show Grew wo (ext wr u) from grew_tr HG2.out (gr))
              clear c0 c1 c2 c3 c4 d0 d1 d2 d3 d4 ht1
              go_wp2
              go_roundw
              case rel => exact ⟨j + 1, by omega, by go_num, by rw [HV.out]; simp, HG3.out⟩
              case measure => simp [intOf]; omega
            · go_wp2_with fail
              first | refine wp_region_ext2 (by kernel_rfl) (by kernel_rfl) ?_ | refine wp_region_ext (by kernel_rfl) (by kernel_rfl) ?_
              repeat (go_big_quiet_step ((first | fail)))
              refine wpQuiet_nil ?_
              intro _ hw'
              obtain ⟨u, hw''⟩ := hw'
              subst hw''
              have HG3 := Lib.hid (show Grew wo (ext wr u) from grew_tr HG2.out (gr))
              clear c0 c1 c2 c3 c4 d0 d1 d2 d3 d4 ht1
              go_wp2
              go_roundw
              case rel => exact ⟨j + 1, by omega, by go_num, by rw [HV.out]; simp, HG3.out⟩
              case measure => simp [intOf]; omega
          · have HV : Hid ((LB.take (j + 1)).any f = B) := Lib.hid (by rw [HTK.out, HFV.out, decide_eq_false hto, Bool.false_and, Bool.or_false])
            have ht1 : (eto == dto) = false := by simp [hto]
            have HT := Lib.hid hto
            clear hto HTK HFV
            cases B
            all_goals
              go_wp2_with fail
              first | refine wp_region_ext2 (by kernel_rfl) (by kernel_rfl) ?_ | refine wp_region_ext (by kernel_rfl) (by kernel_rfl) ?_
              repeat (go_big_quiet_step ((first | fail)))
              refine wpQuiet_nil ?_
              intro _ hw'
              obtain ⟨u, hw''⟩ := hw'
              subst hw''
              have HG3 := Lib.hid (show Grew wo (ext wr u) from grew_tr HG2.out (gr))
              clear c0 c1 c2 c3 c4 d0 d1 d2 d3 d4 ht1
              go_wp2
              go_roundw
              case rel => exact ⟨j + 1, by omega, by go_num, by rw [HV.out], HG3.out⟩
              case measure => simp [intOf]; omega
        · obtain rfl : j = nB := by omega
          have HV : Hid ((LB.take j).any f = true) := Lib.hid (by rw [List.take_of_length_le (by rw [HNB.out]; omega)]; exact HEf.out)
          rw [HV.out]
          go_wp2
          go_roundw
          case rel => exact ⟨k + 1, by omega, by go_num, grew_tr HG.out HG2.out⟩
          case measure => simp [intOf]; omega
    · obtain rfl : k = nA := by omega
      have G9 := Lib.hid (grew_tr G7.out HG.out)
      obtain ⟨fa, hfa⟩ : ∃ q, absFailsB ps ⟨op, d, ia, ib, rel, ilo, ihi, ito⟩ onA xa la ha = q := ⟨_, rfl⟩
      obtain ⟨fb, hfb⟩ : ∃ q, absFailsB ps ⟨op, d, ia, ib, rel, ilo, ihi, ito⟩ onB xb lb hb = q := ⟨_, rfl⟩
      have HFF : Hid (fa = true → fb = true) := Lib.hid (fun h => hfb ▸ mono_fails H3.out (hfa.trans h))
      rw [hfa] at HFA
      rw [hfb] at HFB
      clear hfa hfb
      obtain ⟨l5, p5⟩ := B5.out.grew G9.out
      obtain ⟨l7, i0, i1, i2, i3, i4, i5, i6, i7⟩ := B7.out.grew G9.out
      obtain ⟨lA, a0, a1, a2, a3⟩ := SA.out.grew G9.out
      obtain ⟨lB, b0, b1, b2, b3⟩ := SB.out.grew G9.out
      simp only at i0 i1 i2 i3 i4 i5 i6 i7
      have HFA9 := Lib.hid (fun W (g : Grew wr W) => HFA.out W (grew_tr G9.out g))
      have HFB9 := Lib.hid (fun W (g : Grew wr W) => HFB.out W (grew_tr G9.out g))
      have gfin := grew_tr GE.out G9.out
      cases fa
      · go_wp2_with ((with_reducible refine (HFA9.out _ (gr)).mono ?_); rintro e w' ⟨rfl, g'⟩; (first | obtain ⟨y, rfl⟩ := ext_cold g' | obtain ⟨y, rfl⟩ := ext_col g' | obtain ⟨y, rfl⟩ := ext_of g'); clear g')
        go_ret
        exact ⟨rfl, grew_tr gfin (gr)⟩
      · obtain rfl := HFF.out rfl
        go_wp2_with (first | ((with_reducible refine (HFA9.out _ (gr)).mono ?_); rintro e w' ⟨rfl, g'⟩; (first | obtain ⟨y, rfl⟩ := ext_cold g' | obtain ⟨y, rfl⟩ := ext_col g' | obtain ⟨y, rfl⟩ := ext_of g'); clear g') | ((with_reducible refine (HFB9.out _ (gr)).mono ?_); rintro e w' ⟨rfl, g'⟩; (first | obtain ⟨z, rfl⟩ := ext_cold g' | obtain ⟨z, rfl⟩ := ext_col g' | obtain ⟨z, rfl⟩ := ext_of g'); clear g'))
        go_ret
        exact ⟨rfl, grew_tr gfin (gr)⟩
end Go.Proofs.YtpmfpgbpndobpaaGreat
