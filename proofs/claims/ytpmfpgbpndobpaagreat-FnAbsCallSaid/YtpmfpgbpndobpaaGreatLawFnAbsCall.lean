/- The walk of the law FnAbsCall. No condition. -/
import Derived.Test.YtpmfpgbpndobpaaGreatDrAS
import Derived.Test.YtpmfpgbpndobpaaGreatLw
import Derived.Test.YtpmfpgbpndobpaaGreatCallP
import Derived.Test.YtpmfpgbpndobpaaGreatDrIn
import Derived.Test.YtpmfpgbpndobpaaGreatOwQ
namespace Go.Proofs.YtpmfpgbpndobpaaGreat
open Go.RowKit
set_option linter.unusedVariables false
set_option linter.unusedSimpArgs false
attribute [local go_sem] ext_cell ext_frozen ext_lt ext_le ext_le1 lt_s2 lt_s3 lt_s4 lt_s5 lt_s6 ext_lt1 ext_lt2 ext_lt3

theorem varB_nat {x : Int} (h : varB x = true) : ∃ j : Nat, x = j ∧ j < 4 := by
  simp only [varB, Bool.and_eq_true, decide_eq_true_eq] at h
  exact ⟨x.toNat, by omega, by omega⟩
theorem own_bC {W : World} {B c : Nat} {e : TypeId} {a : Option Addr} {xs : List Value} (h : W.ownsRow B e 1 (.slice a 4 c) 4 xs) : ∃ t cur, a = some ⟨t, 0, none⟩ ∧ B ≤ t ∧ 4 ≤ c ∧ Blk W t e cur := by
  rcases h.2 with ⟨_, e2⟩ | ⟨g', cap', cur, e2, h3, h4, h5, _⟩
  · omega
  · simp only [Value.slice.injEq] at e2
    obtain ⟨rfl, _, rfl⟩ := e2
    exact ⟨g', cur, rfl, h3, h5, h4⟩
theorem rd_setIC {w : World} {b off n j : Nat} {vs : List Int} (h : Rd w (some ⟨b, off, none⟩) n 1 (ints .i64 vs)) (hj : j < n) (z : Int) : Rd (w.setCell ⟨b, off + j, none⟩ (.int .i64 z)) (some ⟨b, off, none⟩) n 1 (ints .i64 (vs.set j z)) := by
  have hl := h.len1
  obtain ⟨b', off', x, e, hx, hc⟩ := h.at1 hj
  cases e
  have h2 : ∀ i u, (ints .i64 vs)[i]? = some u → w.cell? ⟨b, off + i, none⟩ = some u := by
    rcases h.2 with h3 | ⟨b', off', e, h3⟩
    · intro i u hu
      rw [h3] at hu
      simp at hu
    · cases e
      exact h3
  refine ⟨by simp [ints, hl], .inr ⟨b, off, rfl, fun i u hu => ?_⟩⟩
  simp only [ints, List.getElem?_map, Option.map_eq_some_iff] at hu
  obtain ⟨y, hy, rfl⟩ := hu
  by_cases e : i = j
  · subst e
    rw [List.getElem?_set_self (by omega)] at hy
    cases hy
    exact World.cell?_setCell_same _ _ _ hc
  · rw [List.getElem?_set_ne (fun h => e h.symm)] at hy
    rw [World.cell?_setCell_other _ _ _ _ (fun h => by have := congrArg Addr.off h; simp only at this; omega)]
    exact h2 i _ (by simp [ints, hy])
set_option maxRecDepth 100000 in
set_option maxHeartbeats 16000000 in
theorem lawFnAbsCall (a : Option Addr) (n c : Nat) (xs : List Int) (a' : Option Addr) (n' c' : Nat) (ys : List Int) (w : World) (hr : Rd w a n 1 (ints .u8 xs)) (hx : Bs xs) (hc : n ≤ c ∧ c ≤ maxLen) (hr' : Rd w a' n' 1 (ints .u8 ys)) (hy : Bs ys) (hc' : n' ≤ c' ∧ c' ≤ maxLen) :
    Calls Tryz.prog 3 #[.slice a n c, .slice a' n' c'] w fun e w' => e = .returned (.bool true) ∧ Grew w w' := by
  have HR := Lib.hid hr; clear hr
  have HR' := Lib.hid hr'; clear hr'
  have HX := Lib.hid hx; clear hx
  have HY := Lib.hid hy; clear hy
  by_cases h1 : (n : Int) > 1048576
  · go_enter Tryz.func3, Tryz.ntmps3
    go_wp2
    go_ret
    exact ⟨rfl, Below.refl _ _⟩
  by_cases h2 : (n' : Int) > 1048576
  · go_enter Tryz.func3, Tryz.ntmps3
    go_wp2
    go_ret
    exact ⟨rfl, Below.refl _ _⟩
  go_enter Tryz.func3, Tryz.ntmps3
  go_wp2_with fail
  refine (drawAbsStep a n c xs w HR.out HX.out hc).mono ?_
  rintro e w1 ⟨pa, m, pc, ps, ua, un, uc, ss, ⟨op, d, ia, ib, rel, ilo, ihi, ito⟩, k0, on, sa, sn, sc, lo, hi, rfl, hp, hu, hun, hk0, hs, g1⟩
  have HP1 := Lib.hid hp
  have HU1 := Lib.hid hu
  have G1 := Lib.hid g1
  have HS1 := Lib.hid hs
  clear hp hu hs g1
  go_upto_region 4 with fail
  refine wp_letH ?_
  intro E1 hE1
  have gE1 : Grew w1 E1 := by rw [hE1]; exact grew_al (grew_al (grew_al (Below.refl _ _) _) _) _
  have B5 : Hid (P1B E1 w1.heap.size pa m pc) := Lib.hid (by rw [hE1]; exact (P1B.new w1 _ _ _ _).grew (grew_al (grew_al (Below.refl _ _) _) _))
  have B7 : Hid (I8B E1 (w1.heap.size + 1) ⟨op, d, ia, ib, rel, ilo, ihi, ito⟩) := Lib.hid (by rw [hE1]; have := (I8B.new (w1.alloc (.cells #[.slice pa m pc] 25)) op d ia ib rel ilo ihi ito 28).grew (grew_al (Below.refl _ _) (.cells #[.bool on, .slice sa sn sc, .int .i64 lo, .int .i64 hi] 33)); simpa only [World.size_alloc] using this)
  have S9 : Hid (S4B E1 (w1.heap.size + 1 + 1) on sa sn sc lo hi) := Lib.hid (by rw [hE1]; have := S4B.new ((w1.alloc (.cells #[.slice pa m pc] 25)).alloc (.cells #[.int .i64 op, .int .i64 d, .int .i64 ia, .int .i64 ib, .int .i64 rel, .int .i64 ilo, .int .i64 ihi, .int .i64 ito] 28)) on sa sn sc lo hi 33; simpa only [World.size_alloc] using this)
  have HP2 := Lib.hid (HP1.out.grew gE1)
  have HU2 := Lib.hid (HU1.out.grew staysSum gE1)
  have HS2 := Lib.hid (HS1.out.grew gE1)
  have G2 := Lib.hid (grew_tr G1.out gE1)
  clear hE1 gE1 HP1 HU1 G1 HS1
  obtain ⟨b5, hb5⟩ : ∃ b, w1.heap.size = b := ⟨_, rfl⟩
  obtain ⟨b7, hb7⟩ : ∃ b, w1.heap.size + 1 = b := ⟨_, rfl⟩
  obtain ⟨b9, hb9⟩ : ∃ b, w1.heap.size + 1 + 1 = b := ⟨_, rfl⟩
  simp only [hb9] at S9 ⊢
  simp only [hb7] at B7 ⊢
  simp only [hb5] at B5 ⊢
  clear hb5 hb7 hb9
  go_wp2_with fail
  refine (DrawInputs a' n' c' ys _ (HR'.out.grew G2.out) HY.out hc').mono ?_
  rintro e E ⟨nn, lv, zs, rfl, hnn, hzs, hol, gE⟩
  obtain ⟨la, lc, rfl⟩ := owns_slice hol
  have RL := Lib.hid (owns_rd hol)
  have HZS := Lib.hid hzs
  have HNN := Lib.hid hnn
  have B5 := Lib.hid (B5.out.grew gE)
  have B7 := Lib.hid (B7.out.grew gE)
  have S9 := Lib.hid (S9.out.grew gE)
  have HP := Lib.hid (HP2.out.grew gE)
  have HU := Lib.hid (HU2.out.grew staysSum gE)
  have GE := Lib.hid (grew_tr G2.out gE)
  obtain ⟨xa, hxa⟩ := (HS2.out.grew gE).rd
  have hsc := HS2.out.1
  have hsn : sn ≤ 9223372036854775807 := by have := HS2.out.2.1; omega
  have RS := Lib.hid hxa
  have hm : m ≤ 9223372036854775807 := by have := HP.out.2.1; omega
  have hm5 : m ≤ 5 := HP.out.2.1
  have hun' : un ≤ 9223372036854775807 := by omega
  clear gE HP2 HU2 HS2 G2 hxa hol hzs hnn HR HR' HX HY
  have HSum := Lib.hid (fun W (g : Grew E W) => specSumsOk pa ua m un pc uc ps ss W (HP.out.1.grew g) (HU.out.grew staysSum g) hm hun')
  have HOk := Lib.hid (fun W (g : Grew E W) => specAbsOk on sa sn sc xa lo hi W (RS.out.grew staysItv g) hsn)
  have HOw := Lib.hid (fun W => owOkQ W)
  obtain ⟨q1, hq1⟩ : ∃ q, sumsOkB ps ss = q := ⟨_, rfl⟩
  obtain ⟨q2, hq2⟩ : ∃ q, stOkB on xa lo hi = q := ⟨_, rfl⟩
  have H1 := Lib.hid hq1
  have H2 := Lib.hid hq2
  rw [hq1] at HSum
  rw [hq2] at HOk
  clear hq1 hq2
  have gfin := GE.out
  obtain ⟨l5, p5⟩ := B5.out
  obtain ⟨l7, i0, i1, i2, i3, i4, i5, i6, i7⟩ := B7.out
  obtain ⟨l9, s0, s1, s2, s3⟩ := S9.out
  simp only at i0 i1 i2 i3 i4 i5 i6 i7
  by_cases hq : (q1 && q2 && on && decide (0 ≤ k0) && decide (k0 < 10) && varB d && varB ia) = true
  case neg =>
    have HQ := Lib.hid hq
    clear hq
    have tac : True := trivial
    cases q1
    · go_wp2_with (first | ((with_reducible refine (HSum.out _ (gr)).mono ?_); rintro e w' ⟨rfl, g'⟩; (first | obtain ⟨y, rfl⟩ := ext_cold g' | obtain ⟨y, rfl⟩ := ext_col g' | obtain ⟨y, rfl⟩ := ext_of g'); clear g') | ((with_reducible refine (HOw.out _).mono ?_); rintro e w' ⟨rfl, rfl⟩))
      go_ret
      exact ⟨rfl, grew_tr gfin (gr)⟩
    cases q2
    · go_wp2_with (first | ((with_reducible refine (HSum.out _ (gr)).mono ?_); rintro e w' ⟨rfl, g'⟩; (first | obtain ⟨y, rfl⟩ := ext_cold g' | obtain ⟨y, rfl⟩ := ext_col g' | obtain ⟨y, rfl⟩ := ext_of g'); clear g') | ((with_reducible refine (HOk.out _ (gr)).mono ?_); rintro e w' ⟨rfl, g'⟩; (first | obtain ⟨z, rfl⟩ := ext_cold g' | obtain ⟨z, rfl⟩ := ext_col g' | obtain ⟨z, rfl⟩ := ext_of g'); clear g') | ((with_reducible refine (HOw.out _).mono ?_); rintro e w' ⟨rfl, rfl⟩))
      go_ret
      exact ⟨rfl, grew_tr gfin (gr)⟩
    cases on
    · go_wp2_with (first | ((with_reducible refine (HSum.out _ (gr)).mono ?_); rintro e w' ⟨rfl, g'⟩; (first | obtain ⟨y, rfl⟩ := ext_cold g' | obtain ⟨y, rfl⟩ := ext_col g' | obtain ⟨y, rfl⟩ := ext_of g'); clear g') | ((with_reducible refine (HOk.out _ (gr)).mono ?_); rintro e w' ⟨rfl, g'⟩; (first | obtain ⟨z, rfl⟩ := ext_cold g' | obtain ⟨z, rfl⟩ := ext_col g' | obtain ⟨z, rfl⟩ := ext_of g'); clear g') | ((with_reducible refine (HOw.out _).mono ?_); rintro e w' ⟨rfl, rfl⟩))
      go_ret
      exact ⟨rfl, grew_tr gfin (gr)⟩
    have hrest : k0 < 0 ∨ 10 ≤ k0 ∨ d < 0 ∨ 4 ≤ d ∨ ia < 0 ∨ 4 ≤ ia := by
      have := HQ.out
      simp only [varB, Bool.and_eq_true, decide_eq_true_eq, Bool.true_and, true_and] at this
      omega
    by_cases r1 : k0 < 0
    · go_wp2_with (first | ((with_reducible refine (HSum.out _ (gr)).mono ?_); rintro e w' ⟨rfl, g'⟩; (first | obtain ⟨y, rfl⟩ := ext_cold g' | obtain ⟨y, rfl⟩ := ext_col g' | obtain ⟨y, rfl⟩ := ext_of g'); clear g') | ((with_reducible refine (HOk.out _ (gr)).mono ?_); rintro e w' ⟨rfl, g'⟩; (first | obtain ⟨z, rfl⟩ := ext_cold g' | obtain ⟨z, rfl⟩ := ext_col g' | obtain ⟨z, rfl⟩ := ext_of g'); clear g') | ((with_reducible refine (HOw.out _).mono ?_); rintro e w' ⟨rfl, rfl⟩))
      go_ret
      exact ⟨rfl, grew_tr gfin (gr)⟩
    by_cases r2 : 10 ≤ k0
    · go_wp2_with (first | ((with_reducible refine (HSum.out _ (gr)).mono ?_); rintro e w' ⟨rfl, g'⟩; (first | obtain ⟨y, rfl⟩ := ext_cold g' | obtain ⟨y, rfl⟩ := ext_col g' | obtain ⟨y, rfl⟩ := ext_of g'); clear g') | ((with_reducible refine (HOk.out _ (gr)).mono ?_); rintro e w' ⟨rfl, g'⟩; (first | obtain ⟨z, rfl⟩ := ext_cold g' | obtain ⟨z, rfl⟩ := ext_col g' | obtain ⟨z, rfl⟩ := ext_of g'); clear g') | ((with_reducible refine (HOw.out _).mono ?_); rintro e w' ⟨rfl, rfl⟩))
      go_ret
      exact ⟨rfl, grew_tr gfin (gr)⟩
    by_cases r3 : d < 0
    · go_wp2_with (first | ((with_reducible refine (HSum.out _ (gr)).mono ?_); rintro e w' ⟨rfl, g'⟩; (first | obtain ⟨y, rfl⟩ := ext_cold g' | obtain ⟨y, rfl⟩ := ext_col g' | obtain ⟨y, rfl⟩ := ext_of g'); clear g') | ((with_reducible refine (HOk.out _ (gr)).mono ?_); rintro e w' ⟨rfl, g'⟩; (first | obtain ⟨z, rfl⟩ := ext_cold g' | obtain ⟨z, rfl⟩ := ext_col g' | obtain ⟨z, rfl⟩ := ext_of g'); clear g') | ((with_reducible refine (HOw.out _).mono ?_); rintro e w' ⟨rfl, rfl⟩))
      go_ret
      exact ⟨rfl, grew_tr gfin (gr)⟩
    by_cases r4 : 4 ≤ d
    · go_wp2_with (first | ((with_reducible refine (HSum.out _ (gr)).mono ?_); rintro e w' ⟨rfl, g'⟩; (first | obtain ⟨y, rfl⟩ := ext_cold g' | obtain ⟨y, rfl⟩ := ext_col g' | obtain ⟨y, rfl⟩ := ext_of g'); clear g') | ((with_reducible refine (HOk.out _ (gr)).mono ?_); rintro e w' ⟨rfl, g'⟩; (first | obtain ⟨z, rfl⟩ := ext_cold g' | obtain ⟨z, rfl⟩ := ext_col g' | obtain ⟨z, rfl⟩ := ext_of g'); clear g') | ((with_reducible refine (HOw.out _).mono ?_); rintro e w' ⟨rfl, rfl⟩))
      go_ret
      exact ⟨rfl, grew_tr gfin (gr)⟩
    by_cases r5 : ia < 0
    · go_wp2_with (first | ((with_reducible refine (HSum.out _ (gr)).mono ?_); rintro e w' ⟨rfl, g'⟩; (first | obtain ⟨y, rfl⟩ := ext_cold g' | obtain ⟨y, rfl⟩ := ext_col g' | obtain ⟨y, rfl⟩ := ext_of g'); clear g') | ((with_reducible refine (HOk.out _ (gr)).mono ?_); rintro e w' ⟨rfl, g'⟩; (first | obtain ⟨z, rfl⟩ := ext_cold g' | obtain ⟨z, rfl⟩ := ext_col g' | obtain ⟨z, rfl⟩ := ext_of g'); clear g') | ((with_reducible refine (HOw.out _).mono ?_); rintro e w' ⟨rfl, rfl⟩))
      go_ret
      exact ⟨rfl, grew_tr gfin (gr)⟩
    have r6 : 4 ≤ ia := by omega
    go_wp2_with (first | ((with_reducible refine (HSum.out _ (gr)).mono ?_); rintro e w' ⟨rfl, g'⟩; (first | obtain ⟨y, rfl⟩ := ext_cold g' | obtain ⟨y, rfl⟩ := ext_col g' | obtain ⟨y, rfl⟩ := ext_of g'); clear g') | ((with_reducible refine (HOk.out _ (gr)).mono ?_); rintro e w' ⟨rfl, g'⟩; (first | obtain ⟨z, rfl⟩ := ext_cold g' | obtain ⟨z, rfl⟩ := ext_col g' | obtain ⟨z, rfl⟩ := ext_of g'); clear g') | ((with_reducible refine (HOw.out _).mono ?_); rintro e w' ⟨rfl, rfl⟩))
    go_ret
    exact ⟨rfl, grew_tr gfin (gr)⟩
  simp only [Bool.and_eq_true, decide_eq_true_eq] at hq
  obtain ⟨⟨⟨⟨⟨⟨rfl, rfl⟩, rfl⟩, hk1⟩, hk2⟩, hvd⟩, hva⟩ := hq
  have hsn4 : sn = 4 := by have h1 := (stOk_parts H2.out).1; have h2 := RS.out.len; omega
  subst hsn4
  have hpg : prgOkB ps = true := by have := H1.out; simp only [sumsOkB, Bool.and_eq_true] at this; exact this.1.1
  have hpl := HP.out.1.len
  have hm1 : 1 ≤ m := by simp only [prgOkB, Bool.and_eq_true, decide_eq_true_eq] at hpg; omega
  have hul : un = m := by have h1 := H1.out; have h2 := HU.out.len; simp only [sumsOkB, Bool.and_eq_true, decide_eq_true_eq] at h1; omega
  have HPG := Lib.hid hpg
  have HPL := Lib.hid hpl
  have HVD := Lib.hid hvd
  have HVA := Lib.hid hva
  obtain ⟨jd, rfl, hjd⟩ := varB_nat hvd
  obtain ⟨ja, rfl, hja⟩ := varB_nat hva
  subst hul
  clear hpg hpl hvd hva
  obtain ⟨lb, lof, z9, rfl, hz9, r9⟩ := RL.out.at1 (show 9 < 12 by omega)
  have hz9n := HZS.out 9 z9 hz9
  obtain ⟨_, _, z10, e10, hz10, r10⟩ := RL.out.at1 (show 10 < 12 by omega)
  cases e10
  have hz10n := HZS.out 10 z10 hz10
  have hz10a := hz10n.1
  have hz10b := hz10n.2
  have lbl : lb < E.heap.size := World.block_lt_of_cell? _ _ r9
  have R910 := Lib.hid (And.intro r9 r10)
  obtain ⟨nm, hnm⟩ : ∃ q : Nat, z9 % 65536 = (q : Int) := ⟨(z9 % 65536).toNat, by omega⟩
  have HNm := Lib.hid (fun W => by have := owNormQ z9 (by have := hz9n.1; omega) (by have := hz9n.2; omega) W; rw [hnm] at this; exact this)
  obtain ⟨tg, hto⟩ : ∃ t : Nat, nm % un = t := ⟨_, rfl⟩
  have hto2 : tg < un := by rw [← hto]; exact Nat.mod_lt _ (by omega)
  have htm : (nm : Int) % (un : Int) = (tg : Int) := by rw [← hto, Int.natCast_emod]
  have HTM := Lib.hid htm
  have hun0 : ¬ (un : Int) = 0 := by omega
  clear hz9n hz10n hnm hto htm hz9 hz10 r9 r10
  go_wp2_with fail
  refine (HSum.out _ (gr)).mono ?_
  rintro e w3 ⟨rfl, g3⟩
  have G3 := Lib.hid g3
  clear l5 p5 l7 i0 i1 i2 i3 i4 i5 i6 i7 l9 s0 s1 s2 s3
  obtain ⟨l5, p5⟩ := B5.out.grew G3.out
  obtain ⟨l7, i0, i1, i2, i3, i4, i5, i6, i7⟩ := B7.out.grew G3.out
  obtain ⟨l9, s0, s1, s2, s3⟩ := S9.out.grew G3.out
  simp only at i0 i1 i2 i3 i4 i5 i6 i7
  go_wp2_with fail
  refine (HOk.out _ G3.out).mono ?_
  rintro e w4 ⟨rfl, g4⟩
  have G4 := Lib.hid (grew_tr G3.out g4)
  clear g3 g4 G3 gfin
  clear l5 p5 l7 i0 i1 i2 i3 i4 i5 i6 i7 l9 s0 s1 s2 s3
  obtain ⟨l5, p5⟩ := B5.out.grew G4.out
  obtain ⟨l7, i0, i1, i2, i3, i4, i5, i6, i7⟩ := B7.out.grew G4.out
  obtain ⟨l9, s0, s1, s2, s3⟩ := S9.out.grew G4.out
  simp only at i0 i1 i2 i3 i4 i5 i6 i7
  have r9 := (G4.out.cell (p := ⟨lb, lof + 9, none⟩) lbl).trans R910.out.1
  have lbl4 : lb < w4.heap.size := Nat.lt_of_lt_of_le lbl G4.out.size
  go_wp2_with fail
  first | refine wp_region_ext2 (by kernel_rfl) (by kernel_rfl) ?_ | refine wp_region_ext (by kernel_rfl) (by kernel_rfl) ?_
  repeat (go_big_quiet_step ((first | (with_reducible exact ext_grow ((HNm.out _).mono (fun _ _ h => ⟨h.1, h.2 ▸ Below.refl _ _⟩))))))
  refine wpQuiet_nil ?_
  intro _ hw'
  obtain ⟨u, hw''⟩ := hw'
  subst hw''
  rw [HTM.out]
  obtain ⟨w5, hw5⟩ : ∃ W, W = ext w4 u := ⟨_, rfl⟩
  have G5 : Hid (Grew E w5) := Lib.hid (by rw [hw5]; exact grew_tr G4.out (ext_grew w4 u))
  rw [← hw5]
  clear hw5 G4 r9 lbl4
  clear l5 p5 l7 i0 i1 i2 i3 i4 i5 i6 i7 l9 s0 s1 s2 s3
  obtain ⟨l5, p5⟩ := B5.out.grew G5.out
  obtain ⟨l7, i0, i1, i2, i3, i4, i5, i6, i7⟩ := B7.out.grew G5.out
  obtain ⟨l9, s0, s1, s2, s3⟩ := S9.out.grew G5.out
  simp only at i0 i1 i2 i3 i4 i5 i6 i7
  go_upto_region 9 with fail
  refine wp_letH ?_
  intro E6 hE6
  have gE6 : Grew w5 E6 := by rw [hE6]; exact grew_al (Below.refl _ _) _
  have BC : Hid (I8B E6 w5.heap.size ⟨10, jd, ja, 0, 0, 0, 0, tg⟩) := Lib.hid (by rw [hE6]; exact I8B.new w5 10 jd ja 0 0 0 0 tg _)
  have G6 := Lib.hid (grew_tr G5.out gE6)
  obtain ⟨bc, hbc⟩ : ∃ b, w5.heap.size = b := ⟨_, rfl⟩
  simp only [hbc] at BC ⊢
  clear hE6 gE6 hbc G5
  clear l5 p5 l7 i0 i1 i2 i3 i4 i5 i6 i7 l9 s0 s1 s2 s3
  obtain ⟨l5, p5⟩ := B5.out.grew G6.out
  obtain ⟨l7, i0, i1, i2, i3, i4, i5, i6, i7⟩ := B7.out.grew G6.out
  obtain ⟨l9, s0, s1, s2, s3⟩ := S9.out.grew G6.out
  simp only at i0 i1 i2 i3 i4 i5 i6 i7
  obtain ⟨lcx, j0, j1, j2, j3, j4, j5, j6, j7⟩ := BC.out
  simp only at j0 j1 j2 j3 j4 j5 j6 j7
  have hA := H1.out
  have HSt := Lib.hid (fun W (g : Grew E W) => implAbsStep pa un pc ps ua un uc ss ⟨10, jd, ja, 0, 0, 0, 0, tg⟩ k0 true sa 4 sc xa lo hi W (HP.out.1.grew g) hm (HU.out.grew staysSum g) hun' (RS.out.grew staysItv g) hsn hsc)
  have HFl := Lib.hid (fun W (g : Grew E W) => implAbsFails pa un pc ps ⟨10, jd, ja, 0, 0, 0, 0, tg⟩ true sa 4 sc xa lo hi W (HP.out.1.grew g) hm (RS.out.grew staysItv g) hsn hsc)
  have H4L := Lib.hid (stepL_four (ps := ps) (ss := ss) (i := ⟨10, jd, ja, 0, 0, 0, 0, tg⟩) (pc := k0) (on := true) (xs := xa) (lo := lo) (hi := hi))
  obtain ⟨L, hL⟩ : ∃ L, stepL ps ss ⟨10, jd, ja, 0, 0, 0, 0, tg⟩ k0 true xa lo hi = L := ⟨_, rfl⟩
  have HL := Lib.hid hL
  rw [hL] at HSt H4L
  obtain ⟨nL, hnL⟩ : ∃ n, L.length = n := ⟨_, rfl⟩
  have HNL := Lib.hid hnL
  have HSt' : Hid (∀ W, Grew E W → Calls Tryz.prog 12 #[.agg #[.slice pa un pc], .slice ua un uc, .agg #[.int .i64 10, .int .i64 jd, .int .i64 ja, .int .i64 0, .int .i64 0, .int .i64 0, .int .i64 0, .int .i64 tg], .int .i64 k0, .agg #[.bool true, .slice sa 4 sc, .int .i64 lo, .int .i64 hi]] W fun e w' => ∃ a c, e = .returned (.slice a nL c) ∧ RdL EEh 5 w' a nL L ∧ Grew W w') := Lib.hid (fun W g => (HSt.out W g).mono (fun e w' ⟨a, c, ms, h1, h2, h3, _, h5⟩ => ⟨a, c, by rw [h1, hnL], by rw [← hnL]; exact h2.rdh h3 H4L.out, h5⟩))
  clear hL hnL HSt hA
  go_wp2_with fail
  refine (HSt'.out _ G6.out).mono ?_
  rintro e w7 ⟨ra, rc, rfl, hra, g7⟩
  have BC := Lib.hid (BC.out.grew g7)
  have G7 := Lib.hid (grew_tr G6.out g7)
  have RA7 := Lib.hid hra
  clear g7 hra G6 HSt' lcx j0 j1 j2 j3 j4 j5 j6 j7
  clear l5 p5 l7 i0 i1 i2 i3 i4 i5 i6 i7 l9 s0 s1 s2 s3
  obtain ⟨l5, p5⟩ := B5.out.grew G7.out
  obtain ⟨l7, i0, i1, i2, i3, i4, i5, i6, i7⟩ := B7.out.grew G7.out
  obtain ⟨l9, s0, s1, s2, s3⟩ := S9.out.grew G7.out
  simp only at i0 i1 i2 i3 i4 i5 i6 i7
  go_wp2_with fail
  refine (owPoint sa sc xa lo hi nn (some ⟨lb, lof, none⟩) lc zs w7 (RS.out.grew staysItv G7.out) H2.out HNN.out (RL.out.grew G7.out) HZS.out).mono ?_
  rintro e w8 ⟨va, vc, ca, cc, vs, cs, rfl, hov, hoc, hvl, hcl, hpt, hcs, hne, g8⟩
  obtain ⟨tb, cur, rfl, htb, hvc, _⟩ := own_bC hov
  obtain ⟨v, hv⟩ : ∃ v, vs[ja]? = some v := ⟨vs[ja]'(by omega), List.getElem?_eq_getElem _⟩
  have ev : w8.cell? ⟨tb, ja, none⟩ = some (.int .i64 v) := by
    have := hov.cellAt ja (by omega)
    rw [this]
    simp [ints, hv]
  obtain ⟨jx, hjx, _, hxa4⟩ := nthI_get (stOk_parts H2.out).1 HVA.out
  obtain rfl : jx = ja := by omega
  have hin := hpt jx _ v hxa4 hv
  have HV := Lib.hid hv
  have HIN := Lib.hid hin
  have HOV := Lib.hid hov
  have HOC := Lib.hid hoc
  have HVL := Lib.hid hvl
  have HCL := Lib.hid hcl
  have HPT := Lib.hid hpt
  have HCS := Lib.hid hcs
  have HNE := Lib.hid hne
  have BC8 := Lib.hid (BC.out.grew g8)
  have G8 := Lib.hid (grew_tr G7.out g8)
  have G78 := Lib.hid g8
  have lja : (jx : Int) < 4 := by omega
  clear hov hoc hvl hcl hpt hcs hne g8 hv hin hxa4 hjx
  clear l5 p5 l7 i0 i1 i2 i3 i4 i5 i6 i7 l9 s0 s1 s2 s3
  obtain ⟨l5, p5⟩ := B5.out.grew G8.out
  obtain ⟨l7, i0, i1, i2, i3, i4, i5, i6, i7⟩ := B7.out.grew G8.out
  obtain ⟨l9, s0, s1, s2, s3⟩ := S9.out.grew G8.out
  simp only at i0 i1 i2 i3 i4 i5 i6 i7
  obtain ⟨pb, pof, plo, phi, pis, pia, pic, rfl, hpk, pp0, pp1, pp2, ppl, _⟩ := rdP_at (HP.out.1.grew G8.out) hto2
  have HPK : Hid (prcI ps tg = ⟨plo, phi⟩) := Lib.hid (by simp [prcI, hpk])
  have htoi : (tg : Int) < (un : Int) := by omega
  have gfin := grew_tr GE.out G8.out
  clear hpk
  by_cases hbad : v < plo ∨ phi < v
  · have hf := call_fails (ps := ps) (d := jd) (ia := jx) («to» := tg) (xs := xa) (lo := lo) (hi := hi) (v := v) HPG.out H2.out HVD.out HVA.out (by omega) (by rw [HPL.out]; omega) HIN.out (by rw [HPK.out]; exact hbad)
    have HFT := Lib.hid hf
    have HF8 := Lib.hid (fun W (g : Grew w8 W) => HFl.out W (grew_tr G8.out g))
    rw [hf] at HF8
    clear hf
    obtain ⟨lcx, j0, j1, j2, j3, j4, j5, j6, j7⟩ := BC8.out
    simp only at j0 j1 j2 j3 j4 j5 j6 j7
    by_cases hb1 : v < plo
    · have hb2 : decide (v < plo) = true := by simp [hb1]
      clear hbad
      go_wp2_with ((with_reducible refine (HF8.out _ (gr)).mono ?_); rintro e w' ⟨rfl, g'⟩; (first | obtain ⟨y, rfl⟩ := ext_cold g' | obtain ⟨y, rfl⟩ := ext_col g' | obtain ⟨y, rfl⟩ := ext_of g'); clear g')
      go_ret
      exact ⟨rfl, grew_tr gfin (gr)⟩
    · have hb2 : phi < v := by omega
      clear hbad
      go_wp2_with ((with_reducible refine (HF8.out _ (gr)).mono ?_); rintro e w' ⟨rfl, g'⟩; (first | obtain ⟨y, rfl⟩ := ext_cold g' | obtain ⟨y, rfl⟩ := ext_col g' | obtain ⟨y, rfl⟩ := ext_of g'); clear g')
      go_ret
      exact ⟨rfl, grew_tr gfin (gr)⟩
  have hb1 : ¬ v < plo := by omega
  have hb2 : ¬ phi < v := by omega
  have HGV := Lib.hid (show (prcI ps tg).lo ≤ v ∧ v ≤ (prcI ps tg).hi from by rw [HPK.out]; simp only; omega)
  obtain ⟨ub, uof, uon, ulo, uhi, rfl, huk, u0, u1, u2, ul⟩ := rdSum_at (HU.out.grew staysSum G8.out) hto2
  have HUK : Hid (sumI ss tg = ⟨uon, ulo, uhi⟩) := Lib.hid (by simp [sumI, List.getD_eq_getElem?_getD, huk])
  clear huk hbad
  cases uon
  · have hL0 : L = [] := by
      rw [← HL.out, call_step H1.out H2.out HVD.out HVA.out (by omega) (by rw [HPL.out]; omega) hk1 hk2, call_none (by rw [HUK.out])]
      rfl
    obtain rfl : nL = 0 := by rw [← HNL.out, hL0]; rfl
    clear hL0
    go_wp2_with ((with_reducible refine (HOw.out _).mono ?_); rintro e w' ⟨rfl, rfl⟩)
    go_ret
    exact ⟨rfl, grew_tr gfin (gr)⟩
  have hok2 : itvB ⟨ulo, uhi⟩ = true := by
    have h1 := H1.out
    simp only [sumsOkB, Bool.and_eq_true, decide_eq_true_eq, List.all_eq_true] at h1
    have hlt : tg < ss.length := by have := HU.out.len; omega
    have hm := h1.2 ss[tg] (List.getElem_mem hlt)
    have he : sumI ss tg = ss[tg] := by simp [sumI, List.getD_eq_getElem?_getD, hlt]
    rw [← he, HUK.out] at hm
    simpa [sumOkB, itvB] using hm
  have HPK2 := Lib.hid (fun W => owPick ulo uhi z10 hok2 (by omega) (by omega) W)
  have r10 := (G8.out.cell (p := ⟨lb, lof + 10, none⟩) lbl).trans R910.out.2
  obtain ⟨y0, ey⟩ := own_some HOV.out (j := jd) (by omega)
  have ff := fun j => HOV.out.frozenAt j
  have tl := World.block_lt_of_cell? _ _ ey
  simp only at tl
  have ljd : (jd : Int) < 4 := by omega
  have lbl8 : lb < w8.heap.size := Nat.lt_of_lt_of_le lbl G8.out.size
  clear hok2
  have HSG := Lib.hid (fun W (g : Grew w8 W) => (⟨(g.cell (p := ⟨b7, 1, none⟩) l7).trans i1, (g.cell (p := ⟨ub, uof + tg * 3 + 1, none⟩) ul).trans u1, (g.cell (p := ⟨ub, uof + tg * 3 + 2, none⟩) ul).trans u2, (g.cell (p := ⟨lb, lof + 10, none⟩) lbl8).trans r10⟩ :
    W.cell? ⟨b7, 1, none⟩ = some (.int .i64 jd) ∧ W.cell? ⟨ub, uof + tg * 3 + 1, none⟩ = some (.int .i64 ulo) ∧ W.cell? ⟨ub, uof + tg * 3 + 2, none⟩ = some (.int .i64 uhi) ∧ W.cell? ⟨lb, lof + 10, none⟩ = some (.int .i64 z10)))
  have hb7t : ¬ tb = b7 := by have := (B7.out.grew G7.out).1; omega
  have hlbt : ¬ tb = lb := by have := G7.out.size; omega
  have hubt : ¬ tb = ub := by
    obtain ⟨ub7, uof7, _, _, _, e7, _, _, _, _, ul7⟩ := rdSum_at (HU.out.grew staysSum G7.out) hto2
    cases e7
    omega
  have HSF := Lib.hid (fun (W : World) (u : Value) (h : W.cell? ⟨b7, 1, none⟩ = some (.int .i64 jd) ∧ W.cell? ⟨ub, uof + tg * 3 + 1, none⟩ = some (.int .i64 ulo) ∧ W.cell? ⟨ub, uof + tg * 3 + 2, none⟩ = some (.int .i64 uhi) ∧ W.cell? ⟨lb, lof + 10, none⟩ = some (.int .i64 z10)) => (⟨(World.cell?_setCell_far _ _ _ _ hb7t).trans h.1, (World.cell?_setCell_far _ _ _ _ hubt).trans h.2.1, (World.cell?_setCell_far _ _ _ _ hubt).trans h.2.2.1, (World.cell?_setCell_far _ _ _ _ hlbt).trans h.2.2.2⟩ :
    (W.setCell ⟨tb, jd, none⟩ u).cell? ⟨b7, 1, none⟩ = some (.int .i64 jd) ∧ (W.setCell ⟨tb, jd, none⟩ u).cell? ⟨ub, uof + tg * 3 + 1, none⟩ = some (.int .i64 ulo) ∧ (W.setCell ⟨tb, jd, none⟩ u).cell? ⟨ub, uof + tg * 3 + 2, none⟩ = some (.int .i64 uhi) ∧ (W.setCell ⟨tb, jd, none⟩ u).cell? ⟨lb, lof + 10, none⟩ = some (.int .i64 z10)))
  go_wp2_with fail
  clear i0 i2 i3 i4 i5 i6 i7 l5 p5 l9 s0 s1 s2 s3 pp0 pp1 pp2 ev ey ff tl u0
  go_region_held3 (fun W => W.cell? ⟨b7, 1, none⟩ = some (.int .i64 jd) ∧ W.cell? ⟨ub, uof + tg * 3 + 1, none⟩ = some (.int .i64 ulo) ∧ W.cell? ⟨ub, uof + tg * 3 + 2, none⟩ = some (.int .i64 uhi) ∧ W.cell? ⟨lb, lof + 10, none⟩ = some (.int .i64 z10)) (first | with_reducible assumption | with_reducible exact HSF.out _ _ hs8 | with_reducible exact HSG.out _ (gr))
    (first
    | (refine (HPK2.out _).mono ?_; rintro e wh ⟨⟨z, rfl, hz1, hz2⟩, ga⟩; have hgh : Grew w8 wh := grew_tr (gr) ga; have hs8 := HSG.out _ hgh; have hovh := owns_grew HOV.out hgh; obtain ⟨yh, eyh⟩ := own_some hovh (j := jd) (by omega); have ffh := fun j => hovh.frozenAt j; have tlh := World.block_lt_of_cell? _ _ eyh; have HGH := Lib.hid hgh; clear ga hgh hovh))
  try simp only at tlh
  have HZ := Lib.hid (And.intro hz1 hz2)
  go_upto_region 17 with fail
  refine wp_letH ?_
  intro E9 hE9
  have hw9 : E9 = wh.setCell ⟨tb, jd, none⟩ (.int .i64 z) := by rw [hE9]
  have RV9 : Hid (Rd E9 (some ⟨tb, 0, none⟩) 4 1 (ints .i64 (vs.set jd z))) := Lib.hid (by
    rw [hw9]
    have := rd_setIC (owns_rd (owns_grew HOV.out HGH.out)) hjd z
    simpa only [Nat.zero_add] using this)
  have RC9 : Hid (Rd E9 ca 4 1 (ints .i64 cs)) := Lib.hid (by
    rw [hw9]
    exact owns_rd (owns_chg (owns_grew HOC.out HGH.out) (chg1 (Chg.refl (fun b => b = tb) wh) _) (fun b hb e => HNE.out tb rfl (e ▸ hb))))
  have G79 : Hid (Grew w7 E9) := Lib.hid (by rw [hw9]; exact grew_set (grew_tr G78.out HGH.out) htb _)
  obtain ⟨e0, hLe, hto0, hhas⟩ := call_has (cs := cs) (z := z) H1.out H2.out HVD.out HVA.out (by omega) (by rw [HPL.out]; omega) hk1 hk2 HVL.out HCL.out HPT.out HCS.out (by rw [Int.toNat_natCast]; exact HV.out) HGV.out (by rw [HUK.out]) (by rw [HUK.out]; exact HZ.out)
  rw [HL.out] at hLe
  rw [Int.toNat_natCast] at hhas
  subst hLe
  obtain rfl : nL = 1 := by rw [← HNL.out]; rfl
  obtain ⟨xo, xf, e1, era, erc, rfl, hek, c0, c1, c2, c3, c4, cl, hrr, hrc⟩ := rdEh_at (RA7.out.grew staysEh G79.out) (show 0 < 1 by omega)
  simp only [List.getElem?_cons_zero, Option.some.injEq] at hek
  subst hek
  simp only [Nat.zero_mul, Nat.add_zero] at c0 c1 c2 c3 c4
  rw [hto0] at c0
  have HAH := Lib.hid (fun W (g : Grew E9 W) => implAbsHas true era 4 erc e0.xs e0.c.lo e0.c.hi (some ⟨tb, 0, none⟩) 4 vc (vs.set jd z) ca 4 cc cs W (hrr.grew staysItv g) (by omega) hrc (RV9.out.grew g) (RC9.out.grew g))
  rw [hhas] at HAH
  have gfin9 := grew_tr GE.out (grew_tr G7.out G79.out)
  clear hE9 hw9 hs8 eyh ffh tlh hz1 hz2 HSG hhas hrr i1 l7 u1 u2 r10 gfin
  go_wp2_with ((with_reducible refine (HAH.out _ (gr)).mono ?_); rintro e w' ⟨rfl, g'⟩; (first | obtain ⟨y, rfl⟩ := ext_cold g' | obtain ⟨y, rfl⟩ := ext_col g' | obtain ⟨y, rfl⟩ := ext_of g'); clear g')
  go_ret
  exact ⟨rfl, grew_tr gfin9 (gr)⟩
end Go.Proofs.YtpmfpgbpndobpaaGreat
