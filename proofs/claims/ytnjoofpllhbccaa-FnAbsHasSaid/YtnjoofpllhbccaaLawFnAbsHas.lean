/- The walk of the law FnAbsHas. No condition. -/
import Derived.Test.YtnjoofpllhbccaaDrAH
import Derived.Test.YtnjoofpllhbccaaStP
namespace Go.Proofs.Ytnjoofpllhbccaa
open Go.RowKit
set_option linter.unusedVariables false
set_option linter.unusedSimpArgs false
attribute [local go_sem] ext_cell ext_frozen ext_lt ext_le ext_le1 lt_s2 lt_s3 lt_s4 lt_s5 lt_s6 ext_lt1 ext_lt2 ext_lt3

theorem owOkH (w : World) : Calls Try.prog 18 #[] w fun e w' => e = .returned (.bool true) ∧ w = w' := by
  have C := Lib.hid (fun w => implNumOk 1 w)
  go_enter Try.func18, Try.ntmps18
  go_wp2_with fail
  refine (C.out _).mono ?_
  rintro e w' ⟨rfl, rfl⟩
  go_wp2
  go_ret
  exact ⟨rfl, rfl⟩
/-- A state's box. -/
def SB (W : World) (b : Nat) (on : Bool) (a : Option Addr) (n c : Nat) (lo hi : Int) : Prop := b < W.heap.size ∧ S4 b on a n c lo hi W
theorem SB.grew {W W' : World} {b n c : Nat} {on : Bool} {a : Option Addr} {lo hi : Int} (h : SB W b on a n c lo hi) (g : Grew W W') : SB W' b on a n c lo hi :=
  ⟨Nat.lt_of_lt_of_le h.1 g.size, (g.cell (p := ⟨b, 0, none⟩) h.1).trans h.2.1, (g.cell (p := ⟨b, 1, none⟩) h.1).trans h.2.2.1, (g.cell (p := ⟨b, 2, none⟩) h.1).trans h.2.2.2.1, (g.cell (p := ⟨b, 3, none⟩) h.1).trans h.2.2.2.2⟩
theorem SB.new (W : World) (on : Bool) (a : Option Addr) (n c : Nat) (lo hi : Int) (t : TypeId) : SB (W.alloc (.cells #[.bool on, .slice a n c, .int .i64 lo, .int .i64 hi] t)) W.heap.size on a n c lo hi :=
  ⟨by simp, by simp [S4, go_sem]⟩

set_option maxHeartbeats 4000000 in
theorem lawFnAbsHas (a : Option Addr) (n c : Nat) (xs : List Int) (a' : Option Addr) (n' c' : Nat) (ys : List Int) (w : World) (hr : Rd w a n 1 (ints .u8 xs)) (hx : Bs xs) (hc : n ≤ c ∧ c ≤ maxLen) (hr' : Rd w a' n' 1 (ints .u8 ys)) (hy : Bs ys) (hc' : n' ≤ c' ∧ c' ≤ maxLen) :
    Calls Try.prog 4 #[.slice a n c, .slice a' n' c'] w fun e w' => e = .returned (.bool true) ∧ Grew w w' := by
  have HR := Lib.hid hr; clear hr
  have HR' := Lib.hid hr'; clear hr'
  have HX := Lib.hid hx; clear hx
  have HY := Lib.hid hy; clear hy
  by_cases h1 : (n : Int) > 1048576
  · go_enter Try.func4, Try.ntmps4
    go_wp2
    go_ret
    exact ⟨rfl, Below.refl _ _⟩
  by_cases h2 : (n' : Int) > 1048576
  · go_enter Try.func4, Try.ntmps4
    go_wp2
    go_ret
    exact ⟨rfl, Below.refl _ _⟩
  go_enter Try.func4, Try.ntmps4
  go_wp2_with fail
  refine (drawAbsHas a n c xs w HR.out HX.out hc).mono ?_
  rintro e w1 ⟨on, sa, sn, sc, lo, hi, va, vn, vc, vs, ca, cn, cc, cs, rfl, hst, hv, hz, hvn, hcn, g1⟩
  have HS1 := Lib.hid hst
  have HV1 := Lib.hid hv
  have HC1 := Lib.hid hz
  have G1 := Lib.hid g1
  clear hst hv hz g1
  go_wp2_with fail
  refine (drawAbsIn a' n' c' ys _ (HR'.out.grew (by have h := G1.out; repeat (first | with_reducible exact Below.refl _ _ | with_reducible assumption | with_reducible apply grew_ext | with_reducible apply grew_al | with_reducible apply grew_dn | with_reducible apply grew_d | (with_reducible refine grew_set ?_ (by first | omega | (repeat (first | with_reducible exact Nat.le_refl _ | with_reducible apply le_pl | with_reducible apply le_ext | with_reducible apply le_al))) _)))) HY.out hc').mono ?_
  rintro e w2 ⟨onA, aa, an, ac, la, ha, onB, ba, bn, bc, lb, hb, rfl, hsA, hsB, g2⟩
  have HA := Lib.hid ((SB.new w1 on sa sn sc lo hi 34).grew g2)
  have G2 := Lib.hid (grew_tr (grew_al G1.out _) g2)
  have gg : Grew w1 w2 := grew_tr (grew_al (Below.refl _ _) _) g2
  have HS2 := Lib.hid (HS1.out.grew gg)
  have HV2 := Lib.hid (HV1.out.grew gg)
  have HC2 := Lib.hid (HC1.out.grew gg)
  have HB2 := Lib.hid hsB
  obtain ⟨b5, hb5⟩ : ∃ b, w1.heap.size = b := ⟨_, rfl⟩
  rw [hb5] at HA
  try rw [hb5]
  clear hb5 gg g2 hsA hsB HS1 HV1 HC1 G1 HR HR' HX HY
  obtain ⟨ss, hs0⟩ := HS2.out.rd
  obtain ⟨bs, hs1⟩ := HB2.out.rd
  have hsn : sn ≤ 9223372036854775807 := by have := HS2.out.2.1; omega
  have hbn : bn ≤ 9223372036854775807 := by have := HB2.out.2.1; omega
  have hsc := HS2.out.1
  have hbc := HB2.out.1
  have RS2 := Lib.hid hs0
  have RB2 := Lib.hid hs1
  clear hs0 hs1 HS2 HB2
  obtain ⟨l5, p0, p1, p2, p3⟩ := HA.out
  go_upto_region 5 with fail
  refine wp_let_c ?_
  intro E hE
  have gE : Grew w2 E := by rw [hE]; repeat (first | with_reducible exact Below.refl _ _ | with_reducible assumption | with_reducible apply grew_ext | with_reducible apply grew_al | with_reducible apply grew_dn | with_reducible apply grew_d | (with_reducible refine grew_set ?_ (by first | omega | (repeat (first | with_reducible exact Nat.le_refl _ | with_reducible apply le_pl | with_reducible apply le_ext | with_reducible apply le_al))) _))
  have HA3 := Lib.hid (HA.out.grew gE)
  have HD3 : Hid (SB E (w2.heap.size + 1) onB ba bn bc lb hb) := Lib.hid (by rw [hE]; refine ⟨by simp, ?_⟩; simp [S4, go_sem])
  have G3 := Lib.hid (grew_tr G2.out gE)
  have RS3 := Lib.hid (RS2.out.grew staysItv gE)
  have RB3 := Lib.hid (RB2.out.grew staysItv gE)
  have HV3 := Lib.hid (HV2.out.grew gE)
  have HC3 := Lib.hid (HC2.out.grew gE)
  clear gE hE p0 p1 p2 p3 l5 HA G2 RS2 RB2 HV2 HC2
  obtain ⟨b9, hb9⟩ : ∃ b, w2.heap.size + 1 = b := ⟨_, rfl⟩
  simp only [hb9] at HD3 ⊢
  clear hb9
  obtain ⟨l5, p0, p1, p2, p3⟩ := HA3.out
  go_wp2_with fail
  refine (implAbsHas on sa sn sc ss lo hi va vn vc vs ca cn cc cs E RS3.out hsn hsc HV3.out HC3.out).mono ?_
  rintro e w4 ⟨rfl, g4⟩
  have HA4 := Lib.hid (HA3.out.grew g4)
  have HD4 := Lib.hid (HD3.out.grew g4)
  have G4 := Lib.hid (grew_tr G3.out g4)
  have RS4 := Lib.hid (RS3.out.grew staysItv g4)
  have RB4 := Lib.hid (RB3.out.grew staysItv g4)
  have HV4 := Lib.hid (HV3.out.grew g4)
  have HC4 := Lib.hid (HC3.out.grew g4)
  clear g4 HA3 HD3 G3 RS3 RB3 HV3 HC3
  try clear p0 p1 p2 p3 l5
  try clear q0 q1 q2 q3 l9
  obtain ⟨l5, p0, p1, p2, p3⟩ := HA4.out
  obtain ⟨B, hB⟩ : ∃ B, hasB on ss lo hi vs cs = B := ⟨_, rfl⟩
  have HB := Lib.hid hB
  rw [hB]
  clear hB
  go_wp2_with fail
  refine (specAbsHas on sa sn sc ss lo hi va vn vc vs ca cn cc cs w4 RS4.out hsn HV4.out HC4.out).mono ?_
  rintro e w5 ⟨rfl, g5⟩
  rw [HB.out]
  have HA5 := Lib.hid (HA4.out.grew g5)
  have HD5 := Lib.hid (HD4.out.grew g5)
  have G5 := Lib.hid (grew_tr G4.out g5)
  have RS5 := Lib.hid (RS4.out.grew staysItv g5)
  have RB5 := Lib.hid (RB4.out.grew staysItv g5)
  have HV5 := Lib.hid (HV4.out.grew g5)
  have HC5 := Lib.hid (HC4.out.grew g5)
  clear g5 HA4 HD4 G4 RS4 RB4 HV4 HC4
  try clear p0 p1 p2 p3 l5
  try clear q0 q1 q2 q3 l9
  obtain ⟨l5, p0, p1, p2, p3⟩ := HA5.out
  cases B
  · go_wp2_with fail
    refine (owOkH _).mono ?_
    rintro e w6 ⟨rfl, rfl⟩
    go_wp2
    go_ret
    exact ⟨rfl, G5.out⟩
  · obtain ⟨eon, ok1, lv, lc, _, _⟩ := hasB_split HB.out
    subst eon
    have HOK := Lib.hid ok1
    have hvn4 : vn = 4 := by have := HV5.out.len1; omega
    have hcn4 : cn = 4 := by have := HC5.out.len1; omega
    subst hvn4 hcn4
    clear ok1 lv lc
    go_wp2_with fail
    refine (implAbsOk true sa sn sc ss lo hi w5 RS5.out hsn hsc).mono ?_
    rintro e w6 ⟨rfl, g6⟩
    rw [HOK.out]
    have HA6 := Lib.hid (HA5.out.grew g6)
    have HD6 := Lib.hid (HD5.out.grew g6)
    have G6 := Lib.hid (grew_tr G5.out g6)
    have RS6 := Lib.hid (RS5.out.grew staysItv g6)
    have RB6 := Lib.hid (RB5.out.grew staysItv g6)
    have HV6 := Lib.hid (HV5.out.grew g6)
    have HC6 := Lib.hid (HC5.out.grew g6)
    clear g6 HA5 HD5 G5 RS5 RB5 HV5 HC5
    try clear p0 p1 p2 p3 l5
    try clear q0 q1 q2 q3 l9
    obtain ⟨l9, q0, q1, q2, q3⟩ := HD6.out
    obtain ⟨l5, p0, p1, p2, p3⟩ := HA6.out
    go_wp2_with fail
    refine (specAbsOk onB ba bn bc bs lb hb w6 RB6.out hbn).mono ?_
    rintro e w7 ⟨rfl, g7⟩
    have HA7 := Lib.hid (HA6.out.grew g7)
    have HD7 := Lib.hid (HD6.out.grew g7)
    have G7 := Lib.hid (grew_tr G6.out g7)
    have RS7 := Lib.hid (RS6.out.grew staysItv g7)
    have RB7 := Lib.hid (RB6.out.grew staysItv g7)
    have HV7 := Lib.hid (HV6.out.grew g7)
    have HC7 := Lib.hid (HC6.out.grew g7)
    clear g7 HA6 HD6 G6 RS6 RB6 HV6 HC6
    try clear p0 p1 p2 p3 l5
    try clear q0 q1 q2 q3 l9
    obtain ⟨l9, q0, q1, q2, q3⟩ := HD7.out
    obtain ⟨l5, p0, p1, p2, p3⟩ := HA7.out
    cases hob : stOkB onB bs lb hb
    · go_wp2
      go_ret
      exact ⟨rfl, G7.out⟩
    have HOB := Lib.hid hob
    clear hob
    go_wp2_with fail
    refine (implAbsJoin sa sn sc ss lo hi onB ba bn bc bs lb hb w7 RS7.out RB7.out hsn hbn hsc hbc HOK.out HOB.out).mono ?_
    rintro e w8 ⟨ja, jc, rfl, ho, g8⟩
    have HJH := Lib.hid (joinSt_has HOB.out HB.out)
    obtain ⟨J, hJ⟩ : ∃ J, joinSt ss lo hi onB bs lb hb = J := ⟨_, rfl⟩
    have hJl : J.vars.length ≤ 9223372036854775807 := by
      have h1 := HOK.out
      rw [← hJ]
      obtain ⟨e1, x0, x1, x2, x3, rfl, _⟩ := st_four h1
      cases onB
      · simp [joinSt]
      · obtain ⟨e2, y0, y1, y2, y3, rfl, _⟩ := st_four HOB.out
        simp [joinSt]
    rw [hJ] at HJH ho ⊢
    clear hJ
    have RJ8 : Hid (RdL EItv 2 w8 ja J.vars.length J.vars) := Lib.hid (rdItv_of_own rfl ho)
    have hjc := (owns_cap ho).1
    clear ho
    have HA8 := Lib.hid (HA7.out.grew g8)
    have HD8 := Lib.hid (HD7.out.grew g8)
    have G8 := Lib.hid (grew_tr G7.out g8)
    have RS8 := Lib.hid (RS7.out.grew staysItv g8)
    have RB8 := Lib.hid (RB7.out.grew staysItv g8)
    have HV8 := Lib.hid (HV7.out.grew g8)
    have HC8 := Lib.hid (HC7.out.grew g8)
    clear g8 HA7 HD7 G7 RS7 RB7 HV7 HC7
    try clear p0 p1 p2 p3 l5
    try clear q0 q1 q2 q3 l9
    obtain ⟨l9, q0, q1, q2, q3⟩ := HD8.out
    obtain ⟨l5, p0, p1, p2, p3⟩ := HA8.out
    go_wp2_with fail
    refine (implAbsHas J.on ja J.vars.length jc J.vars J.lo J.hi va 4 vc vs ca 4 cc cs w8 RJ8.out hJl hjc HV8.out HC8.out).mono ?_
    rintro e w9 ⟨rfl, g9⟩
    rw [HJH.out]
    have HA9 := Lib.hid (HA8.out.grew g9)
    have HD9 := Lib.hid (HD8.out.grew g9)
    have G9 := Lib.hid (grew_tr G8.out g9)
    have RS9 := Lib.hid (RS8.out.grew staysItv g9)
    have RB9 := Lib.hid (RB8.out.grew staysItv g9)
    have HV9 := Lib.hid (HV8.out.grew g9)
    have HC9 := Lib.hid (HC8.out.grew g9)
    clear g9 HA8 HD8 G8 RS8 RB8 HV8 HC8
    try clear p0 p1 p2 p3 l5
    try clear q0 q1 q2 q3 l9
    clear RJ8 HJH hJl hjc
    obtain ⟨l9, q0, q1, q2, q3⟩ := HD9.out
    obtain ⟨l5, p0, p1, p2, p3⟩ := HA9.out
    go_wp2_with fail
    refine (implAbsIn sa sn sc ss lo hi onB ba bn bc bs lb hb w9 RS9.out RB9.out hsn hbn hsc hbc HOK.out HOB.out).mono ?_
    rintro e w10 ⟨rfl, g10⟩
    have HA10 := Lib.hid (HA9.out.grew g10)
    have HD10 := Lib.hid (HD9.out.grew g10)
    have G10 := Lib.hid (grew_tr G9.out g10)
    have RS10 := Lib.hid (RS9.out.grew staysItv g10)
    have RB10 := Lib.hid (RB9.out.grew staysItv g10)
    have HV10 := Lib.hid (HV9.out.grew g10)
    have HC10 := Lib.hid (HC9.out.grew g10)
    clear g10 HA9 HD9 G9 RS9 RB9 HV9 HC9
    try clear p0 p1 p2 p3 l5
    try clear q0 q1 q2 q3 l9
    obtain ⟨l9, q0, q1, q2, q3⟩ := HD10.out
    obtain ⟨l5, p0, p1, p2, p3⟩ := HA10.out
    cases hin : onB && inS ss bs ⟨lo, hi⟩ ⟨lb, hb⟩
    · go_wp2
      go_ret
      exact ⟨rfl, G10.out⟩
    rw [Bool.and_eq_true] at hin
    obtain ⟨hon, hin⟩ := hin
    subst hon
    have HBB := Lib.hid (inS_has HOB.out HB.out hin)
    clear hin
    go_wp2_with fail
    refine (implAbsHas true ba bn bc bs lb hb va 4 vc vs ca 4 cc cs w10 RB10.out hbn hbc HV10.out HC10.out).mono ?_
    rintro e w11 ⟨rfl, g11⟩
    rw [HBB.out]
    have HG := Lib.hid (grew_tr G10.out g11)
    clear g11
    go_wp2
    go_ret
    exact ⟨rfl, HG.out⟩
end Go.Proofs.Ytnjoofpllhbccaa
