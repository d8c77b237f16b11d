/- Lemmas and walks of this proof, some texts one behind the other. No condition. -/
import Derived.Test.YtpmfpgbpndobpaaGreatStepA
import Derived.Test.YtpmfpgbpndobpaaGreatRegG
import Derived.Test.YtpmfpgbpndobpaaGreatRelR
import Derived.Test.YtpmfpgbpndobpaaGreatSpK
set_option linter.unusedSimpArgs false
set_option linter.unusedVariables false
/- May an instruction fail in a state: the reference's AbsFails. No condition. -/
namespace Go.Proofs.YtpmfpgbpndobpaaGreat
open Go.RowKit
set_option linter.unusedVariables false
set_option linter.unusedSimpArgs false
attribute [local go_sem] ext_cell ext_frozen ext_lt ext_le ext_le1 lt_s2 lt_s3 lt_s4 lt_s5 lt_s6 ext_lt1 ext_lt2 ext_lt3

/-- Do a program, a step and a state fit. -/
def fitB (ps : List Prc) (i : Ins) (on : Bool) (xs : List Itv) (lo hi : Int) : Bool := prgOkB ps && (insOkB i ps.length 10 && (stOkB on xs lo hi && on))
set_option maxHeartbeats 2000000 in
theorem specL7Fit (pa : Option Addr) (pn pc : Nat) (ps : List Prc) (i : Ins) (on : Bool) (xa : Option Addr) (xn xc : Nat) (xs : List Itv) (slo shi : Int) (w : World) (hr : RdP w pa pn ps) (hn : pn ≤ 9223372036854775807) (hx : RdL EItv 2 w xa xn xs) (hxn : xn ≤ 9223372036854775807) :
    Calls Tryz.prog 70 #[.agg #[.slice pa pn pc], i.v, .agg #[.bool on, .slice xa xn xc, .int .i64 slo, .int .i64 shi]] w fun e w' => e = .returned (.bool (fitB ps i on xs slo shi)) ∧ Grew w w' := by
  have HP := Lib.hid (fun W (h : Grew w W) => specPrgOk pa pn pc ps W (hr.grew h) hn)
  have HQ := Lib.hid (fun W => specInsOk i pn 10 W)
  have HR := Lib.hid (fun W (h : Grew w W) => specAbsOk on xa xn xc xs slo shi W (hx.grew staysItv h) hxn)
  rw [fitB, hr.len]
  obtain ⟨p, hp⟩ : ∃ p, prgOkB ps = p := ⟨_, rfl⟩
  obtain ⟨q, hq⟩ : ∃ q, insOkB i pn 10 = q := ⟨_, rfl⟩
  obtain ⟨r, hr2⟩ : ∃ r, stOkB on xs slo shi = r := ⟨_, rfl⟩
  rw [hp] at HP ⊢
  rw [hq] at HQ ⊢
  rw [hr2] at HR ⊢
  clear hr hx hp hq hr2
  obtain ⟨op, d, a, b, rel, lo, hi, to⟩ := i
  cases p
  · go_enter Tryz.func70, Tryz.ntmps70
    go_wp2_with ((with_reducible refine (HP.out _ (gr)).mono ?_); rintro e w' ⟨rfl, g'⟩; (first | obtain ⟨x, rfl⟩ := ext_cold g' | obtain ⟨x, rfl⟩ := ext_col g' | obtain ⟨x, rfl⟩ := ext_of g'); clear g')
    go_ret
    refine ⟨by simp, ?_⟩
    exact gr
  cases q
  · go_enter Tryz.func70, Tryz.ntmps70
    go_wp2_with (first | ((with_reducible refine (HP.out _ (gr)).mono ?_); rintro e w' ⟨rfl, g'⟩; (first | obtain ⟨x, rfl⟩ := ext_cold g' | obtain ⟨x, rfl⟩ := ext_col g' | obtain ⟨x, rfl⟩ := ext_of g'); clear g') | ((with_reducible refine (HQ.out _).mono ?_); rintro e w' ⟨rfl, g'⟩; (first | obtain ⟨y, rfl⟩ := ext_cold g' | obtain ⟨y, rfl⟩ := ext_col g' | obtain ⟨y, rfl⟩ := ext_of g'); clear g'))
    go_ret
    refine ⟨by simp, ?_⟩
    exact gr
  cases r
  all_goals
    go_enter Tryz.func70, Tryz.ntmps70
    go_wp2_with (first | ((with_reducible refine (HP.out _ (gr)).mono ?_); rintro e w' ⟨rfl, g'⟩; (first | obtain ⟨x, rfl⟩ := ext_cold g' | obtain ⟨x, rfl⟩ := ext_col g' | obtain ⟨x, rfl⟩ := ext_of g'); clear g') | ((with_reducible refine (HQ.out _).mono ?_); rintro e w' ⟨rfl, g'⟩; (first | obtain ⟨y, rfl⟩ := ext_cold g' | obtain ⟨y, rfl⟩ := ext_col g' | obtain ⟨y, rfl⟩ := ext_of g'); clear g') | ((with_reducible refine (HR.out _ (gr)).mono ?_); rintro e w' ⟨rfl, g'⟩; (first | obtain ⟨z, rfl⟩ := ext_cold g' | obtain ⟨z, rfl⟩ := ext_col g' | obtain ⟨z, rfl⟩ := ext_of g'); clear g'))
    go_ret
    refine ⟨by simp, ?_⟩
    exact gr
end Go.Proofs.YtpmfpgbpndobpaaGreat

/- Where a step leads to: the reference's l7Step and AbsStep. No condition. -/
namespace Go.Proofs.YtpmfpgbpndobpaaGreat
open Go.RowKit
set_option linter.unusedVariables false
set_option linter.unusedSimpArgs false
attribute [local go_sem] ext_cell ext_frozen ext_lt ext_le ext_le1 lt_s2 lt_s3 lt_s4 lt_s5 lt_s6 ext_lt1 ext_lt2 ext_lt3

theorem specL7Step (pa : Option Addr) (pn pc : Nat) (ps : List Prc) (sa : Option Addr) (sn sc : Nat) (ss : List Sum) (xa : Option Addr) (xc : Nat) (xs : List Itv) (lo hi : Int) (i : Ins) (pcc : Int) (w : World) (hr : RdP w pa pn ps) (hpn : pn ≤ 9223372036854775807) (hp : prgOkB ps = true) (hss : RdL ESum 3 w sa sn ss) (hsn : sn = pn) (hx : RdL EItv 2 w xa 4 xs) (hs : stOkB true xs lo hi = true) (hpc : 0 ≤ pcc ∧ pcc < 10) (hi0 : insOkB i pn 10 = true) :
    Calls Tryz.prog 71 #[.agg #[.slice pa pn pc], .slice sa sn sc, i.v, .int .i64 pcc, .agg #[.bool true, .slice xa 4 xc, .int .i64 lo, .int .i64 hi]] w (RetEb (edgesI ps ss i pcc xs ⟨lo, hi⟩) w.heap.size w) := by
  obtain ⟨op, d, a, b, rel, ilo, ihi, to⟩ := i
  rcases opTwelve (insParts hi0).1 with rfl | rfl | rfl | rfl | rfl | rfl | rfl | rfl | rfl | rfl | rfl | rfl
  · exact specL7Step1 pa pn pc ps sa sn sc ss xa xc xs lo hi d a b rel ilo ihi to pcc w hr hpn hp hss hsn hx hs hpc hi0
  · exact specL7Step2 pa pn pc ps sa sn sc ss xa xc xs lo hi d a b rel ilo ihi to pcc w hr hpn hp hss hsn hx hs hpc hi0
  · exact specL7Step3 pa pn pc ps sa sn sc ss xa xc xs lo hi d a b rel ilo ihi to pcc w hr hpn hp hss hsn hx hs hpc hi0
  · exact specL7Step4 pa pn pc ps sa sn sc ss xa xc xs lo hi d a b rel ilo ihi to pcc w hr hpn hp hss hsn hx hs hpc hi0
  · exact specL7Step5 pa pn pc ps sa sn sc ss xa xc xs lo hi d a b rel ilo ihi to pcc w hr hpn hp hss hsn hx hs hpc hi0
  · exact specL7Step6 pa pn pc ps sa sn sc ss xa xc xs lo hi d a b rel ilo ihi to pcc w hr hpn hp hss hsn hx hs hpc hi0
  · exact specL7Step7 pa pn pc ps sa sn sc ss xa xc xs lo hi d a b rel ilo ihi to pcc w hr hpn hp hss hsn hx hs hpc hi0
  · exact specL7Step8 pa pn pc ps sa sn sc ss xa xc xs lo hi d a b rel ilo ihi to pcc w hr hpn hp hss hsn hx hs hpc hi0
  · exact specL7Step9 pa pn pc ps sa sn sc ss xa xc xs lo hi d a b rel ilo ihi to pcc w hr hpn hp hss hsn hx hs hpc hi0
  · exact specL7Step10 pa pn pc ps sa sn sc ss xa xc xs lo hi d a b rel ilo ihi to pcc w hr hpn hp hss hsn hx hs hpc hi0
  · exact specL7Step11 pa pn pc ps sa sn sc ss xa xc xs lo hi d a b rel ilo ihi to pcc w hr hpn hp hss hsn hx hs hpc hi0
  · exact specL7Step12 pa pn pc ps sa sn sc ss xa xc xs lo hi d a b rel ilo ihi to pcc w hr hpn hp hss hsn hx hs hpc hi0
theorem stepB_fit {ps : List Prc} {ss : List Sum} {i : Ins} {pc : Int} {on : Bool} {xs : List Itv} {lo hi : Int} : stepB ps ss i pc on xs lo hi = (sumsOkB ps ss && (fitB ps i on xs lo hi && (decide (0 ≤ pc) && decide (pc ≤ 9)))) := by
  have h9 : decide (pc < 10) = decide (pc ≤ 9) := by
    by_cases h : pc < 10
    · rw [decide_eq_true h, decide_eq_true (by omega)]
    · rw [decide_eq_false h, decide_eq_false (by omega)]
  unfold stepB fitB
  rw [h9]
  cases hS : sumsOkB ps ss
  · simp
  · have : prgOkB ps = true := by simp only [sumsOkB, Bool.and_eq_true] at hS; exact hS.1.1
    rw [this]
    generalize insOkB i ps.length 10 = a
    generalize stOkB on xs lo hi = b
    generalize (decide (0 ≤ pc) && decide (pc ≤ 9)) = c
    cases a <;> cases b <;> cases c <;> cases on <;> rfl
theorem retEs_lit {w w1 : World} (h1 : Grew w w1) : RetEs [] w (.returned (.slice (some ⟨w1.heap.size, 0, none⟩) 0 0)) (w1.alloc (.cells #[] 55)) :=
  ⟨_, 0, [], rfl, ownE_lit0 h1.size (Blk.new' rfl), rfl, grew_tr h1 (grew_al (Below.refl _ _) _)⟩
set_option maxRecDepth 100000 in
set_option maxHeartbeats 4000000 in
theorem specAbsStep (pa : Option Addr) (pn pc : Nat) (ps : List Prc) (sa : Option Addr) (sn sc : Nat) (ss : List Sum) (i : Ins) (pcc : Int) (on : Bool) (xa : Option Addr) (xn xc : Nat) (xs : List Itv) (slo shi : Int) (w : World)
    (hr : RdP w pa pn ps) (hn : pn ≤ 9223372036854775807) (hss : RdL ESum 3 w sa sn ss) (hsn : sn ≤ 9223372036854775807) (hx : RdL EItv 2 w xa xn xs) (hxn : xn ≤ 9223372036854775807) :
    Calls Tryz.prog 24 #[.agg #[.slice pa pn pc], .slice sa sn sc, i.v, .int .i64 pcc, .agg #[.bool on, .slice xa xn xc, .int .i64 slo, .int .i64 shi]] w (RetEs (stepL ps ss i pcc on xs slo shi) w) := by
  have HP := Lib.hid (fun W (h : Grew w W) => specSumsOk pa sa pn sn pc sc ps ss W (hr.grew h) (hss.grew staysSum h) hn hsn)
  have HF := Lib.hid (fun W (h : Grew w W) => specL7Fit pa pn pc ps i on xa xn xc xs slo shi W (hr.grew h) hn (hx.grew staysItv h) hxn)
  have HL := Lib.hid (fun W => l1In pcc 0 9 W)
  have HST := Lib.hid (fun W (g : Grew w W) (hb : stepB ps ss i pcc on xs slo shi = true) => (by
    have hb0 := hb
    rw [stepB_fit] at hb
    simp only [fitB, Bool.and_eq_true, decide_eq_true_eq] at hb
    obtain ⟨h1, ⟨h2, h3, h4, h5⟩, h6, h7⟩ := hb
    subst h5
    have h8 : xn = 4 := by rw [← hx.len]; exact (stOk_parts h4).1
    subst h8
    have hpp := h1
    simp only [sumsOkB, Bool.and_eq_true, decide_eq_true_eq] at hpp
    rw [hr.len] at h3
    exact specL7Step pa pn pc ps sa sn sc ss xa xc xs slo shi i pcc W (hr.grew g) hn h2 (hss.grew staysSum g) (by rw [← hss.len, ← hr.len]; exact hpp.1.2) (hx.grew staysItv g) h4 ⟨h6, by omega⟩ h3 :
    Calls Tryz.prog 71 #[.agg #[.slice pa pn pc], .slice sa sn sc, i.v, .int .i64 pcc, .agg #[.bool on, .slice xa xn xc, .int .i64 slo, .int .i64 shi]] W (RetEb (edgesI ps ss i pcc xs ⟨slo, shi⟩) W.heap.size W)))
  have HSL : Hid (stepL ps ss i pcc on xs slo shi = if stepB ps ss i pcc on xs slo shi = true then edgesI ps ss i pcc xs ⟨slo, shi⟩ else []) := Lib.hid rfl
  rw [HSL.out]
  rw [stepB_fit] at HST ⊢
  obtain ⟨p, hp⟩ : ∃ p, sumsOkB ps ss = p := ⟨_, rfl⟩
  obtain ⟨q, hq⟩ : ∃ q, fitB ps i on xs slo shi = q := ⟨_, rfl⟩
  obtain ⟨r, hr3⟩ : ∃ r, (decide (0 ≤ pcc) && decide (pcc ≤ 9)) = r := ⟨_, rfl⟩
  obtain ⟨es, hes⟩ : ∃ es, edgesI ps ss i pcc xs ⟨slo, shi⟩ = es := ⟨_, rfl⟩
  rw [hp] at HP HST ⊢
  rw [hq] at HF HST ⊢
  rw [hr3] at HL HST ⊢
  rw [hes] at HST ⊢
  clear hr hss hx hp hq hr3 hes HSL
  obtain ⟨op, d, a, b, rel, lo, hi2, to⟩ := i
  cases p
  · simp only [Bool.false_and, Bool.false_eq_true, if_false]
    go_enter Tryz.func24, Tryz.ntmps24
    go_wp2_with (first | ((with_reducible refine (HP.out _ (gr)).mono ?_); rintro e w' ⟨rfl, g'⟩; (first | obtain ⟨x, rfl⟩ := ext_cold g' | obtain ⟨x, rfl⟩ := ext_col g' | obtain ⟨x, rfl⟩ := ext_of g'); clear g'))
    go_ret
    exact retEs_lit (gr)
  cases q
  · simp only [Bool.false_and, Bool.and_false, Bool.false_eq_true, if_false]
    go_enter Tryz.func24, Tryz.ntmps24
    go_wp2_with (first | ((with_reducible refine (HP.out _ (gr)).mono ?_); rintro e w' ⟨rfl, g'⟩; (first | obtain ⟨x, rfl⟩ := ext_cold g' | obtain ⟨x, rfl⟩ := ext_col g' | obtain ⟨x, rfl⟩ := ext_of g'); clear g') | ((with_reducible refine (HF.out _ (gr)).mono ?_); rintro e w' ⟨rfl, g'⟩; (first | obtain ⟨y, rfl⟩ := ext_cold g' | obtain ⟨y, rfl⟩ := ext_col g' | obtain ⟨y, rfl⟩ := ext_of g'); clear g'))
    go_ret
    exact retEs_lit (gr)
  cases r
  · simp only [Bool.and_false, Bool.false_eq_true, if_false]
    go_enter Tryz.func24, Tryz.ntmps24
    go_wp2_with (first | ((with_reducible refine (HP.out _ (gr)).mono ?_); rintro e w' ⟨rfl, g'⟩; (first | obtain ⟨x, rfl⟩ := ext_cold g' | obtain ⟨x, rfl⟩ := ext_col g' | obtain ⟨x, rfl⟩ := ext_of g'); clear g') | ((with_reducible refine (HF.out _ (gr)).mono ?_); rintro e w' ⟨rfl, g'⟩; (first | obtain ⟨y, rfl⟩ := ext_cold g' | obtain ⟨y, rfl⟩ := ext_col g' | obtain ⟨y, rfl⟩ := ext_of g'); clear g') | (refine (HL.out _).mono ?_; rintro e wl ⟨rfl, rfl⟩))
    go_ret
    exact retEs_lit (gr)
  · simp only [Bool.and_self, if_true]
    go_enter Tryz.func24, Tryz.ntmps24
    go_wp2_with (first | ((with_reducible refine (HP.out _ (gr)).mono ?_); rintro e w' ⟨rfl, g'⟩; (first | obtain ⟨x, rfl⟩ := ext_cold g' | obtain ⟨x, rfl⟩ := ext_col g' | obtain ⟨x, rfl⟩ := ext_of g'); clear g') | ((with_reducible refine (HF.out _ (gr)).mono ?_); rintro e w' ⟨rfl, g'⟩; (first | obtain ⟨y, rfl⟩ := ext_cold g' | obtain ⟨y, rfl⟩ := ext_col g' | obtain ⟨y, rfl⟩ := ext_of g'); clear g') | (refine (HL.out _).mono ?_; rintro e wl ⟨rfl, rfl⟩))
    refine (HST.out _ (gr) rfl).mono ?_
    rintro e w9 ⟨a9, c9, ms9, rfl, hoe9, hms9, g9⟩
    have HG9 := Lib.hid (grew_tr (show Grew w _ from (gr)) g9)
    have HOE := Lib.hid (OwnE.mono hoe9 (show Grew w _ from (gr)).size)
    clear g9 hoe9
    go_wp2
    go_ret
    exact ⟨a9, c9, ms9, rfl, HOE.out, hms9, HG9.out⟩
end Go.Proofs.YtpmfpgbpndobpaaGreat
