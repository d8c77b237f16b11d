/- The draws of the laws of texts: a step with its program's sizes (DrawInsText), a line with them (DrawInsRead). No condition. -/
import Derived.Test.YtcdfomoglkhboaaGreatDoorDrO
import Derived.Test.YtcdfomoglkhboaaGreatDoorDrTb
import Derived.Test.YtcdfomoglkhboaaGreatDoorDrTy
namespace Go.Proofs.YtcdfomoglkhboaaGreatDoor
open Go.RowKit Go.Lib
set_option linter.unusedVariables false
set_option linter.unusedSimpArgs false
attribute [local go_sem] dg_cell dg_frozen dg_lt dg_lt1 dg_lt2 dg_ne dg_ne1 dg_ne2 dg_new dg_wen lt_s2 lt_s3 lt_s4 lt_s5 lt_s6

theorem textB_len {i : Ins} {p s : Int} (hp : p ≤ 100) (hs : s ≤ 100) : (textB i p s).length ≤ 60 := by
  unfold textB
  cases hok : insOkB i p s
  · simp
  · exact textI_short hok (to_small hok hp hs)

set_option maxRecDepth 100000 in
set_option maxHeartbeats 8000000 in
theorem DrawInsText (a : Option Addr) (n cap : Nat) (zs : List Int) (w : World) (hr : Rd w a n 1 (ints .u8 zs)) (hz : Bs zs) (hc : n ≤ cap ∧ cap ≤ maxLen) :
    Calls Tryz.prog 18 #[.slice a n cap] w fun e w' => ∃ i : Ins, ∃ p s : Nat, e = .returned (.tuple #[i.v, .int .i64 p, .int .i64 s]) ∧ p ≤ 100 ∧ s ≤ 100 ∧ Grew w w' := by
  have HR0 := Lib.hid (hr.grew (grew_al (Below.refl _ w) (.cells #[.int .i64 0, .int .i64 0, .int .i64 0, .int .i64 0, .int .i64 0, .int .i64 0, .int .i64 0, .int .i64 0] 38))); clear hr
  have HZ := Lib.hid hz; clear hz
  go_enter Tryz.func18, Tryz.ntmps18
  go_wp2_with fail
  refine (l20Open _ _ _ _ _ HR0.out HZ.out hc).mono ?_
  rintro e w1 ⟨rfl, h1, h2⟩
  have hZ1 := (Blk.new w 38 #[.int .i64 0, .int .i64 0, .int .i64 0, .int .i64 0, .int .i64 0, .int .i64 0, .int .i64 0, .int .i64 0]).grew h2
  have G1 : Grew w w1 := grew_tr (grew_al (Below.refl _ w) _) h2
  obtain ⟨g, hg⟩ : ∃ g, w.heap.size + 1 = g := ⟨_, rfl⟩
  simp only [World.size_alloc, hg] at h1 ⊢
  have hgw : w.heap.size < g := by omega
  have hne : ¬ w.heap.size = g := by omega
  have lg := h1.lt
  have H1 := Lib.hid h1
  clear h1 h2 hg HR0 HZ
  go_wp2_with fail
  refine Calls.mono (insOrG H1.out (by omega) (by omega)) ?_
  rintro e w2 ⟨v, rfl, ⟨op, d, ia, ib, rel, lo, hi, tv, rfl⟩, hr2, hc2⟩
  have HR2 := Lib.hid hr2
  have HC2 := Lib.hid hc2
  have HZ2 := Lib.hid (hZ1.chg hc2 hne)
  clear hr2 hc2 hZ1 H1
  go_wp2_with fail
  refine Calls.mono (pickG (k := 2) HR2.out (by omega) (by omega)) ?_
  rintro e w3 ⟨v, rfl, ⟨q, rfl, hq⟩, hr3, hc3⟩
  have hq := hq (by omega)
  have HR3 := Lib.hid hr3
  have HC3 := Lib.hid (ChgG.trans HC2.out hc3)
  have HZ3 := Lib.hid (HZ2.out.chg hc3 hne)
  clear hr3 hc3 HR2 HC2 HZ2
  go_wp2_with fail
  refine Calls.mono (pickG (k := 2) HR3.out (by omega) (by omega)) ?_
  rintro e w4 ⟨v, rfl, ⟨q2, rfl, hq2⟩, hr4, hc4⟩
  have hq2 := hq2 (by omega)
  have HC4 := Lib.hid (ChgG.trans HC3.out hc4)
  have HZ4 := Lib.hid (HZ3.out.chg hc4 hne)
  have HG := Lib.hid (show Grew w w4 from G1.trans (HC4.out.belowB G1.size (fun k hk => by omega)))
  clear hr4 hc4 HR3 HC3 HZ3 HC4 G1
  have lz := HZ4.out.lt
  have fz := fun j => HZ4.out.frozen j
  have z := fun j => HZ4.out.cell j
  have z0 := z 0
  have z1 := z 1
  have z2 := z 2
  have z3 := z 3
  have z4 := z 4
  have z5 := z 5
  have z6 := z 6
  have z7 := z 7
  simp only [List.getElem?_toArray, List.getElem?_cons_zero, List.getElem?_cons_succ] at z0 z1 z2 z3 z4 z5 z6 z7
  clear z
  go_wp2
  refine body_letW ?_
  intro E hE
  have HBE : Blk E w.heap.size 38 #[.int .i64 op, .int .i64 d, .int .i64 ia, .int .i64 ib, .int .i64 rel, .int .i64 lo, .int .i64 hi, .int .i64 tv] := by rw [hE]; exact ((((((((HZ4.out.set_ 0 _).set_ 1 _).set_ 2 _).set_ 3 _).set_ 4 _).set_ 5 _).set_ 6 _).set_ 7 _)
  have GE : Grew w E := by rw [hE]; repeat (first | with_reducible exact HG.out | with_reducible refine grew_set ?_ (by exact Nat.le_refl _) _)
  clear hE
  have k0 := HBE.cell 0
  have k1 := HBE.cell 1
  have k2 := HBE.cell 2
  have k3 := HBE.cell 3
  have k4 := HBE.cell 4
  have k5 := HBE.cell 5
  have k6 := HBE.cell 6
  have k7 := HBE.cell 7
  simp only [List.getElem?_toArray, List.getElem?_cons_zero, List.getElem?_cons_succ] at k0 k1 k2 k3 k4 k5 k6 k7
  have kl := HBE.lt
  refine bodyPost_ret (by simp [results, Tryz.results18, go_sem, k0, k1, k2, k3, k4, k5, k6, k7, kl]; try rfl) rfl ?_
  exact ⟨⟨op, d, ia, ib, rel, lo, hi, tv⟩, 4 - q, 10 - q2 * 4, by rw [show (4 - (q : Int)) = ((4 - q : Nat) : Int) by omega, show (10 - (q2 : Int) * 4) = ((10 - q2 * 4 : Nat) : Int) by omega], by omega, by omega, GE⟩

set_option maxRecDepth 100000 in
theorem lit14 {W : World} {b : Nat} {t : TypeId} (h : Blk W b t #[.string ⟨#[]⟩, .string ⟨#[115, 101, 116]⟩, .string ⟨#[115, 101, 116, 32, 97, 32, 48, 49]⟩, .string ⟨#[97, 110, 121, 32, 97, 32, 53, 32, 52]⟩, .string ⟨#[97, 110, 121, 32, 97, 32, 52, 32, 52]⟩, .string ⟨#[105, 102, 32, 97, 32, 60, 32, 98, 32, 57, 57]⟩, .string ⟨#[99, 97, 108, 108, 32, 97, 32, 57, 32, 98]⟩, .string ⟨#[114, 101, 116, 32, 101]⟩, .string ⟨#[97, 100, 100, 32, 97, 32, 98]⟩, .string ⟨#[97, 100, 100, 32, 97, 32, 98, 32, 99, 32, 100]⟩, .string ⟨#[106, 117, 109, 112, 32, 45, 49]⟩, .string ⟨#[97, 115, 115, 101, 114, 116, 32, 97, 32, 61, 61, 32, 98]⟩, .string ⟨#[32, 114, 101, 116, 32, 97]⟩, .string ⟨#[115, 101, 116, 32, 97, 32, 45, 48]⟩]) {q : Nat} (hq : (q : Int) < 14) : ∃ y : List UInt8, W.cell? ⟨b, q, none⟩ = some (.string ⟨y.toArray⟩) := by
  have hq' : q = 0 ∨ q = 1 ∨ q = 2 ∨ q = 3 ∨ q = 4 ∨ q = 5 ∨ q = 6 ∨ q = 7 ∨ q = 8 ∨ q = 9 ∨ q = 10 ∨ q = 11 ∨ q = 12 ∨ q = 13 := by omega
  rcases hq' with rfl | rfl | rfl | rfl | rfl | rfl | rfl | rfl | rfl | rfl | rfl | rfl | rfl | rfl <;> exact ⟨_, h.cell _⟩

set_option maxRecDepth 100000 in
set_option maxHeartbeats 8000000 in
theorem DrawInsRead (a : Option Addr) (n cap : Nat) (zs : List Int) (w : World) (hr : Rd w a n 1 (ints .u8 zs)) (hz : Bs zs) (hc : n ≤ cap ∧ cap ≤ maxLen) :
    Calls Tryz.prog 20 #[.slice a n cap] w fun e w' => ∃ l : List UInt8, ∃ p s : Nat, e = .returned (.tuple #[.string ⟨l.toArray⟩, .int .i64 p, .int .i64 s]) ∧ p ≤ 100 ∧ s ≤ 100 ∧ Grew w w' := by
  have HR0 := Lib.hid hr; clear hr
  have HZ := Lib.hid hz; clear hz
  go_enter Tryz.func20, Tryz.ntmps20
  go_wp2_with fail
  refine (l20Open _ _ _ _ _ HR0.out HZ.out hc).mono ?_
  rintro e w1 ⟨rfl, h1, h2⟩
  have G1 : Grew w w1 := h2
  obtain ⟨g, hg⟩ : ∃ g, w.heap.size = g := ⟨_, rfl⟩
  simp only [hg] at h1 ⊢
  have hgw : w.heap.size ≤ g := by omega
  have H1 := Lib.hid h1
  have lg := h1.lt
  clear h1 h2 hg HR0 HZ
  go_wp2_with fail
  refine Calls.mono (insOrG H1.out (by omega) (by omega)) ?_
  rintro e w2 ⟨v, rfl, ⟨op, d, ia, ib, rel, lo, hi, tv, rfl⟩, hr2, hc2⟩
  have HR2 := Lib.hid hr2
  have HC2 := Lib.hid hc2
  clear hr2 hc2 H1
  go_wp2_with fail
  refine Calls.mono (specTextS ⟨op, d, ia, ib, rel, lo, hi, tv⟩ 4 10 (by omega) (by omega) _) ?_
  rintro e w3 ⟨rfl, g3⟩
  have hl := textB_len (i := ⟨op, d, ia, ib, rel, lo, hi, tv⟩) (p := 4) (s := 10) (by omega) (by omega)
  generalize textB ⟨op, d, ia, ib, rel, lo, hi, tv⟩ 4 10 = l at *
  have HR3 := Lib.hid (HR2.out.grew g3)
  have HC3 := Lib.hid (ChgG.grew HC2.out g3)
  clear g3 HR2 HC2
  go_wp2_with fail
  refine Calls.mono (pickG (k := 4) HR3.out (by omega) (by omega)) ?_
  rintro e w4 ⟨v, rfl, ⟨q, rfl, hq⟩, hr4, hc4⟩
  have hq := hq (by omega)
  have HR4 := Lib.hid hr4
  have HC4 := Lib.hid (ChgG.trans HC3.out hc4)
  clear hr4 hc4 HR3 HC3
  by_cases q0 : q = 0
  · subst q0
    go_wp2_with fail
    refine Calls.mono (bentG (l := l) HR4.out (by omega) (by omega)) ?_
    rintro e w5 ⟨v, rfl, ⟨l2, rfl⟩, hr5, hc5⟩
    have HR5 := Lib.hid hr5
    have HC5 := Lib.hid (ChgG.trans HC4.out hc5)
    clear hr5 hc5 HR4 HC4
    go_wp2_with fail
    refine Calls.mono (pickG (k := 2) HR5.out (by omega) (by omega)) ?_
    rintro e wa ⟨v, rfl, ⟨qa, rfl, hqa⟩, hra, hca⟩
    have hqa := hqa (by omega)
    have RA := Lib.hid hra
    have CA := Lib.hid (ChgG.trans HC5.out hca)
    clear hra hca HR5 HC5
    go_wp2_with fail
    refine Calls.mono (pickG (k := 2) RA.out (by omega) (by omega)) ?_
    rintro e wb ⟨v, rfl, ⟨qb, rfl, hqb⟩, hrb, hcb⟩
    have hqb := hqb (by omega)
    have HG := Lib.hid (show Grew w wb from G1.trans ((ChgG.trans CA.out hcb).belowB G1.size (fun k hk => by omega)))
    clear hrb hcb RA CA
    go_wp2
    go_returns
    exact ⟨l2, 4 - qa, 10 - qb * 4, by rw [show (4 - (qa : Int)) = ((4 - qa : Nat) : Int) by omega, show (10 - (qb : Int) * 4) = ((10 - qb * 4 : Nat) : Int) by omega] <;> rfl, by omega, by omega, HG.out⟩
  by_cases q1 : q = 1
  · subst q1
    go_wp2_with fail
    refine Calls.mono (pickG (k := 14) (rd_al HR4.out _) (by omega) (by omega)) ?_
    rintro e w5 ⟨v, rfl, ⟨j, rfl, hj⟩, hr5, hc5⟩
    have hj := hj (by omega)
    have HR5 := Lib.hid hr5
    have l4 := HR4.out.lt
    obtain ⟨y, hy⟩ := lit14 ((Blk.new w4 9 #[.string ⟨#[]⟩, .string ⟨#[115, 101, 116]⟩, .string ⟨#[115, 101, 116, 32, 97, 32, 48, 49]⟩, .string ⟨#[97, 110, 121, 32, 97, 32, 53, 32, 52]⟩, .string ⟨#[97, 110, 121, 32, 97, 32, 52, 32, 52]⟩, .string ⟨#[105, 102, 32, 97, 32, 60, 32, 98, 32, 57, 57]⟩, .string ⟨#[99, 97, 108, 108, 32, 97, 32, 57, 32, 98]⟩, .string ⟨#[114, 101, 116, 32, 101]⟩, .string ⟨#[97, 100, 100, 32, 97, 32, 98]⟩, .string ⟨#[97, 100, 100, 32, 97, 32, 98, 32, 99, 32, 100]⟩, .string ⟨#[106, 117, 109, 112, 32, 45, 49]⟩, .string ⟨#[97, 115, 115, 101, 114, 116, 32, 97, 32, 61, 61, 32, 98]⟩, .string ⟨#[32, 114, 101, 116, 32, 97]⟩, .string ⟨#[115, 101, 116, 32, 97, 32, 45, 48]⟩]).chg hc5 (by omega)) hj
    have HC5 := Lib.hid (ChgG.trans (chg_al HC4.out (.cells #[.string ⟨#[]⟩, .string ⟨#[115, 101, 116]⟩, .string ⟨#[115, 101, 116, 32, 97, 32, 48, 49]⟩, .string ⟨#[97, 110, 121, 32, 97, 32, 53, 32, 52]⟩, .string ⟨#[97, 110, 121, 32, 97, 32, 52, 32, 52]⟩, .string ⟨#[105, 102, 32, 97, 32, 60, 32, 98, 32, 57, 57]⟩, .string ⟨#[99, 97, 108, 108, 32, 97, 32, 57, 32, 98]⟩, .string ⟨#[114, 101, 116, 32, 101]⟩, .string ⟨#[97, 100, 100, 32, 97, 32, 98]⟩, .string ⟨#[97, 100, 100, 32, 97, 32, 98, 32, 99, 32, 100]⟩, .string ⟨#[106, 117, 109, 112, 32, 45, 49]⟩, .string ⟨#[97, 115, 115, 101, 114, 116, 32, 97, 32, 61, 61, 32, 98]⟩, .string ⟨#[32, 114, 101, 116, 32, 97]⟩, .string ⟨#[115, 101, 116, 32, 97, 32, 45, 48]⟩] 9)) hc5)
    clear hr5 hc5 HR4 HC4 l4
    go_wp2_with fail
    refine Calls.mono (pickG (k := 2) HR5.out (by omega) (by omega)) ?_
    rintro e wa ⟨v, rfl, ⟨qa, rfl, hqa⟩, hra, hca⟩
    have hqa := hqa (by omega)
    have RA := Lib.hid hra
    have CA := Lib.hid (ChgG.trans HC5.out hca)
    clear hra hca HR5 HC5
    go_wp2_with fail
    refine Calls.mono (pickG (k := 2) RA.out (by omega) (by omega)) ?_
    rintro e wb ⟨v, rfl, ⟨qb, rfl, hqb⟩, hrb, hcb⟩
    have hqb := hqb (by omega)
    have HG := Lib.hid (show Grew w wb from G1.trans ((ChgG.trans CA.out hcb).belowB G1.size (fun k hk => by omega)))
    clear hrb hcb RA CA
    go_wp2
    go_returns
    exact ⟨y, 4 - qa, 10 - qb * 4, by rw [show (4 - (qa : Int)) = ((4 - qa : Nat) : Int) by omega, show (10 - (qb : Int) * 4) = ((10 - qb * 4 : Nat) : Int) by omega] <;> rfl, by omega, by omega, HG.out⟩
  have hq2 : ¬ (q : Int) = 0 := by omega
  have hq3 : ¬ (q : Int) = 1 := by omega
  go_wp2_with fail
  refine Calls.mono (pickG (k := 2) HR4.out (by omega) (by omega)) ?_
  rintro e wa ⟨v, rfl, ⟨qa, rfl, hqa⟩, hra, hca⟩
  have hqa := hqa (by omega)
  have RA := Lib.hid hra
  have CA := Lib.hid (ChgG.trans HC4.out hca)
  clear hra hca HR4 HC4
  go_wp2_with fail
  refine Calls.mono (pickG (k := 2) RA.out (by omega) (by omega)) ?_
  rintro e wb ⟨v, rfl, ⟨qb, rfl, hqb⟩, hrb, hcb⟩
  have hqb := hqb (by omega)
  have HG := Lib.hid (show Grew w wb from G1.trans ((ChgG.trans CA.out hcb).belowB G1.size (fun k hk => by omega)))
  clear hrb hcb RA CA
  go_wp2
  go_returns
  exact ⟨l, 4 - qa, 10 - qb * 4, by rw [show (4 - (qa : Int)) = ((4 - qa : Nat) : Int) by omega, show (10 - (qb : Int) * 4) = ((10 - qb * 4 : Nat) : Int) by omega] <;> rfl, by omega, by omega, HG.out⟩

end Go.Proofs.YtcdfomoglkhboaaGreatDoor
