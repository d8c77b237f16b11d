/- The walk of the law FnPrgPrint: the lines of a drawn program, read again. The numbers want the table, the two errors and strings.Split's bound. -/
import Derived.Test.YtcdfomoglkhboaaGreatDoorTxB
import Derived.Test.YtcdfomoglkhboaaGreatDoorPg
import Derived.Test.YtcdfomoglkhboaaGreatDoorDrTy
namespace Go.Proofs.YtcdfomoglkhboaaGreatDoor
open Go.RowKit Go.Lib
set_option linter.unusedVariables false
set_option linter.unusedSimpArgs false
attribute [local go_sem] ext_cell ext_frozen ext_lt ext_le ext_le1 lt_s2 lt_s3 lt_s4 lt_s5 lt_s6 ext_lt1 ext_lt2 ext_lt3

theorem rowT {w : World} {B : Nat} {a : Option Addr} {n cap : Nat} {ls : List (List UInt8)} (h : w.ownsRow B 9 1 (.slice a n cap) n (strs ls)) (hn : 1 ≤ n) : ∃ t, a = some ⟨t, 0, none⟩ ∧ n ≤ cap ∧ Lns t ls w := by
  have hl := h.1
  rw [strs_len, Nat.mul_one] at hl
  have hx := owns_rd h
  rcases h.2 with ⟨h1, h2⟩ | ⟨g, cap', cur, h1, hw⟩
  · omega
  · simp only [Value.slice.injEq] at h1
    obtain ⟨rfl, -, rfl⟩ := h1
    refine ⟨g, rfl, hw.2.2.1, fun j y hj => ?_⟩
    · have hj' := (List.getElem?_eq_some_iff.1 hj).1
      have := h.cellAt j (by omega)
      rw [this, strs_at, hj]
      rfl

set_option maxRecDepth 100000 in
set_option maxHeartbeats 16000000 in
theorem lawFnPrgPrint (a : Option Addr) (n c : Nat) (xs : List Int) (w : World) (En : Env w) (ML : MaxL w) (hr : Rd w a n 1 (ints .u8 xs)) (hx : Bs xs) (hc : n ≤ c ∧ c ≤ maxLen) :
    Calls Tryz.prog 3 #[.slice a n c] w fun e w' => e = .returned (.bool true) ∧ Grew w w' := by
  have HR := Lib.hid hr; clear hr
  have HX := Lib.hid hx; clear hx
  have HEn := Lib.hid En
  have HML := Lib.hid ML
  clear En ML
  by_cases h1 : (n : Int) > 1048576
  · go_enter Tryz.func3, Tryz.ntmps3
    go_wp2
    go_ret
    exact ⟨rfl, Below.refl _ _⟩
  have HC := Lib.hid hc; clear hc
  go_enter Tryz.func3, Tryz.ntmps3
  go_wp2_with fail
  refine (drawPrgPrint _ _ _ _ _ HR.out HX.out HC.out).mono ?_
  rintro e w1 ⟨pa, m, pc, ps, rfl, hp, g1⟩
  have hm := hp.2.1
  have hml := hp.2.2
  have hm63 : m ≤ 9223372036854775807 := by omega
  have HPI := Lib.hid hp.1
  have HMl := Lib.hid hml
  have HLen := Lib.hid hp.1.len
  have G1 := Lib.hid g1
  clear hp g1 HR HX HC hml
  go_wp2_with fail
  refine calls_letP ?_
  intro E2 hE
  have HB2 := Lib.hid (show Blk E2 w1.heap.size 25 #[.slice pa m pc] by rw [hE]; exact Blk.new _ _ _)
  have g2 : Grew w1 E2 := by rw [hE]; exact grew_al (Below.refl _ w1) _
  have HP2 := Lib.hid (HPI.out.grew g2)
  have G2 := Lib.hid (grew_tr G1.out g2)
  obtain ⟨b3, hb3⟩ : ∃ b, w1.heap.size = b := ⟨_, rfl⟩
  simp only [hb3] at HB2 ⊢
  clear hE g2 HPI G1 hb3
  refine Calls.mono (implPrgPrint pa m pc ps E2 HP2.out hm63 (HEn.out.grew G2.out).1) ?_
  rintro e w3 ⟨ca, cc, rfl, o3, g3⟩
  have HO3 := Lib.hid o3
  have HB3 := Lib.hid (HB2.out.grew g3)
  have HP3 := Lib.hid (HP2.out.grew g3)
  have G3 := Lib.hid (grew_tr G2.out g3)
  have z0 := HB3.out.cell 0
  have zl := HB3.out.lt
  simp only [List.getElem?_toArray, List.getElem?_cons_zero] at z0
  clear o3 g3 HB2 HP2 G2
  go_wp2_with fail
  refine Calls.mono (specPrgPrint pa m pc ps w3 HP3.out hm63) ?_
  rintro e w4 ⟨ca', cc', rfl, o4, g4⟩
  have HO4 := Lib.hid (owns_grew HO3.out g4)
  have HB4 := Lib.hid (HB3.out.grew g4)
  have HP4 := Lib.hid (HP3.out.grew g4)
  have G4 := Lib.hid (grew_tr G3.out g4)
  have HQ4 := Lib.hid (owns_rd o4)
  have hsl := printB_len ps
  have HSN := Lib.hid (rfl : printB ps = printB ps)
  obtain ⟨S, hS⟩ : ∃ S, printB ps = S := ⟨_, rfl⟩
  rw [hS] at HO4 HQ4 hsl ⊢
  have HS := Lib.hid hS
  clear o4 g4 HB3 HP3 G3 z0 zl HO3 HSN hS
  have z0 := HB4.out.cell 0
  have zl := HB4.out.lt
  simp only [List.getElem?_toArray, List.getElem?_cons_zero] at z0
  go_wp2_with fail
  refine Calls.mono (owTextsS ca S.length cc ca' cc' S w4 (owns_rd HO4.out) HQ4.out (by omega)) ?_
  rintro e w5 ⟨rfl, g5⟩
  have HO5 := Lib.hid (owns_grew HO4.out g5)
  have HB5 := Lib.hid (HB4.out.grew g5)
  have HP5 := Lib.hid (HP4.out.grew g5)
  have G5 := Lib.hid (grew_tr G4.out g5)
  clear g5 HB4 HP4 G4 z0 zl HO4 HQ4
  have z0 := HB5.out.cell 0
  have zl := HB5.out.lt
  simp only [List.getElem?_toArray, List.getElem?_cons_zero] at z0
  go_wp2_with fail
  refine Calls.mono (specPrgOk pa m pc ps w5 HP5.out hm63) ?_
  rintro e w6 ⟨rfl, g6⟩
  have HO6 := Lib.hid (owns_grew HO5.out g6)
  have HB6 := Lib.hid (HB5.out.grew g6)
  have HP6 := Lib.hid (HP5.out.grew g6)
  have G6 := Lib.hid (grew_tr G5.out g6)
  clear g6 HB5 HP5 G5 z0 zl HO5
  have z0 := HB6.out.cell 0
  have zl := HB6.out.lt
  simp only [List.getElem?_toArray, List.getElem?_cons_zero] at z0
  cases hok : prgOkB ps with
  | false =>
    have hS0 : S = [] := by rw [← HS.out]; unfold printB; rw [hok]; rfl
    subst hS0
    clear hok
    go_wp2_with fail
    refine (owOkT _).mono ?_
    rintro e W ⟨rfl, rfl⟩
    go_wp2
    go_ret
    exact ⟨rfl, G6.out⟩
  | true =>
    have hS1 : printL ps = S := by rw [← HS.out]; unfold printB; rw [hok]; rfl
    have hlen := printL_length ps
    rw [hS1, HLen.out] at hlen
    obtain ⟨t, rfl, hcap, hlns⟩ := rowT HO6.out (by omega)
    have HPP := Lib.hid fun W h1 => implPrgParseT t cc ps W h1
    rw [hS1] at HPP
    have HSz := Lib.hid (show sizeL ps = (ps.map fun p => p.code.length).sum from rfl)
    have hlen2 := Lib.hid (show S.length = 1 + m + sizeL ps from hlen)
    have HLn := Lib.hid hlns
    have hsz : sizeL ps ≤ 45 := by have := hlen2.out; omega
    have HOK := Lib.hid hok
    clear hok hlen hS1 hlns
    go_wp2_with fail
    refine Calls.mono (HPP.out _ HLn.out hcap HOK.out (HEn.out.grew G6.out) (HML.out.grew G6.out)) ?_
    rintro e w7 ⟨v, ms, rfl, ho, hms, g7⟩
    obtain ⟨va, vc, rfl⟩ := owns_slice ho.2.1
    have hv := ho.rd
    rw [hms] at hv
    rw [HLen.out] at hv ⊢
    have HB7 := Lib.hid (HB6.out.grew g7)
    have HP7 := Lib.hid (HP6.out.grew g7)
    have HV7 := Lib.hid hv
    have G7 := Lib.hid (grew_tr G6.out g7)
    clear hv ho hms g7 HB6 HP6 G6 z0 zl HPP HLn
    have zl := HB7.out.lt
    go_upto_region 10 with fail
    refine wp_letP ?_
    intro E hE
    have HB8 := Lib.hid (show Blk E b3 25 #[.slice pa m pc] by rw [hE]; exact HB7.out.alloc _)
    have HD8 := Lib.hid (show Blk E w7.heap.size 25 #[.slice va m vc] by rw [hE]; exact Blk.new _ _ _)
    have g8 : Grew w7 E := by rw [hE]; exact grew_al (Below.refl _ w7) _
    have HP8 := Lib.hid (HP7.out.grew g8)
    have HV8 := Lib.hid (HV7.out.grew g8)
    have G8 := Lib.hid (grew_tr G7.out g8)
    obtain ⟨b5, hb5⟩ : ∃ b, w7.heap.size = b := ⟨_, rfl⟩
    simp only [hb5] at HD8 ⊢
    clear hE g8 HB7 HP7 HV7 G7 zl hb5
    have z0 := HB8.out.cell 0
    have zl := HB8.out.lt
    have y0 := HD8.out.cell 0
    have yl := HD8.out.lt
    simp only [List.getElem?_toArray, List.getElem?_cons_zero] at z0 y0
    have HOW := Lib.hid fun W (g : Grew E W) => owProgS va m vc pa pc ps W (HV8.out.grew g) (HP8.out.grew g) (by omega)
    have HSI := Lib.hid fun W (g : Grew E W) => implPrgSize pa m pc ps W (HP8.out.grew g) hm HMl.out
    obtain ⟨Z, hZ⟩ : ∃ Z, sizeL ps = Z := ⟨_, rfl⟩
    rw [hZ] at HSI hlen2 hsz
    clear hZ HSz
    have hlen3 := hlen2.out
    obtain ⟨K, hK⟩ : ∃ K, S.length = K := ⟨_, rfl⟩
    rw [hK] at hlen3 ⊢
    subst hlen3
    clear hlen2 hK
    first | refine wp_region_ext2 (by kernel_rfl) (by kernel_rfl) ?_ | refine wp_region_ext (by kernel_rfl) (by kernel_rfl) ?_
    repeat (go_big_quiet_step ((first | (with_reducible exact ext_grow (HOW.out _ (gr))) | (with_reducible exact ext_grow (HSI.out _ (gr))))))
    refine wpQuiet_nil ?_
    intro _ hw'
    obtain ⟨u, hw''⟩ := hw'
    subst hw''
    go_wp2
    go_ret
    refine ⟨?_, ?_⟩
    · simp
    · exact grew_tr G8.out (gr)
end Go.Proofs.YtcdfomoglkhboaaGreatDoor
