/- The walk of the law FnInsText: texts of drawn steps, and drawn lines. The numbers want the table, the two errors and strings.Split's bound. -/
import Derived.Test.YtcdfomoglkhboaaGreatDoorDrTz
import Derived.Test.YtcdfomoglkhboaaGreatDoorDrTy
namespace Go.Proofs.YtcdfomoglkhboaaGreatDoor
open Go.RowKit Go.Lib
set_option linter.unusedVariables false
set_option linter.unusedSimpArgs false
attribute [local go_sem] ext_cell ext_frozen ext_lt ext_le ext_le1 lt_s2 lt_s3 lt_s4 lt_s5 lt_s6 ext_lt1 ext_lt2 ext_lt3

set_option maxRecDepth 100000 in
set_option maxHeartbeats 16000000 in
theorem lawFnInsText (a : Option Addr) (n c : Nat) (xs : List Int) (a' : Option Addr) (n' c' : Nat) (ys : List Int) (w : World) (En : Env w) (ML : MaxL w) (hr : Rd w a n 1 (ints .u8 xs)) (hx : Bs xs) (hc : n ≤ c ∧ c ≤ maxLen) (hr' : Rd w a' n' 1 (ints .u8 ys)) (hy : Bs ys) (hc' : n' ≤ c' ∧ c' ≤ maxLen) :
    Calls Tryz.prog 5 #[.slice a n c, .slice a' n' c'] w fun e w' => e = .returned (.bool true) ∧ Grew w w' := by
  have HR := Lib.hid hr; clear hr
  have HR' := Lib.hid hr'; clear hr'
  have HX := Lib.hid hx; clear hx
  have HY := Lib.hid hy; clear hy
  have HEn := Lib.hid En
  have HML := Lib.hid ML
  clear En ML
  by_cases h1 : (n : Int) > 1048576
  · go_enter Tryz.func5, Tryz.ntmps5
    go_wp2
    go_ret
    exact ⟨rfl, Below.refl _ _⟩
  by_cases h2 : (n' : Int) > 1048576
  · go_enter Tryz.func5, Tryz.ntmps5
    go_wp2
    go_ret
    exact ⟨rfl, Below.refl _ _⟩
  have HC := Lib.hid hc; clear hc
  have HC' := Lib.hid hc'; clear hc'
  go_enter Tryz.func5, Tryz.ntmps5
  go_wp2_with fail
  refine (DrawInsText _ _ _ _ _ HR.out HX.out HC.out).mono ?_
  rintro e w1 ⟨i, p, s, rfl, hp, hs, g1⟩
  have C1 := Lib.hid fun w => specTextS i p s (by omega) (by omega) w
  have C2 := Lib.hid fun w T => implTextS i p s (by omega) (by omega) w T
  have CO := fun w => specInsOk i p s w
  have CP := fun w => implInsOk i p s w
  have CB := fun w En ML => implInsRead (textB i p s) p s w En ML
  have HNo := Lib.hid (textB_no (i := i) (p := p) (s := s))
  have HYes := Lib.hid (fun h => lineI_B (i := i) (p := p) (s := s) h (by omega) (by omega))
  obtain ⟨bs, hbs⟩ : ∃ bs, textB i p s = bs := ⟨_, rfl⟩
  obtain ⟨ok, hok⟩ : ∃ ok, insOkB i p s = ok := ⟨_, rfl⟩
  rw [hbs] at C1 C2 CB HNo HYes
  rw [hok] at CO CP HNo HYes
  clear hbs hok hp hs
  obtain ⟨op, d, ia, ib, rel, lo, hi, tv⟩ := i
  have G1 := Lib.hid g1
  clear g1
  go_wp2_with fail
  obtain ⟨b5, hb5⟩ : ∃ b, w1.heap.size = b := ⟨_, rfl⟩
  rw [hb5]
  refine calls_letW ?_
  intro E2 hE
  have X52 := Lib.hid (show Blk E2 b5 38 #[.int .i64 op, .int .i64 d, .int .i64 ia, .int .i64 ib, .int .i64 rel, .int .i64 lo, .int .i64 hi, .int .i64 tv] by rw [hE, ← hb5]; exact Blk.new _ _ _)
  have G2 := Lib.hid (show Grew w E2 by rw [hE]; exact grew_al G1.out _)
  clear hE hb5  G1
  have z := fun j => X52.out.cell j
  have z5_0 := z 0
  have z5_1 := z 1
  have z5_2 := z 2
  have z5_3 := z 3
  have z5_4 := z 4
  have z5_5 := z 5
  have z5_6 := z 6
  have z5_7 := z 7
  simp only [List.getElem?_toArray, List.getElem?_cons_zero, List.getElem?_cons_succ] at z5_0 z5_1 z5_2 z5_3 z5_4 z5_5 z5_6 z5_7
  clear z
  have z5l := X52.out.lt
  refine Calls.mono (C2.out _ (HEn.out.grew G2.out).1) ?_
  rintro e w3 ⟨rfl, g⟩
  have G3 := Lib.hid (grew_tr G2.out g)
  have X53 := Lib.hid (X52.out.grew g)
  clear g G2 X52
  clear z5_0 z5_1 z5_2 z5_3 z5_4 z5_5 z5_6 z5_7 z5l
  have z := fun j => X53.out.cell j
  have z5_0 := z 0
  have z5_1 := z 1
  have z5_2 := z 2
  have z5_3 := z 3
  have z5_4 := z 4
  have z5_5 := z 5
  have z5_6 := z 6
  have z5_7 := z 7
  simp only [List.getElem?_toArray, List.getElem?_cons_zero, List.getElem?_cons_succ] at z5_0 z5_1 z5_2 z5_3 z5_4 z5_5 z5_6 z5_7
  clear z
  have z5l := X53.out.lt
  go_wp2_with fail
  refine Calls.mono (DrawInsRead _ _ _ _ _ (HR'.out.grew G3.out) HY.out HC'.out) ?_
  rintro e w4 ⟨l, p', s', rfl, hp', hs', g⟩
  have G4 := Lib.hid (grew_tr G3.out g)
  have X54 := Lib.hid (X53.out.grew g)
  clear g G3 X53
  have E1 := fun w => specInsRead l p' s' w
  have E2 := fun w En ML => implInsRead l p' s' w En ML
  have HLok := Lib.hid fun i => lineI_ok (l := l) (p := p') (s := s') (i := i)
  have HP' := Lib.hid hp'
  have HS' := Lib.hid hs'
  clear hp' hs'
  have tb : (bs != bs) = false := by simp
  have tl : (l != l) = false := by simp
  have tb2 : (bs == bs) = true := by simp
  have tl2 : (l == l) = true := by simp
  clear z5_0 z5_1 z5_2 z5_3 z5_4 z5_5 z5_6 z5_7 z5l
  have z := fun j => X54.out.cell j
  have z5_0 := z 0
  have z5_1 := z 1
  have z5_2 := z 2
  have z5_3 := z 3
  have z5_4 := z 4
  have z5_5 := z 5
  have z5_6 := z 6
  have z5_7 := z 7
  simp only [List.getElem?_toArray, List.getElem?_cons_zero, List.getElem?_cons_succ] at z5_0 z5_1 z5_2 z5_3 z5_4 z5_5 z5_6 z5_7
  clear z
  have z5l := X54.out.lt
  go_wp2_with fail
  cases hL : lineI l p' s' with
  | none =>
    cases ok with
    | false =>
      rw [hL] at E1 E2
      simp only [insV] at E1 E2
      have F1 := Lib.hid E1
      have F2 := Lib.hid E2
      clear E1 E2
      clear hL
      obtain rfl := HNo.out rfl
      have D0 := Lib.hid CO
      have D1 := Lib.hid CP
      clear CO CP CB
      refine Calls.mono (F2.out _ (HEn.out.grew G4.out) (HML.out.grew G4.out)) ?_
      rintro e w5 ⟨rfl, g⟩
      have G5 := Lib.hid (grew_tr G4.out g)
      have X55 := Lib.hid (X54.out.grew g)
      clear g G4 X54
      clear z5_0 z5_1 z5_2 z5_3 z5_4 z5_5 z5_6 z5_7 z5l
      have z := fun j => X55.out.cell j
      have z5_0 := z 0
      have z5_1 := z 1
      have z5_2 := z 2
      have z5_3 := z 3
      have z5_4 := z 4
      have z5_5 := z 5
      have z5_6 := z 6
      have z5_7 := z 7
      simp only [List.getElem?_toArray, List.getElem?_cons_zero, List.getElem?_cons_succ] at z5_0 z5_1 z5_2 z5_3 z5_4 z5_5 z5_6 z5_7
      clear z
      have z5l := X55.out.lt
      go_wp2_with fail
      obtain ⟨b12, hb12⟩ : ∃ b, w5.heap.size = b := ⟨_, rfl⟩
      rw [hb12]
      refine calls_letW ?_
      intro E6 hE
      have X126 := Lib.hid (show Blk E6 b12 38 #[.int .i64 0, .int .i64 0, .int .i64 0, .int .i64 0, .int .i64 0, .int .i64 0, .int .i64 0, .int .i64 0] by rw [hE, ← hb12]; exact Blk.new _ _ _)
      have X56 := Lib.hid (show Blk E6 b5 38 #[.int .i64 op, .int .i64 d, .int .i64 ia, .int .i64 ib, .int .i64 rel, .int .i64 lo, .int .i64 hi, .int .i64 tv] by rw [hE]; exact X55.out.alloc _)
      have G6 := Lib.hid (show Grew w E6 by rw [hE]; exact grew_al G5.out _)
      clear hE hb12 X55 G5
      clear z5_0 z5_1 z5_2 z5_3 z5_4 z5_5 z5_6 z5_7 z5l
      have z := fun j => X56.out.cell j
      have z5_0 := z 0
      have z5_1 := z 1
      have z5_2 := z 2
      have z5_3 := z 3
      have z5_4 := z 4
      have z5_5 := z 5
      have z5_6 := z 6
      have z5_7 := z 7
      simp only [List.getElem?_toArray, List.getElem?_cons_zero, List.getElem?_cons_succ] at z5_0 z5_1 z5_2 z5_3 z5_4 z5_5 z5_6 z5_7
      clear z
      have z5l := X56.out.lt
      have z := fun j => X126.out.cell j
      have z12_0 := z 0
      have z12_1 := z 1
      have z12_2 := z 2
      have z12_3 := z 3
      have z12_4 := z 4
      have z12_5 := z 5
      have z12_6 := z 6
      have z12_7 := z 7
      simp only [List.getElem?_toArray, List.getElem?_cons_zero, List.getElem?_cons_succ] at z12_0 z12_1 z12_2 z12_3 z12_4 z12_5 z12_6 z12_7
      clear z
      have z12l := X126.out.lt
      refine Calls.mono (F1.out _) ?_
      rintro e w7 ⟨rfl, g⟩
      have G7 := Lib.hid (grew_tr G6.out g)
      have X57 := Lib.hid (X56.out.grew g)
      have X127 := Lib.hid (X126.out.grew g)
      clear g G6 X56 X126
      clear z5_0 z5_1 z5_2 z5_3 z5_4 z5_5 z5_6 z5_7 z5l z12_0 z12_1 z12_2 z12_3 z12_4 z12_5 z12_6 z12_7 z12l
      have z := fun j => X57.out.cell j
      have z5_0 := z 0
      have z5_1 := z 1
      have z5_2 := z 2
      have z5_3 := z 3
      have z5_4 := z 4
      have z5_5 := z 5
      have z5_6 := z 6
      have z5_7 := z 7
      simp only [List.getElem?_toArray, List.getElem?_cons_zero, List.getElem?_cons_succ] at z5_0 z5_1 z5_2 z5_3 z5_4 z5_5 z5_6 z5_7
      clear z
      have z5l := X57.out.lt
      have z := fun j => X127.out.cell j
      have z12_0 := z 0
      have z12_1 := z 1
      have z12_2 := z 2
      have z12_3 := z 3
      have z12_4 := z 4
      have z12_5 := z 5
      have z12_6 := z 6
      have z12_7 := z 7
      simp only [List.getElem?_toArray, List.getElem?_cons_zero, List.getElem?_cons_succ] at z12_0 z12_1 z12_2 z12_3 z12_4 z12_5 z12_6 z12_7
      clear z
      have z12l := X127.out.lt
      go_wp2_with fail
      obtain ⟨b14, hb14⟩ : ∃ b, w7.heap.size = b := ⟨_, rfl⟩
      rw [hb14]
      refine calls_letW ?_
      intro E8 hE
      have X148 := Lib.hid (show Blk E8 b14 38 #[.int .i64 0, .int .i64 0, .int .i64 0, .int .i64 0, .int .i64 0, .int .i64 0, .int .i64 0, .int .i64 0] by rw [hE, ← hb14]; exact Blk.new _ _ _)
      have X58 := Lib.hid (show Blk E8 b5 38 #[.int .i64 op, .int .i64 d, .int .i64 ia, .int .i64 ib, .int .i64 rel, .int .i64 lo, .int .i64 hi, .int .i64 tv] by rw [hE]; exact X57.out.alloc _)
      have X128 := Lib.hid (show Blk E8 b12 38 #[.int .i64 0, .int .i64 0, .int .i64 0, .int .i64 0, .int .i64 0, .int .i64 0, .int .i64 0, .int .i64 0] by rw [hE]; exact X127.out.alloc _)
      have G8 := Lib.hid (show Grew w E8 by rw [hE]; exact grew_al G7.out _)
      clear hE hb14 X57 X127 G7
      clear z5_0 z5_1 z5_2 z5_3 z5_4 z5_5 z5_6 z5_7 z5l z12_0 z12_1 z12_2 z12_3 z12_4 z12_5 z12_6 z12_7 z12l
      have z := fun j => X58.out.cell j
      have z5_0 := z 0
      have z5_1 := z 1
      have z5_2 := z 2
      have z5_3 := z 3
      have z5_4 := z 4
      have z5_5 := z 5
      have z5_6 := z 6
      have z5_7 := z 7
      simp only [List.getElem?_toArray, List.getElem?_cons_zero, List.getElem?_cons_succ] at z5_0 z5_1 z5_2 z5_3 z5_4 z5_5 z5_6 z5_7
      clear z
      have z5l := X58.out.lt
      have z := fun j => X128.out.cell j
      have z12_0 := z 0
      have z12_1 := z 1
      have z12_2 := z 2
      have z12_3 := z 3
      have z12_4 := z 4
      have z12_5 := z 5
      have z12_6 := z 6
      have z12_7 := z 7
      simp only [List.getElem?_toArray, List.getElem?_cons_zero, List.getElem?_cons_succ] at z12_0 z12_1 z12_2 z12_3 z12_4 z12_5 z12_6 z12_7
      clear z
      have z12l := X128.out.lt
      have z := fun j => X148.out.cell j
      have z14_0 := z 0
      have z14_1 := z 1
      have z14_2 := z 2
      have z14_3 := z 3
      have z14_4 := z 4
      have z14_5 := z 5
      have z14_6 := z 6
      have z14_7 := z 7
      simp only [List.getElem?_toArray, List.getElem?_cons_zero, List.getElem?_cons_succ] at z14_0 z14_1 z14_2 z14_3 z14_4 z14_5 z14_6 z14_7
      clear z
      have z14l := X148.out.lt
      refine Calls.mono (C1.out _) ?_
      rintro e w9 ⟨rfl, g⟩
      have G9 := Lib.hid (grew_tr G8.out g)
      have X59 := Lib.hid (X58.out.grew g)
      have X129 := Lib.hid (X128.out.grew g)
      have X149 := Lib.hid (X148.out.grew g)
      clear g G8 X58 X128 X148
      clear z5_0 z5_1 z5_2 z5_3 z5_4 z5_5 z5_6 z5_7 z5l z12_0 z12_1 z12_2 z12_3 z12_4 z12_5 z12_6 z12_7 z12l z14_0 z14_1 z14_2 z14_3 z14_4 z14_5 z14_6 z14_7 z14l
      have z := fun j => X59.out.cell j
      have z5_0 := z 0
      have z5_1 := z 1
      have z5_2 := z 2
      have z5_3 := z 3
      have z5_4 := z 4
      have z5_5 := z 5
      have z5_6 := z 6
      have z5_7 := z 7
      simp only [List.getElem?_toArray, List.getElem?_cons_zero, List.getElem?_cons_succ] at z5_0 z5_1 z5_2 z5_3 z5_4 z5_5 z5_6 z5_7
      clear z
      have z5l := X59.out.lt
      have z := fun j => X129.out.cell j
      have z12_0 := z 0
      have z12_1 := z 1
      have z12_2 := z 2
      have z12_3 := z 3
      have z12_4 := z 4
      have z12_5 := z 5
      have z12_6 := z 6
      have z12_7 := z 7
      simp only [List.getElem?_toArray, List.getElem?_cons_zero, List.getElem?_cons_succ] at z12_0 z12_1 z12_2 z12_3 z12_4 z12_5 z12_6 z12_7
      clear z
      have z12l := X129.out.lt
      have z := fun j => X149.out.cell j
      have z14_0 := z 0
      have z14_1 := z 1
      have z14_2 := z 2
      have z14_3 := z 3
      have z14_4 := z 4
      have z14_5 := z 5
      have z14_6 := z 6
      have z14_7 := z 7
      simp only [List.getElem?_toArray, List.getElem?_cons_zero, List.getElem?_cons_succ] at z14_0 z14_1 z14_2 z14_3 z14_4 z14_5 z14_6 z14_7
      clear z
      have z14l := X149.out.lt
      go_wp2_with fail
      refine Calls.mono (D0.out _) ?_
      rintro e w10 ⟨rfl, g⟩
      have G10 := Lib.hid (grew_tr G9.out g)
      have X510 := Lib.hid (X59.out.grew g)
      have X1210 := Lib.hid (X129.out.grew g)
      have X1410 := Lib.hid (X149.out.grew g)
      clear g G9 X59 X129 X149
      clear z5_0 z5_1 z5_2 z5_3 z5_4 z5_5 z5_6 z5_7 z5l z12_0 z12_1 z12_2 z12_3 z12_4 z12_5 z12_6 z12_7 z12l z14_0 z14_1 z14_2 z14_3 z14_4 z14_5 z14_6 z14_7 z14l
      have z := fun j => X510.out.cell j
      have z5_0 := z 0
      have z5_1 := z 1
      have z5_2 := z 2
      have z5_3 := z 3
      have z5_4 := z 4
      have z5_5 := z 5
      have z5_6 := z 6
      have z5_7 := z 7
      simp only [List.getElem?_toArray, List.getElem?_cons_zero, List.getElem?_cons_succ] at z5_0 z5_1 z5_2 z5_3 z5_4 z5_5 z5_6 z5_7
      clear z
      have z5l := X510.out.lt
      have z := fun j => X1210.out.cell j
      have z12_0 := z 0
      have z12_1 := z 1
      have z12_2 := z 2
      have z12_3 := z 3
      have z12_4 := z 4
      have z12_5 := z 5
      have z12_6 := z 6
      have z12_7 := z 7
      simp only [List.getElem?_toArray, List.getElem?_cons_zero, List.getElem?_cons_succ] at z12_0 z12_1 z12_2 z12_3 z12_4 z12_5 z12_6 z12_7
      clear z
      have z12l := X1210.out.lt
      have z := fun j => X1410.out.cell j
      have z14_0 := z 0
      have z14_1 := z 1
      have z14_2 := z 2
      have z14_3 := z 3
      have z14_4 := z 4
      have z14_5 := z 5
      have z14_6 := z 6
      have z14_7 := z 7
      simp only [List.getElem?_toArray, List.getElem?_cons_zero, List.getElem?_cons_succ] at z14_0 z14_1 z14_2 z14_3 z14_4 z14_5 z14_6 z14_7
      clear z
      have z14l := X1410.out.lt
      go_wp2_with fail
      refine Calls.mono (D1.out _) ?_
      rintro e w11 ⟨rfl, g⟩
      have G11 := Lib.hid (grew_tr G10.out g)
      have X511 := Lib.hid (X510.out.grew g)
      have X1211 := Lib.hid (X1210.out.grew g)
      have X1411 := Lib.hid (X1410.out.grew g)
      clear g G10 X510 X1210 X1410
      clear z5_0 z5_1 z5_2 z5_3 z5_4 z5_5 z5_6 z5_7 z5l z12_0 z12_1 z12_2 z12_3 z12_4 z12_5 z12_6 z12_7 z12l z14_0 z14_1 z14_2 z14_3 z14_4 z14_5 z14_6 z14_7 z14l
      have z := fun j => X511.out.cell j
      have z5_0 := z 0
      have z5_1 := z 1
      have z5_2 := z 2
      have z5_3 := z 3
      have z5_4 := z 4
      have z5_5 := z 5
      have z5_6 := z 6
      have z5_7 := z 7
      simp only [List.getElem?_toArray, List.getElem?_cons_zero, List.getElem?_cons_succ] at z5_0 z5_1 z5_2 z5_3 z5_4 z5_5 z5_6 z5_7
      clear z
      have z5l := X511.out.lt
      have z := fun j => X1211.out.cell j
      have z12_0 := z 0
      have z12_1 := z 1
      have z12_2 := z 2
      have z12_3 := z 3
      have z12_4 := z 4
      have z12_5 := z 5
      have z12_6 := z 6
      have z12_7 := z 7
      simp only [List.getElem?_toArray, List.getElem?_cons_zero, List.getElem?_cons_succ] at z12_0 z12_1 z12_2 z12_3 z12_4 z12_5 z12_6 z12_7
      clear z
      have z12l := X1211.out.lt
      have z := fun j => X1411.out.cell j
      have z14_0 := z 0
      have z14_1 := z 1
      have z14_2 := z 2
      have z14_3 := z 3
      have z14_4 := z 4
      have z14_5 := z 5
      have z14_6 := z 6
      have z14_7 := z 7
      simp only [List.getElem?_toArray, List.getElem?_cons_zero, List.getElem?_cons_succ] at z14_0 z14_1 z14_2 z14_3 z14_4 z14_5 z14_6 z14_7
      clear z
      have z14l := X1411.out.lt
      go_wp2_with fail
      refine (owOkT _).mono ?_
      rintro e W ⟨rfl, rfl⟩
      go_wp2
      go_ret
      exact ⟨rfl, G11.out⟩
    | true =>
      rw [hL] at E1 E2
      simp only [insV] at E1 E2
      have F1 := Lib.hid E1
      have F2 := Lib.hid E2
      clear E1 E2
      clear hL
      rw [HYes.out rfl] at CB
      simp only [insV] at CB
      have D2 := Lib.hid CB
      have D0 := Lib.hid CO
      have D1 := Lib.hid CP
      clear CO CP CB
      refine Calls.mono (F2.out _ (HEn.out.grew G4.out) (HML.out.grew G4.out)) ?_
      rintro e w5 ⟨rfl, g⟩
      have G5 := Lib.hid (grew_tr G4.out g)
      have X55 := Lib.hid (X54.out.grew g)
      clear g G4 X54
      clear z5_0 z5_1 z5_2 z5_3 z5_4 z5_5 z5_6 z5_7 z5l
      have z := fun j => X55.out.cell j
      have z5_0 := z 0
      have z5_1 := z 1
      have z5_2 := z 2
      have z5_3 := z 3
      have z5_4 := z 4
      have z5_5 := z 5
      have z5_6 := z 6
      have z5_7 := z 7
      simp only [List.getElem?_toArray, List.getElem?_cons_zero, List.getElem?_cons_succ] at z5_0 z5_1 z5_2 z5_3 z5_4 z5_5 z5_6 z5_7
      clear z
      have z5l := X55.out.lt
      go_wp2_with fail
      obtain ⟨b12, hb12⟩ : ∃ b, w5.heap.size = b := ⟨_, rfl⟩
      rw [hb12]
      refine calls_letW ?_
      intro E6 hE
      have X126 := Lib.hid (show Blk E6 b12 38 #[.int .i64 0, .int .i64 0, .int .i64 0, .int .i64 0, .int .i64 0, .int .i64 0, .int .i64 0, .int .i64 0] by rw [hE, ← hb12]; exact Blk.new _ _ _)
      have X56 := Lib.hid (show Blk E6 b5 38 #[.int .i64 op, .int .i64 d, .int .i64 ia, .int .i64 ib, .int .i64 rel, .int .i64 lo, .int .i64 hi, .int .i64 tv] by rw [hE]; exact X55.out.alloc _)
      have G6 := Lib.hid (show Grew w E6 by rw [hE]; exact grew_al G5.out _)
      clear hE hb12 X55 G5
      clear z5_0 z5_1 z5_2 z5_3 z5_4 z5_5 z5_6 z5_7 z5l
      have z := fun j => X56.out.cell j
      have z5_0 := z 0
      have z5_1 := z 1
      have z5_2 := z 2
      have z5_3 := z 3
      have z5_4 := z 4
      have z5_5 := z 5
      have z5_6 := z 6
      have z5_7 := z 7
      simp only [List.getElem?_toArray, List.getElem?_cons_zero, List.getElem?_cons_succ] at z5_0 z5_1 z5_2 z5_3 z5_4 z5_5 z5_6 z5_7
      clear z
      have z5l := X56.out.lt
      have z := fun j => X126.out.cell j
      have z12_0 := z 0
      have z12_1 := z 1
      have z12_2 := z 2
      have z12_3 := z 3
      have z12_4 := z 4
      have z12_5 := z 5
      have z12_6 := z 6
      have z12_7 := z 7
      simp only [List.getElem?_toArray, List.getElem?_cons_zero, List.getElem?_cons_succ] at z12_0 z12_1 z12_2 z12_3 z12_4 z12_5 z12_6 z12_7
      clear z
      have z12l := X126.out.lt
      refine Calls.mono (F1.out _) ?_
      rintro e w7 ⟨rfl, g⟩
      have G7 := Lib.hid (grew_tr G6.out g)
      have X57 := Lib.hid (X56.out.grew g)
      have X127 := Lib.hid (X126.out.grew g)
      clear g G6 X56 X126
      clear z5_0 z5_1 z5_2 z5_3 z5_4 z5_5 z5_6 z5_7 z5l z12_0 z12_1 z12_2 z12_3 z12_4 z12_5 z12_6 z12_7 z12l
      have z := fun j => X57.out.cell j
      have z5_0 := z 0
      have z5_1 := z 1
      have z5_2 := z 2
      have z5_3 := z 3
      have z5_4 := z 4
      have z5_5 := z 5
      have z5_6 := z 6
      have z5_7 := z 7
      simp only [List.getElem?_toArray, List.getElem?_cons_zero, List.getElem?_cons_succ] at z5_0 z5_1 z5_2 z5_3 z5_4 z5_5 z5_6 z5_7
      clear z
      have z5l := X57.out.lt
      have z := fun j => X127.out.cell j
      have z12_0 := z 0
      have z12_1 := z 1
      have z12_2 := z 2
      have z12_3 := z 3
      have z12_4 := z 4
      have z12_5 := z 5
      have z12_6 := z 6
      have z12_7 := z 7
      simp only [List.getElem?_toArray, List.getElem?_cons_zero, List.getElem?_cons_succ] at z12_0 z12_1 z12_2 z12_3 z12_4 z12_5 z12_6 z12_7
      clear z
      have z12l := X127.out.lt
      go_wp2_with fail
      obtain ⟨b14, hb14⟩ : ∃ b, w7.heap.size = b := ⟨_, rfl⟩
      rw [hb14]
      refine calls_letW ?_
      intro E8 hE
      have X148 := Lib.hid (show Blk E8 b14 38 #[.int .i64 0, .int .i64 0, .int .i64 0, .int .i64 0, .int .i64 0, .int .i64 0, .int .i64 0, .int .i64 0] by rw [hE, ← hb14]; exact Blk.new _ _ _)
      have X58 := Lib.hid (show Blk E8 b5 38 #[.int .i64 op, .int .i64 d, .int .i64 ia, .int .i64 ib, .int .i64 rel, .int .i64 lo, .int .i64 hi, .int .i64 tv] by rw [hE]; exact X57.out.alloc _)
      have X128 := Lib.hid (show Blk E8 b12 38 #[.int .i64 0, .int .i64 0, .int .i64 0, .int .i64 0, .int .i64 0, .int .i64 0, .int .i64 0, .int .i64 0] by rw [hE]; exact X127.out.alloc _)
      have G8 := Lib.hid (show Grew w E8 by rw [hE]; exact grew_al G7.out _)
      clear hE hb14 X57 X127 G7
      clear z5_0 z5_1 z5_2 z5_3 z5_4 z5_5 z5_6 z5_7 z5l z12_0 z12_1 z12_2 z12_3 z12_4 z12_5 z12_6 z12_7 z12l
      have z := fun j => X58.out.cell j
      have z5_0 := z 0
      have z5_1 := z 1
      have z5_2 := z 2
      have z5_3 := z 3
      have z5_4 := z 4
      have z5_5 := z 5
      have z5_6 := z 6
      have z5_7 := z 7
      simp only [List.getElem?_toArray, List.getElem?_cons_zero, List.getElem?_cons_succ] at z5_0 z5_1 z5_2 z5_3 z5_4 z5_5 z5_6 z5_7
      clear z
      have z5l := X58.out.lt
      have z := fun j => X128.out.cell j
      have z12_0 := z 0
      have z12_1 := z 1
      have z12_2 := z 2
      have z12_3 := z 3
      have z12_4 := z 4
      have z12_5 := z 5
      have z12_6 := z 6
      have z12_7 := z 7
      simp only [List.getElem?_toArray, List.getElem?_cons_zero, List.getElem?_cons_succ] at z12_0 z12_1 z12_2 z12_3 z12_4 z12_5 z12_6 z12_7
      clear z
      have z12l := X128.out.lt
      have z := fun j => X148.out.cell j
      have z14_0 := z 0
      have z14_1 := z 1
      have z14_2 := z 2
      have z14_3 := z 3
      have z14_4 := z 4
      have z14_5 := z 5
      have z14_6 := z 6
      have z14_7 := z 7
      simp only [List.getElem?_toArray, List.getElem?_cons_zero, List.getElem?_cons_succ] at z14_0 z14_1 z14_2 z14_3 z14_4 z14_5 z14_6 z14_7
      clear z
      have z14l := X148.out.lt
      refine Calls.mono (C1.out _) ?_
      rintro e w9 ⟨rfl, g⟩
      have G9 := Lib.hid (grew_tr G8.out g)
      have X59 := Lib.hid (X58.out.grew g)
      have X129 := Lib.hid (X128.out.grew g)
      have X149 := Lib.hid (X148.out.grew g)
      clear g G8 X58 X128 X148
      clear z5_0 z5_1 z5_2 z5_3 z5_4 z5_5 z5_6 z5_7 z5l z12_0 z12_1 z12_2 z12_3 z12_4 z12_5 z12_6 z12_7 z12l z14_0 z14_1 z14_2 z14_3 z14_4 z14_5 z14_6 z14_7 z14l
      have z := fun j => X59.out.cell j
      have z5_0 := z 0
      have z5_1 := z 1
      have z5_2 := z 2
      have z5_3 := z 3
      have z5_4 := z 4
      have z5_5 := z 5
      have z5_6 := z 6
      have z5_7 := z 7
      simp only [List.getElem?_toArray, List.getElem?_cons_zero, List.getElem?_cons_succ] at z5_0 z5_1 z5_2 z5_3 z5_4 z5_5 z5_6 z5_7
      clear z
      have z5l := X59.out.lt
      have z := fun j => X129.out.cell j
      have z12_0 := z 0
      have z12_1 := z 1
      have z12_2 := z 2
      have z12_3 := z 3
      have z12_4 := z 4
      have z12_5 := z 5
      have z12_6 := z 6
      have z12_7 := z 7
      simp only [List.getElem?_toArray, List.getElem?_cons_zero, List.getElem?_cons_succ] at z12_0 z12_1 z12_2 z12_3 z12_4 z12_5 z12_6 z12_7
      clear z
      have z12l := X129.out.lt
      have z := fun j => X149.out.cell j
      have z14_0 := z 0
      have z14_1 := z 1
      have z14_2 := z 2
      have z14_3 := z 3
      have z14_4 := z 4
      have z14_5 := z 5
      have z14_6 := z 6
      have z14_7 := z 7
      simp only [List.getElem?_toArray, List.getElem?_cons_zero, List.getElem?_cons_succ] at z14_0 z14_1 z14_2 z14_3 z14_4 z14_5 z14_6 z14_7
      clear z
      have z14l := X149.out.lt
      go_wp2_with fail
      refine Calls.mono (D0.out _) ?_
      rintro e w10 ⟨rfl, g⟩
      have G10 := Lib.hid (grew_tr G9.out g)
      have X510 := Lib.hid (X59.out.grew g)
      have X1210 := Lib.hid (X129.out.grew g)
      have X1410 := Lib.hid (X149.out.grew g)
      clear g G9 X59 X129 X149
      clear z5_0 z5_1 z5_2 z5_3 z5_4 z5_5 z5_6 z5_7 z5l z12_0 z12_1 z12_2 z12_3 z12_4 z12_5 z12_6 z12_7 z12l z14_0 z14_1 z14_2 z14_3 z14_4 z14_5 z14_6 z14_7 z14l
      have z := fun j => X510.out.cell j
      have z5_0 := z 0
      have z5_1 := z 1
      have z5_2 := z 2
      have z5_3 := z 3
      have z5_4 := z 4
      have z5_5 := z 5
      have z5_6 := z 6
      have z5_7 := z 7
      simp only [List.getElem?_toArray, List.getElem?_cons_zero, List.getElem?_cons_succ] at z5_0 z5_1 z5_2 z5_3 z5_4 z5_5 z5_6 z5_7
      clear z
      have z5l := X510.out.lt
      have z := fun j => X1210.out.cell j
      have z12_0 := z 0
      have z12_1 := z 1
      have z12_2 := z 2
      have z12_3 := z 3
      have z12_4 := z 4
      have z12_5 := z 5
      have z12_6 := z 6
      have z12_7 := z 7
      simp only [List.getElem?_toArray, List.getElem?_cons_zero, List.getElem?_cons_succ] at z12_0 z12_1 z12_2 z12_3 z12_4 z12_5 z12_6 z12_7
      clear z
      have z12l := X1210.out.lt
      have z := fun j => X1410.out.cell j
      have z14_0 := z 0
      have z14_1 := z 1
      have z14_2 := z 2
      have z14_3 := z 3
      have z14_4 := z 4
      have z14_5 := z 5
      have z14_6 := z 6
      have z14_7 := z 7
      simp only [List.getElem?_toArray, List.getElem?_cons_zero, List.getElem?_cons_succ] at z14_0 z14_1 z14_2 z14_3 z14_4 z14_5 z14_6 z14_7
      clear z
      have z14l := X1410.out.lt
      go_wp2_with fail
      refine Calls.mono (D2.out _ (HEn.out.grew G10.out) (HML.out.grew G10.out)) ?_
      rintro e w11 ⟨rfl, g⟩
      have G11 := Lib.hid (grew_tr G10.out g)
      have X511 := Lib.hid (X510.out.grew g)
      have X1211 := Lib.hid (X1210.out.grew g)
      have X1411 := Lib.hid (X1410.out.grew g)
      clear g G10 X510 X1210 X1410
      clear z5_0 z5_1 z5_2 z5_3 z5_4 z5_5 z5_6 z5_7 z5l z12_0 z12_1 z12_2 z12_3 z12_4 z12_5 z12_6 z12_7 z12l z14_0 z14_1 z14_2 z14_3 z14_4 z14_5 z14_6 z14_7 z14l
      have z := fun j => X511.out.cell j
      have z5_0 := z 0
      have z5_1 := z 1
      have z5_2 := z 2
      have z5_3 := z 3
      have z5_4 := z 4
      have z5_5 := z 5
      have z5_6 := z 6
      have z5_7 := z 7
      simp only [List.getElem?_toArray, List.getElem?_cons_zero, List.getElem?_cons_succ] at z5_0 z5_1 z5_2 z5_3 z5_4 z5_5 z5_6 z5_7
      clear z
      have z5l := X511.out.lt
      have z := fun j => X1211.out.cell j
      have z12_0 := z 0
      have z12_1 := z 1
      have z12_2 := z 2
      have z12_3 := z 3
      have z12_4 := z 4
      have z12_5 := z 5
      have z12_6 := z 6
      have z12_7 := z 7
      simp only [List.getElem?_toArray, List.getElem?_cons_zero, List.getElem?_cons_succ] at z12_0 z12_1 z12_2 z12_3 z12_4 z12_5 z12_6 z12_7
      clear z
      have z12l := X1211.out.lt
      have z := fun j => X1411.out.cell j
      have z14_0 := z 0
      have z14_1 := z 1
      have z14_2 := z 2
      have z14_3 := z 3
      have z14_4 := z 4
      have z14_5 := z 5
      have z14_6 := z 6
      have z14_7 := z 7
      simp only [List.getElem?_toArray, List.getElem?_cons_zero, List.getElem?_cons_succ] at z14_0 z14_1 z14_2 z14_3 z14_4 z14_5 z14_6 z14_7
      clear z
      have z14l := X1411.out.lt
      go_wp2_with fail
      obtain ⟨b16, hb16⟩ : ∃ b, w11.heap.size = b := ⟨_, rfl⟩
      rw [hb16]
      refine calls_letW ?_
      intro E12 hE
      have X1612 := Lib.hid (show Blk E12 b16 38 #[.int .i64 op, .int .i64 d, .int .i64 ia, .int .i64 ib, .int .i64 rel, .int .i64 lo, .int .i64 hi, .int .i64 tv] by rw [hE, ← hb16]; exact Blk.new _ _ _)
      have X512 := Lib.hid (show Blk E12 b5 38 #[.int .i64 op, .int .i64 d, .int .i64 ia, .int .i64 ib, .int .i64 rel, .int .i64 lo, .int .i64 hi, .int .i64 tv] by rw [hE]; exact X511.out.alloc _)
      have X1212 := Lib.hid (show Blk E12 b12 38 #[.int .i64 0, .int .i64 0, .int .i64 0, .int .i64 0, .int .i64 0, .int .i64 0, .int .i64 0, .int .i64 0] by rw [hE]; exact X1211.out.alloc _)
      have X1412 := Lib.hid (show Blk E12 b14 38 #[.int .i64 0, .int .i64 0, .int .i64 0, .int .i64 0, .int .i64 0, .int .i64 0, .int .i64 0, .int .i64 0] by rw [hE]; exact X1411.out.alloc _)
      have G12 := Lib.hid (show Grew w E12 by rw [hE]; exact grew_al G11.out _)
      clear hE hb16 X511 X1211 X1411 G11
      clear z5_0 z5_1 z5_2 z5_3 z5_4 z5_5 z5_6 z5_7 z5l z12_0 z12_1 z12_2 z12_3 z12_4 z12_5 z12_6 z12_7 z12l z14_0 z14_1 z14_2 z14_3 z14_4 z14_5 z14_6 z14_7 z14l
      have z := fun j => X512.out.cell j
      have z5_0 := z 0
      have z5_1 := z 1
      have z5_2 := z 2
      have z5_3 := z 3
      have z5_4 := z 4
      have z5_5 := z 5
      have z5_6 := z 6
      have z5_7 := z 7
      simp only [List.getElem?_toArray, List.getElem?_cons_zero, List.getElem?_cons_succ] at z5_0 z5_1 z5_2 z5_3 z5_4 z5_5 z5_6 z5_7
      clear z
      have z5l := X512.out.lt
      have z := fun j => X1212.out.cell j
      have z12_0 := z 0
      have z12_1 := z 1
      have z12_2 := z 2
      have z12_3 := z 3
      have z12_4 := z 4
      have z12_5 := z 5
      have z12_6 := z 6
      have z12_7 := z 7
      simp only [List.getElem?_toArray, List.getElem?_cons_zero, List.getElem?_cons_succ] at z12_0 z12_1 z12_2 z12_3 z12_4 z12_5 z12_6 z12_7
      clear z
      have z12l := X1212.out.lt
      have z := fun j => X1412.out.cell j
      have z14_0 := z 0
      have z14_1 := z 1
      have z14_2 := z 2
      have z14_3 := z 3
      have z14_4 := z 4
      have z14_5 := z 5
      have z14_6 := z 6
      have z14_7 := z 7
      simp only [List.getElem?_toArray, List.getElem?_cons_zero, List.getElem?_cons_succ] at z14_0 z14_1 z14_2 z14_3 z14_4 z14_5 z14_6 z14_7
      clear z
      have z14l := X1412.out.lt
      have z := fun j => X1612.out.cell j
      have z16_0 := z 0
      have z16_1 := z 1
      have z16_2 := z 2
      have z16_3 := z 3
      have z16_4 := z 4
      have z16_5 := z 5
      have z16_6 := z 6
      have z16_7 := z 7
      simp only [List.getElem?_toArray, List.getElem?_cons_zero, List.getElem?_cons_succ] at z16_0 z16_1 z16_2 z16_3 z16_4 z16_5 z16_6 z16_7
      clear z
      have z16l := X1612.out.lt
      refine Calls.mono (D1.out _) ?_
      rintro e w13 ⟨rfl, g⟩
      have G13 := Lib.hid (grew_tr G12.out g)
      have X513 := Lib.hid (X512.out.grew g)
      have X1213 := Lib.hid (X1212.out.grew g)
      have X1413 := Lib.hid (X1412.out.grew g)
      have X1613 := Lib.hid (X1612.out.grew g)
      clear g G12 X512 X1212 X1412 X1612
      clear z5_0 z5_1 z5_2 z5_3 z5_4 z5_5 z5_6 z5_7 z5l z12_0 z12_1 z12_2 z12_3 z12_4 z12_5 z12_6 z12_7 z12l z14_0 z14_1 z14_2 z14_3 z14_4 z14_5 z14_6 z14_7 z14l z16_0 z16_1 z16_2 z16_3 z16_4 z16_5 z16_6 z16_7 z16l
      have z := fun j => X513.out.cell j
      have z5_0 := z 0
      have z5_1 := z 1
      have z5_2 := z 2
      have z5_3 := z 3
      have z5_4 := z 4
      have z5_5 := z 5
      have z5_6 := z 6
      have z5_7 := z 7
      simp only [List.getElem?_toArray, List.getElem?_cons_zero, List.getElem?_cons_succ] at z5_0 z5_1 z5_2 z5_3 z5_4 z5_5 z5_6 z5_7
      clear z
      have z5l := X513.out.lt
      have z := fun j => X1213.out.cell j
      have z12_0 := z 0
      have z12_1 := z 1
      have z12_2 := z 2
      have z12_3 := z 3
      have z12_4 := z 4
      have z12_5 := z 5
      have z12_6 := z 6
      have z12_7 := z 7
      simp only [List.getElem?_toArray, List.getElem?_cons_zero, List.getElem?_cons_succ] at z12_0 z12_1 z12_2 z12_3 z12_4 z12_5 z12_6 z12_7
      clear z
      have z12l := X1213.out.lt
      have z := fun j => X1413.out.cell j
      have z14_0 := z 0
      have z14_1 := z 1
      have z14_2 := z 2
      have z14_3 := z 3
      have z14_4 := z 4
      have z14_5 := z 5
      have z14_6 := z 6
      have z14_7 := z 7
      simp only [List.getElem?_toArray, List.getElem?_cons_zero, List.getElem?_cons_succ] at z14_0 z14_1 z14_2 z14_3 z14_4 z14_5 z14_6 z14_7
      clear z
      have z14l := X1413.out.lt
      have z := fun j => X1613.out.cell j
      have z16_0 := z 0
      have z16_1 := z 1
      have z16_2 := z 2
      have z16_3 := z 3
      have z16_4 := z 4
      have z16_5 := z 5
      have z16_6 := z 6
      have z16_7 := z 7
      simp only [List.getElem?_toArray, List.getElem?_cons_zero, List.getElem?_cons_succ] at z16_0 z16_1 z16_2 z16_3 z16_4 z16_5 z16_6 z16_7
      clear z
      have z16l := X1613.out.lt
      go_wp2
      go_ret
      exact ⟨rfl, G13.out⟩
  | some j =>
    obtain ⟨jo, jd, ja, jb, jr, jl, jh, jt⟩ := j
    cases ok with
    | false =>
      rw [hL] at E1 E2
      simp only [insV] at E1 E2
      have F1 := Lib.hid E1
      have F2 := Lib.hid E2
      clear E1 E2
      have K1 := fun w => implInsOk ⟨jo, jd, ja, jb, jr, jl, jh, jt⟩ p' s' w
      rw [(HLok.out _ hL).1] at K1
      have K2 := fun w T => implTextS ⟨jo, jd, ja, jb, jr, jl, jh, jt⟩ p' s' (by have := HP'.out; omega) (by have := HS'.out; omega) w T
      rw [(HLok.out _ hL).2] at K2
      have M1 := Lib.hid K1
      have M2 := Lib.hid K2
      clear K1 K2
      clear hL
      obtain rfl := HNo.out rfl
      have D0 := Lib.hid CO
      have D1 := Lib.hid CP
      clear CO CP CB
      refine Calls.mono (F2.out _ (HEn.out.grew G4.out) (HML.out.grew G4.out)) ?_
      rintro e w5 ⟨rfl, g⟩
      have G5 := Lib.hid (grew_tr G4.out g)
      have X55 := Lib.hid (X54.out.grew g)
      clear g G4 X54
      clear z5_0 z5_1 z5_2 z5_3 z5_4 z5_5 z5_6 z5_7 z5l
      have z := fun j => X55.out.cell j
      have z5_0 := z 0
      have z5_1 := z 1
      have z5_2 := z 2
      have z5_3 := z 3
      have z5_4 := z 4
      have z5_5 := z 5
      have z5_6 := z 6
      have z5_7 := z 7
      simp only [List.getElem?_toArray, List.getElem?_cons_zero, List.getElem?_cons_succ] at z5_0 z5_1 z5_2 z5_3 z5_4 z5_5 z5_6 z5_7
      clear z
      have z5l := X55.out.lt
      go_wp2_with fail
      obtain ⟨b12, hb12⟩ : ∃ b, w5.heap.size = b := ⟨_, rfl⟩
      rw [hb12]
      refine calls_letW ?_
      intro E6 hE
      have X126 := Lib.hid (show Blk E6 b12 38 #[.int .i64 jo, .int .i64 jd, .int .i64 ja, .int .i64 jb, .int .i64 jr, .int .i64 jl, .int .i64 jh, .int .i64 jt] by rw [hE, ← hb12]; exact Blk.new _ _ _)
      have X56 := Lib.hid (show Blk E6 b5 38 #[.int .i64 op, .int .i64 d, .int .i64 ia, .int .i64 ib, .int .i64 rel, .int .i64 lo, .int .i64 hi, .int .i64 tv] by rw [hE]; exact X55.out.alloc _)
      have G6 := Lib.hid (show Grew w E6 by rw [hE]; exact grew_al G5.out _)
      clear hE hb12 X55 G5
      clear z5_0 z5_1 z5_2 z5_3 z5_4 z5_5 z5_6 z5_7 z5l
      have z := fun j => X56.out.cell j
      have z5_0 := z 0
      have z5_1 := z 1
      have z5_2 := z 2
      have z5_3 := z 3
      have z5_4 := z 4
      have z5_5 := z 5
      have z5_6 := z 6
      have z5_7 := z 7
      simp only [List.getElem?_toArray, List.getElem?_cons_zero, List.getElem?_cons_succ] at z5_0 z5_1 z5_2 z5_3 z5_4 z5_5 z5_6 z5_7
      clear z
      have z5l := X56.out.lt
      have z := fun j => X126.out.cell j
      have z12_0 := z 0
      have z12_1 := z 1
      have z12_2 := z 2
      have z12_3 := z 3
      have z12_4 := z 4
      have z12_5 := z 5
      have z12_6 := z 6
      have z12_7 := z 7
      simp only [List.getElem?_toArray, List.getElem?_cons_zero, List.getElem?_cons_succ] at z12_0 z12_1 z12_2 z12_3 z12_4 z12_5 z12_6 z12_7
      clear z
      have z12l := X126.out.lt
      refine Calls.mono (F1.out _) ?_
      rintro e w7 ⟨rfl, g⟩
      have G7 := Lib.hid (grew_tr G6.out g)
      have X57 := Lib.hid (X56.out.grew g)
      have X127 := Lib.hid (X126.out.grew g)
      clear g G6 X56 X126
      clear z5_0 z5_1 z5_2 z5_3 z5_4 z5_5 z5_6 z5_7 z5l z12_0 z12_1 z12_2 z12_3 z12_4 z12_5 z12_6 z12_7 z12l
      have z := fun j => X57.out.cell j
      have z5_0 := z 0
      have z5_1 := z 1
      have z5_2 := z 2
      have z5_3 := z 3
      have z5_4 := z 4
      have z5_5 := z 5
      have z5_6 := z 6
      have z5_7 := z 7
      simp only [List.getElem?_toArray, List.getElem?_cons_zero, List.getElem?_cons_succ] at z5_0 z5_1 z5_2 z5_3 z5_4 z5_5 z5_6 z5_7
      clear z
      have z5l := X57.out.lt
      have z := fun j => X127.out.cell j
      have z12_0 := z 0
      have z12_1 := z 1
      have z12_2 := z 2
      have z12_3 := z 3
      have z12_4 := z 4
      have z12_5 := z 5
      have z12_6 := z 6
      have z12_7 := z 7
      simp only [List.getElem?_toArray, List.getElem?_cons_zero, List.getElem?_cons_succ] at z12_0 z12_1 z12_2 z12_3 z12_4 z12_5 z12_6 z12_7
      clear z
      have z12l := X127.out.lt
      go_wp2_with fail
      obtain ⟨b14, hb14⟩ : ∃ b, w7.heap.size = b := ⟨_, rfl⟩
      rw [hb14]
      refine calls_letW ?_
      intro E8 hE
      have X148 := Lib.hid (show Blk E8 b14 38 #[.int .i64 jo, .int .i64 jd, .int .i64 ja, .int .i64 jb, .int .i64 jr, .int .i64 jl, .int .i64 jh, .int .i64 jt] by rw [hE, ← hb14]; exact Blk.new _ _ _)
      have X58 := Lib.hid (show Blk E8 b5 38 #[.int .i64 op, .int .i64 d, .int .i64 ia, .int .i64 ib, .int .i64 rel, .int .i64 lo, .int .i64 hi, .int .i64 tv] by rw [hE]; exact X57.out.alloc _)
      have X128 := Lib.hid (show Blk E8 b12 38 #[.int .i64 jo, .int .i64 jd, .int .i64 ja, .int .i64 jb, .int .i64 jr, .int .i64 jl, .int .i64 jh, .int .i64 jt] by rw [hE]; exact X127.out.alloc _)
      have G8 := Lib.hid (show Grew w E8 by rw [hE]; exact grew_al G7.out _)
      clear hE hb14 X57 X127 G7
      clear z5_0 z5_1 z5_2 z5_3 z5_4 z5_5 z5_6 z5_7 z5l z12_0 z12_1 z12_2 z12_3 z12_4 z12_5 z12_6 z12_7 z12l
      have z := fun j => X58.out.cell j
      have z5_0 := z 0
      have z5_1 := z 1
      have z5_2 := z 2
      have z5_3 := z 3
      have z5_4 := z 4
      have z5_5 := z 5
      have z5_6 := z 6
      have z5_7 := z 7
      simp only [List.getElem?_toArray, List.getElem?_cons_zero, List.getElem?_cons_succ] at z5_0 z5_1 z5_2 z5_3 z5_4 z5_5 z5_6 z5_7
      clear z
      have z5l := X58.out.lt
      have z := fun j => X128.out.cell j
      have z12_0 := z 0
      have z12_1 := z 1
      have z12_2 := z 2
      have z12_3 := z 3
      have z12_4 := z 4
      have z12_5 := z 5
      have z12_6 := z 6
      have z12_7 := z 7
      simp only [List.getElem?_toArray, List.getElem?_cons_zero, List.getElem?_cons_succ] at z12_0 z12_1 z12_2 z12_3 z12_4 z12_5 z12_6 z12_7
      clear z
      have z12l := X128.out.lt
      have z := fun j => X148.out.cell j
      have z14_0 := z 0
      have z14_1 := z 1
      have z14_2 := z 2
      have z14_3 := z 3
      have z14_4 := z 4
      have z14_5 := z 5
      have z14_6 := z 6
      have z14_7 := z 7
      simp only [List.getElem?_toArray, List.getElem?_cons_zero, List.getElem?_cons_succ] at z14_0 z14_1 z14_2 z14_3 z14_4 z14_5 z14_6 z14_7
      clear z
      have z14l := X148.out.lt
      refine Calls.mono (C1.out _) ?_
      rintro e w9 ⟨rfl, g⟩
      have G9 := Lib.hid (grew_tr G8.out g)
      have X59 := Lib.hid (X58.out.grew g)
      have X129 := Lib.hid (X128.out.grew g)
      have X149 := Lib.hid (X148.out.grew g)
      clear g G8 X58 X128 X148
      clear z5_0 z5_1 z5_2 z5_3 z5_4 z5_5 z5_6 z5_7 z5l z12_0 z12_1 z12_2 z12_3 z12_4 z12_5 z12_6 z12_7 z12l z14_0 z14_1 z14_2 z14_3 z14_4 z14_5 z14_6 z14_7 z14l
      have z := fun j => X59.out.cell j
      have z5_0 := z 0
      have z5_1 := z 1
      have z5_2 := z 2
      have z5_3 := z 3
      have z5_4 := z 4
      have z5_5 := z 5
      have z5_6 := z 6
      have z5_7 := z 7
      simp only [List.getElem?_toArray, List.getElem?_cons_zero, List.getElem?_cons_succ] at z5_0 z5_1 z5_2 z5_3 z5_4 z5_5 z5_6 z5_7
      clear z
      have z5l := X59.out.lt
      have z := fun j => X129.out.cell j
      have z12_0 := z 0
      have z12_1 := z 1
      have z12_2 := z 2
      have z12_3 := z 3
      have z12_4 := z 4
      have z12_5 := z 5
      have z12_6 := z 6
      have z12_7 := z 7
      simp only [List.getElem?_toArray, List.getElem?_cons_zero, List.getElem?_cons_succ] at z12_0 z12_1 z12_2 z12_3 z12_4 z12_5 z12_6 z12_7
      clear z
      have z12l := X129.out.lt
      have z := fun j => X149.out.cell j
      have z14_0 := z 0
      have z14_1 := z 1
      have z14_2 := z 2
      have z14_3 := z 3
      have z14_4 := z 4
      have z14_5 := z 5
      have z14_6 := z 6
      have z14_7 := z 7
      simp only [List.getElem?_toArray, List.getElem?_cons_zero, List.getElem?_cons_succ] at z14_0 z14_1 z14_2 z14_3 z14_4 z14_5 z14_6 z14_7
      clear z
      have z14l := X149.out.lt
      go_wp2_with fail
      refine Calls.mono (M1.out _) ?_
      rintro e w10 ⟨rfl, g⟩
      have G10 := Lib.hid (grew_tr G9.out g)
      have X510 := Lib.hid (X59.out.grew g)
      have X1210 := Lib.hid (X129.out.grew g)
      have X1410 := Lib.hid (X149.out.grew g)
      clear g G9 X59 X129 X149
      clear z5_0 z5_1 z5_2 z5_3 z5_4 z5_5 z5_6 z5_7 z5l z12_0 z12_1 z12_2 z12_3 z12_4 z12_5 z12_6 z12_7 z12l z14_0 z14_1 z14_2 z14_3 z14_4 z14_5 z14_6 z14_7 z14l
      have z := fun j => X510.out.cell j
      have z5_0 := z 0
      have z5_1 := z 1
      have z5_2 := z 2
      have z5_3 := z 3
      have z5_4 := z 4
      have z5_5 := z 5
      have z5_6 := z 6
      have z5_7 := z 7
      simp only [List.getElem?_toArray, List.getElem?_cons_zero, List.getElem?_cons_succ] at z5_0 z5_1 z5_2 z5_3 z5_4 z5_5 z5_6 z5_7
      clear z
      have z5l := X510.out.lt
      have z := fun j => X1210.out.cell j
      have z12_0 := z 0
      have z12_1 := z 1
      have z12_2 := z 2
      have z12_3 := z 3
      have z12_4 := z 4
      have z12_5 := z 5
      have z12_6 := z 6
      have z12_7 := z 7
      simp only [List.getElem?_toArray, List.getElem?_cons_zero, List.getElem?_cons_succ] at z12_0 z12_1 z12_2 z12_3 z12_4 z12_5 z12_6 z12_7
      clear z
      have z12l := X1210.out.lt
      have z := fun j => X1410.out.cell j
      have z14_0 := z 0
      have z14_1 := z 1
      have z14_2 := z 2
      have z14_3 := z 3
      have z14_4 := z 4
      have z14_5 := z 5
      have z14_6 := z 6
      have z14_7 := z 7
      simp only [List.getElem?_toArray, List.getElem?_cons_zero, List.getElem?_cons_succ] at z14_0 z14_1 z14_2 z14_3 z14_4 z14_5 z14_6 z14_7
      clear z
      have z14l := X1410.out.lt
      go_wp2_with fail
      refine Calls.mono (M2.out _ (HEn.out.grew G10.out).1) ?_
      rintro e w11 ⟨rfl, g⟩
      have G11 := Lib.hid (grew_tr G10.out g)
      have X511 := Lib.hid (X510.out.grew g)
      have X1211 := Lib.hid (X1210.out.grew g)
      have X1411 := Lib.hid (X1410.out.grew g)
      clear g G10 X510 X1210 X1410
      clear z5_0 z5_1 z5_2 z5_3 z5_4 z5_5 z5_6 z5_7 z5l z12_0 z12_1 z12_2 z12_3 z12_4 z12_5 z12_6 z12_7 z12l z14_0 z14_1 z14_2 z14_3 z14_4 z14_5 z14_6 z14_7 z14l
      have z := fun j => X511.out.cell j
      have z5_0 := z 0
      have z5_1 := z 1
      have z5_2 := z 2
      have z5_3 := z 3
      have z5_4 := z 4
      have z5_5 := z 5
      have z5_6 := z 6
      have z5_7 := z 7
      simp only [List.getElem?_toArray, List.getElem?_cons_zero, List.getElem?_cons_succ] at z5_0 z5_1 z5_2 z5_3 z5_4 z5_5 z5_6 z5_7
      clear z
      have z5l := X511.out.lt
      have z := fun j => X1211.out.cell j
      have z12_0 := z 0
      have z12_1 := z 1
      have z12_2 := z 2
      have z12_3 := z 3
      have z12_4 := z 4
      have z12_5 := z 5
      have z12_6 := z 6
      have z12_7 := z 7
      simp only [List.getElem?_toArray, List.getElem?_cons_zero, List.getElem?_cons_succ] at z12_0 z12_1 z12_2 z12_3 z12_4 z12_5 z12_6 z12_7
      clear z
      have z12l := X1211.out.lt
      have z := fun j => X1411.out.cell j
      have z14_0 := z 0
      have z14_1 := z 1
      have z14_2 := z 2
      have z14_3 := z 3
      have z14_4 := z 4
      have z14_5 := z 5
      have z14_6 := z 6
      have z14_7 := z 7
      simp only [List.getElem?_toArray, List.getElem?_cons_zero, List.getElem?_cons_succ] at z14_0 z14_1 z14_2 z14_3 z14_4 z14_5 z14_6 z14_7
      clear z
      have z14l := X1411.out.lt
      go_wp2_with fail
      refine Calls.mono (D0.out _) ?_
      rintro e w12 ⟨rfl, g⟩
      have G12 := Lib.hid (grew_tr G11.out g)
      have X512 := Lib.hid (X511.out.grew g)
      have X1212 := Lib.hid (X1211.out.grew g)
      have X1412 := Lib.hid (X1411.out.grew g)
      clear g G11 X511 X1211 X1411
      clear z5_0 z5_1 z5_2 z5_3 z5_4 z5_5 z5_6 z5_7 z5l z12_0 z12_1 z12_2 z12_3 z12_4 z12_5 z12_6 z12_7 z12l z14_0 z14_1 z14_2 z14_3 z14_4 z14_5 z14_6 z14_7 z14l
      have z := fun j => X512.out.cell j
      have z5_0 := z 0
      have z5_1 := z 1
      have z5_2 := z 2
      have z5_3 := z 3
      have z5_4 := z 4
      have z5_5 := z 5
      have z5_6 := z 6
      have z5_7 := z 7
      simp only [List.getElem?_toArray, List.getElem?_cons_zero, List.getElem?_cons_succ] at z5_0 z5_1 z5_2 z5_3 z5_4 z5_5 z5_6 z5_7
      clear z
      have z5l := X512.out.lt
      have z := fun j => X1212.out.cell j
      have z12_0 := z 0
      have z12_1 := z 1
      have z12_2 := z 2
      have z12_3 := z 3
      have z12_4 := z 4
      have z12_5 := z 5
      have z12_6 := z 6
      have z12_7 := z 7
      simp only [List.getElem?_toArray, List.getElem?_cons_zero, List.getElem?_cons_succ] at z12_0 z12_1 z12_2 z12_3 z12_4 z12_5 z12_6 z12_7
      clear z
      have z12l := X1212.out.lt
      have z := fun j => X1412.out.cell j
      have z14_0 := z 0
      have z14_1 := z 1
      have z14_2 := z 2
      have z14_3 := z 3
      have z14_4 := z 4
      have z14_5 := z 5
      have z14_6 := z 6
      have z14_7 := z 7
      simp only [List.getElem?_toArray, List.getElem?_cons_zero, List.getElem?_cons_succ] at z14_0 z14_1 z14_2 z14_3 z14_4 z14_5 z14_6 z14_7
      clear z
      have z14l := X1412.out.lt
      go_wp2_with fail
      refine Calls.mono (D1.out _) ?_
      rintro e w13 ⟨rfl, g⟩
      have G13 := Lib.hid (grew_tr G12.out g)
      have X513 := Lib.hid (X512.out.grew g)
      have X1213 := Lib.hid (X1212.out.grew g)
      have X1413 := Lib.hid (X1412.out.grew g)
      clear g G12 X512 X1212 X1412
      clear z5_0 z5_1 z5_2 z5_3 z5_4 z5_5 z5_6 z5_7 z5l z12_0 z12_1 z12_2 z12_3 z12_4 z12_5 z12_6 z12_7 z12l z14_0 z14_1 z14_2 z14_3 z14_4 z14_5 z14_6 z14_7 z14l
      have z := fun j => X513.out.cell j
      have z5_0 := z 0
      have z5_1 := z 1
      have z5_2 := z 2
      have z5_3 := z 3
      have z5_4 := z 4
      have z5_5 := z 5
      have z5_6 := z 6
      have z5_7 := z 7
      simp only [List.getElem?_toArray, List.getElem?_cons_zero, List.getElem?_cons_succ] at z5_0 z5_1 z5_2 z5_3 z5_4 z5_5 z5_6 z5_7
      clear z
      have z5l := X513.out.lt
      have z := fun j => X1213.out.cell j
      have z12_0 := z 0
      have z12_1 := z 1
      have z12_2 := z 2
      have z12_3 := z 3
      have z12_4 := z 4
      have z12_5 := z 5
      have z12_6 := z 6
      have z12_7 := z 7
      simp only [List.getElem?_toArray, List.getElem?_cons_zero, List.getElem?_cons_succ] at z12_0 z12_1 z12_2 z12_3 z12_4 z12_5 z12_6 z12_7
      clear z
      have z12l := X1213.out.lt
      have z := fun j => X1413.out.cell j
      have z14_0 := z 0
      have z14_1 := z 1
      have z14_2 := z 2
      have z14_3 := z 3
      have z14_4 := z 4
      have z14_5 := z 5
      have z14_6 := z 6
      have z14_7 := z 7
      simp only [List.getElem?_toArray, List.getElem?_cons_zero, List.getElem?_cons_succ] at z14_0 z14_1 z14_2 z14_3 z14_4 z14_5 z14_6 z14_7
      clear z
      have z14l := X1413.out.lt
      go_wp2_with fail
      refine (owOkT _).mono ?_
      rintro e W ⟨rfl, rfl⟩
      go_wp2
      go_ret
      exact ⟨rfl, G13.out⟩
    | true =>
      rw [hL] at E1 E2
      simp only [insV] at E1 E2
      have F1 := Lib.hid E1
      have F2 := Lib.hid E2
      clear E1 E2
      have K1 := fun w => implInsOk ⟨jo, jd, ja, jb, jr, jl, jh, jt⟩ p' s' w
      rw [(HLok.out _ hL).1] at K1
      have K2 := fun w T => implTextS ⟨jo, jd, ja, jb, jr, jl, jh, jt⟩ p' s' (by have := HP'.out; omega) (by have := HS'.out; omega) w T
      rw [(HLok.out _ hL).2] at K2
      have M1 := Lib.hid K1
      have M2 := Lib.hid K2
      clear K1 K2
      clear hL
      rw [HYes.out rfl] at CB
      simp only [insV] at CB
      have D2 := Lib.hid CB
      have D0 := Lib.hid CO
      have D1 := Lib.hid CP
      clear CO CP CB
      refine Calls.mono (F2.out _ (HEn.out.grew G4.out) (HML.out.grew G4.out)) ?_
      rintro e w5 ⟨rfl, g⟩
      have G5 := Lib.hid (grew_tr G4.out g)
      have X55 := Lib.hid (X54.out.grew g)
      clear g G4 X54
      clear z5_0 z5_1 z5_2 z5_3 z5_4 z5_5 z5_6 z5_7 z5l
      have z := fun j => X55.out.cell j
      have z5_0 := z 0
      have z5_1 := z 1
      have z5_2 := z 2
      have z5_3 := z 3
      have z5_4 := z 4
      have z5_5 := z 5
      have z5_6 := z 6
      have z5_7 := z 7
      simp only [List.getElem?_toArray, List.getElem?_cons_zero, List.getElem?_cons_succ] at z5_0 z5_1 z5_2 z5_3 z5_4 z5_5 z5_6 z5_7
      clear z
      have z5l := X55.out.lt
      go_wp2_with fail
      obtain ⟨b12, hb12⟩ : ∃ b, w5.heap.size = b := ⟨_, rfl⟩
      rw [hb12]
      refine calls_letW ?_
      intro E6 hE
      have X126 := Lib.hid (show Blk E6 b12 38 #[.int .i64 jo, .int .i64 jd, .int .i64 ja, .int .i64 jb, .int .i64 jr, .int .i64 jl, .int .i64 jh, .int .i64 jt] by rw [hE, ← hb12]; exact Blk.new _ _ _)
      have X56 := Lib.hid (show Blk E6 b5 38 #[.int .i64 op, .int .i64 d, .int .i64 ia, .int .i64 ib, .int .i64 rel, .int .i64 lo, .int .i64 hi, .int .i64 tv] by rw [hE]; exact X55.out.alloc _)
      have G6 := Lib.hid (show Grew w E6 by rw [hE]; exact grew_al G5.out _)
      clear hE hb12 X55 G5
      clear z5_0 z5_1 z5_2 z5_3 z5_4 z5_5 z5_6 z5_7 z5l
      have z := fun j => X56.out.cell j
      have z5_0 := z 0
      have z5_1 := z 1
      have z5_2 := z 2
      have z5_3 := z 3
      have z5_4 := z 4
      have z5_5 := z 5
      have z5_6 := z 6
      have z5_7 := z 7
      simp only [List.getElem?_toArray, List.getElem?_cons_zero, List.getElem?_cons_succ] at z5_0 z5_1 z5_2 z5_3 z5_4 z5_5 z5_6 z5_7
      clear z
      have z5l := X56.out.lt
      have z := fun j => X126.out.cell j
      have z12_0 := z 0
      have z12_1 := z 1
      have z12_2 := z 2
      have z12_3 := z 3
      have z12_4 := z 4
      have z12_5 := z 5
      have z12_6 := z 6
      have z12_7 := z 7
      simp only [List.getElem?_toArray, List.getElem?_cons_zero, List.getElem?_cons_succ] at z12_0 z12_1 z12_2 z12_3 z12_4 z12_5 z12_6 z12_7
      clear z
      have z12l := X126.out.lt
      refine Calls.mono (F1.out _) ?_
      rintro e w7 ⟨rfl, g⟩
      have G7 := Lib.hid (grew_tr G6.out g)
      have X57 := Lib.hid (X56.out.grew g)
      have X127 := Lib.hid (X126.out.grew g)
      clear g G6 X56 X126
      clear z5_0 z5_1 z5_2 z5_3 z5_4 z5_5 z5_6 z5_7 z5l z12_0 z12_1 z12_2 z12_3 z12_4 z12_5 z12_6 z12_7 z12l
      have z := fun j => X57.out.cell j
      have z5_0 := z 0
      have z5_1 := z 1
      have z5_2 := z 2
      have z5_3 := z 3
      have z5_4 := z 4
      have z5_5 := z 5
      have z5_6 := z 6
      have z5_7 := z 7
      simp only [List.getElem?_toArray, List.getElem?_cons_zero, List.getElem?_cons_succ] at z5_0 z5_1 z5_2 z5_3 z5_4 z5_5 z5_6 z5_7
      clear z
      have z5l := X57.out.lt
      have z := fun j => X127.out.cell j
      have z12_0 := z 0
      have z12_1 := z 1
      have z12_2 := z 2
      have z12_3 := z 3
      have z12_4 := z 4
      have z12_5 := z 5
      have z12_6 := z 6
      have z12_7 := z 7
      simp only [List.getElem?_toArray, List.getElem?_cons_zero, List.getElem?_cons_succ] at z12_0 z12_1 z12_2 z12_3 z12_4 z12_5 z12_6 z12_7
      clear z
      have z12l := X127.out.lt
      go_wp2_with fail
      obtain ⟨b14, hb14⟩ : ∃ b, w7.heap.size = b := ⟨_, rfl⟩
      rw [hb14]
      refine calls_letW ?_
      intro E8 hE
      have X148 := Lib.hid (show Blk E8 b14 38 #[.int .i64 jo, .int .i64 jd, .int .i64 ja, .int .i64 jb, .int .i64 jr, .int .i64 jl, .int .i64 jh, .int .i64 jt] by rw [hE, ← hb14]; exact Blk.new _ _ _)
      have X58 := Lib.hid (show Blk E8 b5 38 #[.int .i64 op, .int .i64 d, .int .i64 ia, .int .i64 ib, .int .i64 rel, .int .i64 lo, .int .i64 hi, .int .i64 tv] by rw [hE]; exact X57.out.alloc _)
      have X128 := Lib.hid (show Blk E8 b12 38 #[.int .i64 jo, .int .i64 jd, .int .i64 ja, .int .i64 jb, .int .i64 jr, .int .i64 jl, .int .i64 jh, .int .i64 jt] by rw [hE]; exact X127.out.alloc _)
      have G8 := Lib.hid (show Grew w E8 by rw [hE]; exact grew_al G7.out _)
      clear hE hb14 X57 X127 G7
      clear z5_0 z5_1 z5_2 z5_3 z5_4 z5_5 z5_6 z5_7 z5l z12_0 z12_1 z12_2 z12_3 z12_4 z12_5 z12_6 z12_7 z12l
      have z := fun j => X58.out.cell j
      have z5_0 := z 0
      have z5_1 := z 1
      have z5_2 := z 2
      have z5_3 := z 3
      have z5_4 := z 4
      have z5_5 := z 5
      have z5_6 := z 6
      have z5_7 := z 7
      simp only [List.getElem?_toArray, List.getElem?_cons_zero, List.getElem?_cons_succ] at z5_0 z5_1 z5_2 z5_3 z5_4 z5_5 z5_6 z5_7
      clear z
      have z5l := X58.out.lt
      have z := fun j => X128.out.cell j
      have z12_0 := z 0
      have z12_1 := z 1
      have z12_2 := z 2
      have z12_3 := z 3
      have z12_4 := z 4
      have z12_5 := z 5
      have z12_6 := z 6
      have z12_7 := z 7
      simp only [List.getElem?_toArray, List.getElem?_cons_zero, List.getElem?_cons_succ] at z12_0 z12_1 z12_2 z12_3 z12_4 z12_5 z12_6 z12_7
      clear z
      have z12l := X128.out.lt
      have z := fun j => X148.out.cell j
      have z14_0 := z 0
      have z14_1 := z 1
      have z14_2 := z 2
      have z14_3 := z 3
      have z14_4 := z 4
      have z14_5 := z 5
      have z14_6 := z 6
      have z14_7 := z 7
      simp only [List.getElem?_toArray, List.getElem?_cons_zero, List.getElem?_cons_succ] at z14_0 z14_1 z14_2 z14_3 z14_4 z14_5 z14_6 z14_7
      clear z
      have z14l := X148.out.lt
      refine Calls.mono (C1.out _) ?_
      rintro e w9 ⟨rfl, g⟩
      have G9 := Lib.hid (grew_tr G8.out g)
      have X59 := Lib.hid (X58.out.grew g)
      have X129 := Lib.hid (X128.out.grew g)
      have X149 := Lib.hid (X148.out.grew g)
      clear g G8 X58 X128 X148
      clear z5_0 z5_1 z5_2 z5_3 z5_4 z5_5 z5_6 z5_7 z5l z12_0 z12_1 z12_2 z12_3 z12_4 z12_5 z12_6 z12_7 z12l z14_0 z14_1 z14_2 z14_3 z14_4 z14_5 z14_6 z14_7 z14l
      have z := fun j => X59.out.cell j
      have z5_0 := z 0
      have z5_1 := z 1
      have z5_2 := z 2
      have z5_3 := z 3
      have z5_4 := z 4
      have z5_5 := z 5
      have z5_6 := z 6
      have z5_7 := z 7
      simp only [List.getElem?_toArray, List.getElem?_cons_zero, List.getElem?_cons_succ] at z5_0 z5_1 z5_2 z5_3 z5_4 z5_5 z5_6 z5_7
      clear z
      have z5l := X59.out.lt
      have z := fun j => X129.out.cell j
      have z12_0 := z 0
      have z12_1 := z 1
      have z12_2 := z 2
      have z12_3 := z 3
      have z12_4 := z 4
      have z12_5 := z 5
      have z12_6 := z 6
      have z12_7 := z 7
      simp only [List.getElem?_toArray, List.getElem?_cons_zero, List.getElem?_cons_succ] at z12_0 z12_1 z12_2 z12_3 z12_4 z12_5 z12_6 z12_7
      clear z
      have z12l := X129.out.lt
      have z := fun j => X149.out.cell j
      have z14_0 := z 0
      have z14_1 := z 1
      have z14_2 := z 2
      have z14_3 := z 3
      have z14_4 := z 4
      have z14_5 := z 5
      have z14_6 := z 6
      have z14_7 := z 7
      simp only [List.getElem?_toArray, List.getElem?_cons_zero, List.getElem?_cons_succ] at z14_0 z14_1 z14_2 z14_3 z14_4 z14_5 z14_6 z14_7
      clear z
      have z14l := X149.out.lt
      go_wp2_with fail
      refine Calls.mono (M1.out _) ?_
      rintro e w10 ⟨rfl, g⟩
      have G10 := Lib.hid (grew_tr G9.out g)
      have X510 := Lib.hid (X59.out.grew g)
      have X1210 := Lib.hid (X129.out.grew g)
      have X1410 := Lib.hid (X149.out.grew g)
      clear g G9 X59 X129 X149
      clear z5_0 z5_1 z5_2 z5_3 z5_4 z5_5 z5_6 z5_7 z5l z12_0 z12_1 z12_2 z12_3 z12_4 z12_5 z12_6 z12_7 z12l z14_0 z14_1 z14_2 z14_3 z14_4 z14_5 z14_6 z14_7 z14l
      have z := fun j => X510.out.cell j
      have z5_0 := z 0
      have z5_1 := z 1
      have z5_2 := z 2
      have z5_3 := z 3
      have z5_4 := z 4
      have z5_5 := z 5
      have z5_6 := z 6
      have z5_7 := z 7
      simp only [List.getElem?_toArray, List.getElem?_cons_zero, List.getElem?_cons_succ] at z5_0 z5_1 z5_2 z5_3 z5_4 z5_5 z5_6 z5_7
      clear z
      have z5l := X510.out.lt
      have z := fun j => X1210.out.cell j
      have z12_0 := z 0
      have z12_1 := z 1
      have z12_2 := z 2
      have z12_3 := z 3
      have z12_4 := z 4
      have z12_5 := z 5
      have z12_6 := z 6
      have z12_7 := z 7
      simp only [List.getElem?_toArray, List.getElem?_cons_zero, List.getElem?_cons_succ] at z12_0 z12_1 z12_2 z12_3 z12_4 z12_5 z12_6 z12_7
      clear z
      have z12l := X1210.out.lt
      have z := fun j => X1410.out.cell j
      have z14_0 := z 0
      have z14_1 := z 1
      have z14_2 := z 2
      have z14_3 := z 3
      have z14_4 := z 4
      have z14_5 := z 5
      have z14_6 := z 6
      have z14_7 := z 7
      simp only [List.getElem?_toArray, List.getElem?_cons_zero, List.getElem?_cons_succ] at z14_0 z14_1 z14_2 z14_3 z14_4 z14_5 z14_6 z14_7
      clear z
      have z14l := X1410.out.lt
      go_wp2_with fail
      refine Calls.mono (M2.out _ (HEn.out.grew G10.out).1) ?_
      rintro e w11 ⟨rfl, g⟩
      have G11 := Lib.hid (grew_tr G10.out g)
      have X511 := Lib.hid (X510.out.grew g)
      have X1211 := Lib.hid (X1210.out.grew g)
      have X1411 := Lib.hid (X1410.out.grew g)
      clear g G10 X510 X1210 X1410
      clear z5_0 z5_1 z5_2 z5_3 z5_4 z5_5 z5_6 z5_7 z5l z12_0 z12_1 z12_2 z12_3 z12_4 z12_5 z12_6 z12_7 z12l z14_0 z14_1 z14_2 z14_3 z14_4 z14_5 z14_6 z14_7 z14l
      have z := fun j => X511.out.cell j
      have z5_0 := z 0
      have z5_1 := z 1
      have z5_2 := z 2
      have z5_3 := z 3
      have z5_4 := z 4
      have z5_5 := z 5
      have z5_6 := z 6
      have z5_7 := z 7
      simp only [List.getElem?_toArray, List.getElem?_cons_zero, List.getElem?_cons_succ] at z5_0 z5_1 z5_2 z5_3 z5_4 z5_5 z5_6 z5_7
      clear z
      have z5l := X511.out.lt
      have z := fun j => X1211.out.cell j
      have z12_0 := z 0
      have z12_1 := z 1
      have z12_2 := z 2
      have z12_3 := z 3
      have z12_4 := z 4
      have z12_5 := z 5
      have z12_6 := z 6
      have z12_7 := z 7
      simp only [List.getElem?_toArray, List.getElem?_cons_zero, List.getElem?_cons_succ] at z12_0 z12_1 z12_2 z12_3 z12_4 z12_5 z12_6 z12_7
      clear z
      have z12l := X1211.out.lt
      have z := fun j => X1411.out.cell j
      have z14_0 := z 0
      have z14_1 := z 1
      have z14_2 := z 2
      have z14_3 := z 3
      have z14_4 := z 4
      have z14_5 := z 5
      have z14_6 := z 6
      have z14_7 := z 7
      simp only [List.getElem?_toArray, List.getElem?_cons_zero, List.getElem?_cons_succ] at z14_0 z14_1 z14_2 z14_3 z14_4 z14_5 z14_6 z14_7
      clear z
      have z14l := X1411.out.lt
      go_wp2_with fail
      refine Calls.mono (D0.out _) ?_
      rintro e w12 ⟨rfl, g⟩
      have G12 := Lib.hid (grew_tr G11.out g)
      have X512 := Lib.hid (X511.out.grew g)
      have X1212 := Lib.hid (X1211.out.grew g)
      have X1412 := Lib.hid (X1411.out.grew g)
      clear g G11 X511 X1211 X1411
      clear z5_0 z5_1 z5_2 z5_3 z5_4 z5_5 z5_6 z5_7 z5l z12_0 z12_1 z12_2 z12_3 z12_4 z12_5 z12_6 z12_7 z12l z14_0 z14_1 z14_2 z14_3 z14_4 z14_5 z14_6 z14_7 z14l
      have z := fun j => X512.out.cell j
      have z5_0 := z 0
      have z5_1 := z 1
      have z5_2 := z 2
      have z5_3 := z 3
      have z5_4 := z 4
      have z5_5 := z 5
      have z5_6 := z 6
      have z5_7 := z 7
      simp only [List.getElem?_toArray, List.getElem?_cons_zero, List.getElem?_cons_succ] at z5_0 z5_1 z5_2 z5_3 z5_4 z5_5 z5_6 z5_7
      clear z
      have z5l := X512.out.lt
      have z := fun j => X1212.out.cell j
      have z12_0 := z 0
      have z12_1 := z 1
      have z12_2 := z 2
      have z12_3 := z 3
      have z12_4 := z 4
      have z12_5 := z 5
      have z12_6 := z 6
      have z12_7 := z 7
      simp only [List.getElem?_toArray, List.getElem?_cons_zero, List.getElem?_cons_succ] at z12_0 z12_1 z12_2 z12_3 z12_4 z12_5 z12_6 z12_7
      clear z
      have z12l := X1212.out.lt
      have z := fun j => X1412.out.cell j
      have z14_0 := z 0
      have z14_1 := z 1
      have z14_2 := z 2
      have z14_3 := z 3
      have z14_4 := z 4
      have z14_5 := z 5
      have z14_6 := z 6
      have z14_7 := z 7
      simp only [List.getElem?_toArray, List.getElem?_cons_zero, List.getElem?_cons_succ] at z14_0 z14_1 z14_2 z14_3 z14_4 z14_5 z14_6 z14_7
      clear z
      have z14l := X1412.out.lt
      go_wp2_with fail
      refine Calls.mono (D2.out _ (HEn.out.grew G12.out) (HML.out.grew G12.out)) ?_
      rintro e w13 ⟨rfl, g⟩
      have G13 := Lib.hid (grew_tr G12.out g)
      have X513 := Lib.hid (X512.out.grew g)
      have X1213 := Lib.hid (X1212.out.grew g)
      have X1413 := Lib.hid (X1412.out.grew g)
      clear g G12 X512 X1212 X1412
      clear z5_0 z5_1 z5_2 z5_3 z5_4 z5_5 z5_6 z5_7 z5l z12_0 z12_1 z12_2 z12_3 z12_4 z12_5 z12_6 z12_7 z12l z14_0 z14_1 z14_2 z14_3 z14_4 z14_5 z14_6 z14_7 z14l
      have z := fun j => X513.out.cell j
      have z5_0 := z 0
      have z5_1 := z 1
      have z5_2 := z 2
      have z5_3 := z 3
      have z5_4 := z 4
      have z5_5 := z 5
      have z5_6 := z 6
      have z5_7 := z 7
      simp only [List.getElem?_toArray, List.getElem?_cons_zero, List.getElem?_cons_succ] at z5_0 z5_1 z5_2 z5_3 z5_4 z5_5 z5_6 z5_7
      clear z
      have z5l := X513.out.lt
      have z := fun j => X1213.out.cell j
      have z12_0 := z 0
      have z12_1 := z 1
      have z12_2 := z 2
      have z12_3 := z 3
      have z12_4 := z 4
      have z12_5 := z 5
      have z12_6 := z 6
      have z12_7 := z 7
      simp only [List.getElem?_toArray, List.getElem?_cons_zero, List.getElem?_cons_succ] at z12_0 z12_1 z12_2 z12_3 z12_4 z12_5 z12_6 z12_7
      clear z
      have z12l := X1213.out.lt
      have z := fun j => X1413.out.cell j
      have z14_0 := z 0
      have z14_1 := z 1
      have z14_2 := z 2
      have z14_3 := z 3
      have z14_4 := z 4
      have z14_5 := z 5
      have z14_6 := z 6
      have z14_7 := z 7
      simp only [List.getElem?_toArray, List.getElem?_cons_zero, List.getElem?_cons_succ] at z14_0 z14_1 z14_2 z14_3 z14_4 z14_5 z14_6 z14_7
      clear z
      have z14l := X1413.out.lt
      go_wp2_with fail
      obtain ⟨b16, hb16⟩ : ∃ b, w13.heap.size = b := ⟨_, rfl⟩
      rw [hb16]
      refine calls_letW ?_
      intro E14 hE
      have X1614 := Lib.hid (show Blk E14 b16 38 #[.int .i64 op, .int .i64 d, .int .i64 ia, .int .i64 ib, .int .i64 rel, .int .i64 lo, .int .i64 hi, .int .i64 tv] by rw [hE, ← hb16]; exact Blk.new _ _ _)
      have X514 := Lib.hid (show Blk E14 b5 38 #[.int .i64 op, .int .i64 d, .int .i64 ia, .int .i64 ib, .int .i64 rel, .int .i64 lo, .int .i64 hi, .int .i64 tv] by rw [hE]; exact X513.out.alloc _)
      have X1214 := Lib.hid (show Blk E14 b12 38 #[.int .i64 jo, .int .i64 jd, .int .i64 ja, .int .i64 jb, .int .i64 jr, .int .i64 jl, .int .i64 jh, .int .i64 jt] by rw [hE]; exact X1213.out.alloc _)
      have X1414 := Lib.hid (show Blk E14 b14 38 #[.int .i64 jo, .int .i64 jd, .int .i64 ja, .int .i64 jb, .int .i64 jr, .int .i64 jl, .int .i64 jh, .int .i64 jt] by rw [hE]; exact X1413.out.alloc _)
      have G14 := Lib.hid (show Grew w E14 by rw [hE]; exact grew_al G13.out _)
      clear hE hb16 X513 X1213 X1413 G13
      clear z5_0 z5_1 z5_2 z5_3 z5_4 z5_5 z5_6 z5_7 z5l z12_0 z12_1 z12_2 z12_3 z12_4 z12_5 z12_6 z12_7 z12l z14_0 z14_1 z14_2 z14_3 z14_4 z14_5 z14_6 z14_7 z14l
      have z := fun j => X514.out.cell j
      have z5_0 := z 0
      have z5_1 := z 1
      have z5_2 := z 2
      have z5_3 := z 3
      have z5_4 := z 4
      have z5_5 := z 5
      have z5_6 := z 6
      have z5_7 := z 7
      simp only [List.getElem?_toArray, List.getElem?_cons_zero, List.getElem?_cons_succ] at z5_0 z5_1 z5_2 z5_3 z5_4 z5_5 z5_6 z5_7
      clear z
      have z5l := X514.out.lt
      have z := fun j => X1214.out.cell j
      have z12_0 := z 0
      have z12_1 := z 1
      have z12_2 := z 2
      have z12_3 := z 3
      have z12_4 := z 4
      have z12_5 := z 5
      have z12_6 := z 6
      have z12_7 := z 7
      simp only [List.getElem?_toArray, List.getElem?_cons_zero, List.getElem?_cons_succ] at z12_0 z12_1 z12_2 z12_3 z12_4 z12_5 z12_6 z12_7
      clear z
      have z12l := X1214.out.lt
      have z := fun j => X1414.out.cell j
      have z14_0 := z 0
      have z14_1 := z 1
      have z14_2 := z 2
      have z14_3 := z 3
      have z14_4 := z 4
      have z14_5 := z 5
      have z14_6 := z 6
      have z14_7 := z 7
      simp only [List.getElem?_toArray, List.getElem?_cons_zero, List.getElem?_cons_succ] at z14_0 z14_1 z14_2 z14_3 z14_4 z14_5 z14_6 z14_7
      clear z
      have z14l := X1414.out.lt
      have z := fun j => X1614.out.cell j
      have z16_0 := z 0
      have z16_1 := z 1
      have z16_2 := z 2
      have z16_3 := z 3
      have z16_4 := z 4
      have z16_5 := z 5
      have z16_6 := z 6
      have z16_7 := z 7
      simp only [List.getElem?_toArray, List.getElem?_cons_zero, List.getElem?_cons_succ] at z16_0 z16_1 z16_2 z16_3 z16_4 z16_5 z16_6 z16_7
      clear z
      have z16l := X1614.out.lt
      refine Calls.mono (D1.out _) ?_
      rintro e w15 ⟨rfl, g⟩
      have G15 := Lib.hid (grew_tr G14.out g)
      have X515 := Lib.hid (X514.out.grew g)
      have X1215 := Lib.hid (X1214.out.grew g)
      have X1415 := Lib.hid (X1414.out.grew g)
      have X1615 := Lib.hid (X1614.out.grew g)
      clear g G14 X514 X1214 X1414 X1614
      clear z5_0 z5_1 z5_2 z5_3 z5_4 z5_5 z5_6 z5_7 z5l z12_0 z12_1 z12_2 z12_3 z12_4 z12_5 z12_6 z12_7 z12l z14_0 z14_1 z14_2 z14_3 z14_4 z14_5 z14_6 z14_7 z14l z16_0 z16_1 z16_2 z16_3 z16_4 z16_5 z16_6 z16_7 z16l
      have z := fun j => X515.out.cell j
      have z5_0 := z 0
      have z5_1 := z 1
      have z5_2 := z 2
      have z5_3 := z 3
      have z5_4 := z 4
      have z5_5 := z 5
      have z5_6 := z 6
      have z5_7 := z 7
      simp only [List.getElem?_toArray, List.getElem?_cons_zero, List.getElem?_cons_succ] at z5_0 z5_1 z5_2 z5_3 z5_4 z5_5 z5_6 z5_7
      clear z
      have z5l := X515.out.lt
      have z := fun j => X1215.out.cell j
      have z12_0 := z 0
      have z12_1 := z 1
      have z12_2 := z 2
      have z12_3 := z 3
      have z12_4 := z 4
      have z12_5 := z 5
      have z12_6 := z 6
      have z12_7 := z 7
      simp only [List.getElem?_toArray, List.getElem?_cons_zero, List.getElem?_cons_succ] at z12_0 z12_1 z12_2 z12_3 z12_4 z12_5 z12_6 z12_7
      clear z
      have z12l := X1215.out.lt
      have z := fun j => X1415.out.cell j
      have z14_0 := z 0
      have z14_1 := z 1
      have z14_2 := z 2
      have z14_3 := z 3
      have z14_4 := z 4
      have z14_5 := z 5
      have z14_6 := z 6
      have z14_7 := z 7
      simp only [List.getElem?_toArray, List.getElem?_cons_zero, List.getElem?_cons_succ] at z14_0 z14_1 z14_2 z14_3 z14_4 z14_5 z14_6 z14_7
      clear z
      have z14l := X1415.out.lt
      have z := fun j => X1615.out.cell j
      have z16_0 := z 0
      have z16_1 := z 1
      have z16_2 := z 2
      have z16_3 := z 3
      have z16_4 := z 4
      have z16_5 := z 5
      have z16_6 := z 6
      have z16_7 := z 7
      simp only [List.getElem?_toArray, List.getElem?_cons_zero, List.getElem?_cons_succ] at z16_0 z16_1 z16_2 z16_3 z16_4 z16_5 z16_6 z16_7
      clear z
      have z16l := X1615.out.lt
      go_wp2
      go_ret
      exact ⟨rfl, G15.out⟩
end Go.Proofs.YtcdfomoglkhboaaGreatDoor
