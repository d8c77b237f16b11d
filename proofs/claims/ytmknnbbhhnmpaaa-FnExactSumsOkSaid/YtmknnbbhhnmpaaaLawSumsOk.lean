/- The walk of the law on SumsOk, program against reference. No condition. -/
import Derived.Test.YtmknnbbhhnmpaaaSums
namespace Go.Proofs.Ytmknnbbhhnmpaaa
open Go.RowKit
set_option linter.unusedVariables false
attribute [local go_sem] ext_cell ext_frozen ext_lt ext_le ext_le1 lt_s2 lt_s3 lt_s4 lt_s5 lt_s6 ext_lt1 ext_lt2 ext_lt3

set_option maxHeartbeats 2000000 in
theorem lawFnExactSumsOk (a : Option Addr) (n cap : Nat) (ps : List Prc) (a' : Option Addr) (n' cap' : Nat) (ss : List Sum) (w : World) (hr : RdP w a n ps) (hw : PrgWf ps) (h1 : n ≤ cap) (h2 : cap ≤ maxLen)
    (hr' : RdL ESum 3 w a' n' ss) (hw' : ∀ x, x ∈ ss → SumWf x) (h1' : n' ≤ cap') (h2' : cap' ≤ maxLen) :
    Calls Try.prog 6 #[.agg #[.slice a n cap], .slice a' n' cap'] w fun e w' => e = .returned (.bool true) ∧ Grew w w' := by
  have hn : n ≤ 9223372036854775807 := by unfold maxLen at h2; omega
  have hn' : n' ≤ 9223372036854775807 := by unfold maxLen at h2'; omega
  have HR := Lib.hid hr; clear hr hw h1 h2
  have HR' := Lib.hid hr'; clear hr' hw' h1' h2'
  go_enter Try.func6, Try.ntmps6
  go_wp2_with fail
  refine (szPrgProg a n cap ps 1048576 _ (HR.out.grew (by repeat (first | with_reducible exact Below.refl _ _ | with_reducible assumption | with_reducible apply grew_ext | with_reducible apply grew_al | with_reducible apply grew_dn | with_reducible apply grew_d | (with_reducible refine grew_set ?_ (by first | omega | (repeat (first | with_reducible exact Nat.le_refl _ | with_reducible apply le_pl | with_reducible apply le_ext | with_reducible apply le_al))) _)))) (by omega) (by omega) hn).mono ?_
  rintro e w1 ⟨z, rfl, hz, g1⟩
  (first | obtain ⟨x, rfl⟩ := ext_cold g1 | obtain ⟨x, rfl⟩ := ext_col g1 | obtain ⟨x, rfl⟩ := ext_of g1); clear g1
  rcases hz with rfl | ⟨z0, z1, z2, z3⟩
  · go_wp2
    go_ret
    refine ⟨rfl, ?_⟩
    repeat (first | with_reducible exact Below.refl _ _ | with_reducible assumption | with_reducible apply grew_ext | with_reducible apply grew_al | with_reducible apply grew_dn | with_reducible apply grew_d | (with_reducible refine grew_set ?_ (by first | omega | (repeat (first | with_reducible exact Nat.le_refl _ | with_reducible apply le_pl | with_reducible apply le_ext | with_reducible apply le_al))) _))
  · have hz3 := Lib.hid z3; clear z3
    have C := fun w => szSumSumS a' n' cap' z w z0 z1 hn'
    by_cases hs : z < n'
    · rw [if_pos hs] at C
      have HC := Lib.hid C; clear C hs
      go_wp2_with ((with_reducible refine (HC.out _).mono ?_); rintro e w' ⟨rfl, rfl⟩)
      go_ret
      refine ⟨rfl, ?_⟩
      repeat (first | with_reducible exact Below.refl _ _ | with_reducible assumption | with_reducible apply grew_ext | with_reducible apply grew_al | with_reducible apply grew_dn | with_reducible apply grew_d | (with_reducible refine grew_set ?_ (by first | omega | (repeat (first | with_reducible exact Nat.le_refl _ | with_reducible apply le_pl | with_reducible apply le_ext | with_reducible apply le_al))) _))
    rw [if_neg hs] at C
    have hs1 : ¬ z - n' < 0 := by omega
    have hs2 : n' ≤ 1048576 := by omega
    have HC := Lib.hid C; clear C hs
    go_wp2_with ((with_reducible refine (HC.out _).mono ?_); rintro e w' ⟨rfl, rfl⟩)
    refine (toPrgProg a n cap ps _ (HR.out.grew (by repeat (first | with_reducible exact Below.refl _ _ | with_reducible assumption | with_reducible apply grew_ext | with_reducible apply grew_al | with_reducible apply grew_dn | with_reducible apply grew_d | (with_reducible refine grew_set ?_ (by first | omega | (repeat (first | with_reducible exact Nat.le_refl _ | with_reducible apply le_pl | with_reducible apply le_ext | with_reducible apply le_al))) _)))) z2 hz3.out).mono ?_
    rintro e w1 ⟨v1, ms1, rfl, o1, hm1, g1⟩
    obtain ⟨a1, c1, rfl⟩ := owns_slice o1.2.1
    have R1 := Lib.hid o1.rd; clear o1
    rw [hm1] at R1
    obtain ⟨y, rfl⟩ := ext_col g1
    clear g1 hm1
    go_wp2_with fail
    refine (toSumSumS a' n' cap' ss _ (HR'.out.grew staysSum (by repeat (first | with_reducible exact Below.refl _ _ | with_reducible assumption | with_reducible apply grew_ext | with_reducible apply grew_al | with_reducible apply grew_dn | with_reducible apply grew_d | (with_reducible refine grew_set ?_ (by first | omega | (repeat (first | with_reducible exact Nat.le_refl _ | with_reducible apply le_pl | with_reducible apply le_ext | with_reducible apply le_al))) _)))) hs2).mono ?_
    rintro e w1 ⟨v3, rfl, o3, g1⟩
    obtain ⟨a3, c3, rfl⟩ := owns_slice o3
    have R3 := Lib.hid (rdSum_of_own HR'.out.len o3); clear o3
    have R1 := Lib.hid (R1.out.grew g1)
    obtain ⟨x2, rfl⟩ := ext_col g1
    clear g1
    go_wp2_with fail
    refine (specSumsOk a1 a3 n n' c1 c3 ps ss _ R1.out R3.out hn hn').mono ?_
    rintro e w1 ⟨rfl, g1⟩
    obtain ⟨x3, rfl⟩ := ext_col g1
    clear g1 R1 R3
    go_wp2_with fail
    refine (toPrgProg a n cap ps _ (HR.out.grew (by repeat (first | with_reducible exact Below.refl _ _ | with_reducible assumption | with_reducible apply grew_ext | with_reducible apply grew_al | with_reducible apply grew_dn | with_reducible apply grew_d | (with_reducible refine grew_set ?_ (by first | omega | (repeat (first | with_reducible exact Nat.le_refl _ | with_reducible apply le_pl | with_reducible apply le_ext | with_reducible apply le_al))) _)))) z2 hz3.out).mono ?_
    rintro e w1 ⟨v2, ms2, rfl, o2, hm2, g1⟩
    obtain ⟨a2, c2, rfl⟩ := owns_slice o2.2.1
    have R2 := Lib.hid o2.rd; clear o2
    rw [hm2] at R2
    obtain ⟨x4, rfl⟩ := ext_col g1
    clear g1 hm2
    go_wp2_with fail
    refine (toSumSumS a' n' cap' ss _ (HR'.out.grew staysSum (by repeat (first | with_reducible exact Below.refl _ _ | with_reducible assumption | with_reducible apply grew_ext | with_reducible apply grew_al | with_reducible apply grew_dn | with_reducible apply grew_d | (with_reducible refine grew_set ?_ (by first | omega | (repeat (first | with_reducible exact Nat.le_refl _ | with_reducible apply le_pl | with_reducible apply le_ext | with_reducible apply le_al))) _)))) hs2).mono ?_
    rintro e w1 ⟨v4, rfl, o4, g1⟩
    obtain ⟨a4, c4, rfl⟩ := owns_slice o4
    have R4 := Lib.hid (rdSum_of_own HR'.out.len o4); clear o4
    obtain ⟨x5, rfl⟩ := ext_of g1
    clear g1
    go_wp2_with fail
    refine (implSumsOk a2 a4 n n' c2 c4 ps ss _ (R2.out.grew (by repeat (first | with_reducible exact Below.refl _ _ | with_reducible assumption | with_reducible apply grew_ext | with_reducible apply grew_al | with_reducible apply grew_dn | with_reducible apply grew_d | (with_reducible refine grew_set ?_ (by first | omega | (repeat (first | with_reducible exact Nat.le_refl _ | with_reducible apply le_pl | with_reducible apply le_ext | with_reducible apply le_al))) _)))) R4.out hn hn').mono ?_
    rintro e w1 ⟨rfl, g1⟩
    have R4 := Lib.hid (R4.out.grew staysSum g1)
    obtain ⟨x6, rfl⟩ := ext_col g1
    clear g1
    have hb : ∀ B : Bool, (B != B) = false := fun B => by simp
    go_wp2_with fail
    have s1 := ext_size (w.alloc (.cells #[.slice a n cap] 30)) x4
    simp only [World.size_alloc] at s1
    go_region_held3 (fun W => W.cell? ⟨w.heap.size, 0, none⟩ = some (.slice a n cap) ∧ W.cell? ⟨(ext (w.alloc (.cells #[.slice a n cap] 30)) x4).heap.size, 0, none⟩ = some (.slice a2 n c2)) (first | assumption | (constructor <;> simp [go_sem]))
      (first
      | (go_at_call 20; refine (toPrgProg a n cap ps _ (HR.out.grew (by repeat (first | with_reducible exact Below.refl _ _ | with_reducible assumption | with_reducible apply grew_ext | with_reducible apply grew_al | with_reducible apply grew_dn | with_reducible apply grew_d | (with_reducible refine grew_set ?_ (by first | omega | (repeat (first | with_reducible exact Nat.le_refl _ | with_reducible apply le_pl | with_reducible apply le_ext | with_reducible apply le_al))) _)))) z2 hz3.out).mono ?_; rintro e w1 ⟨v5, ms5, rfl, o5, hm5, g1⟩; obtain ⟨a5, c5, rfl⟩ := owns_slice o5.2.1; have R5 := Lib.hid o5.rd; rw [hm5] at R5; have R4 := Lib.hid ((R4.out.grew staysSum (grew_d (Below.refl _ _))).grew staysSum g1); (first | obtain ⟨y3, rfl⟩ := ext_cold g1 | obtain ⟨y3, rfl⟩ := ext_col g1 | obtain ⟨y3, rfl⟩ := ext_of g1); clear g1; clear o5 hm5)
      | (go_at_call 22; refine (eqPrgProg a2 a5 n n c2 c5 ps ps _ (R2.out.grew (by repeat (first | with_reducible exact Below.refl _ _ | with_reducible assumption | with_reducible apply grew_ext | with_reducible apply grew_al | with_reducible apply grew_dn | with_reducible apply grew_d | (with_reducible refine grew_set ?_ (by first | omega | (repeat (first | with_reducible exact Nat.le_refl _ | with_reducible apply le_pl | with_reducible apply le_ext | with_reducible apply le_al))) _)))) R5.out hn hn).mono ?_; rintro e w2 ⟨rfl, g2⟩; have R4 := Lib.hid (R4.out.grew staysSum g2); (first | obtain ⟨y4, rfl⟩ := ext_cold g2 | obtain ⟨y4, rfl⟩ := ext_col g2 | obtain ⟨y4, rfl⟩ := ext_of g2); clear g2))
    have hq : decide (ps = ps) = true := by simp
    go_wp2_with fail
    refine (toSumSumS a' n' cap' ss _ (HR'.out.grew staysSum (by repeat (first | with_reducible exact Below.refl _ _ | with_reducible assumption | with_reducible apply grew_ext | with_reducible apply grew_al | with_reducible apply grew_dn | with_reducible apply grew_d | (with_reducible refine grew_set ?_ (by first | omega | (repeat (first | with_reducible exact Nat.le_refl _ | with_reducible apply le_pl | with_reducible apply le_ext | with_reducible apply le_al))) _)))) hs2).mono ?_
    rintro e w1 ⟨v6, rfl, o6, g1⟩
    obtain ⟨a6, c6, rfl⟩ := owns_slice o6
    have R6 := Lib.hid (rdSum_of_own HR'.out.len o6); clear o6
    have R4 := Lib.hid (R4.out.grew staysSum g1)
    obtain ⟨x7, rfl⟩ := ext_col g1
    clear g1
    go_wp2_with fail
    refine (eqSumSumS a4 a6 n' n' c4 c6 ss ss _ R4.out R6.out hn' hn').mono ?_
    rintro e w1 ⟨rfl, g1⟩
    obtain ⟨x8, rfl⟩ := ext_col g1
    clear g1
    have hq : decide (ss = ss) = true := by simp
    go_wp2
    go_ret
    refine ⟨rfl, ?_⟩
    repeat (first | with_reducible exact Below.refl _ _ | with_reducible assumption | with_reducible apply grew_ext | with_reducible apply grew_al | with_reducible apply grew_dn | with_reducible apply grew_d | (with_reducible refine grew_set ?_ (by first | omega | (repeat (first | with_reducible exact Nat.le_refl _ | with_reducible apply le_pl | with_reducible apply le_ext | with_reducible apply le_al))) _))
end Go.Proofs.Ytmknnbbhhnmpaaa
