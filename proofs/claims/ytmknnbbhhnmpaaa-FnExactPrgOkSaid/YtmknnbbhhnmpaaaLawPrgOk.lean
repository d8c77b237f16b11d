/- The walk of the law on PrgOk, program against reference. No condition. -/
import Derived.Test.YtmknnbbhhnmpaaaPrgOkI
namespace Go.Proofs.Ytmknnbbhhnmpaaa
open Go.RowKit
set_option linter.unusedVariables false
attribute [local go_sem] ext_cell ext_frozen ext_lt ext_le ext_le1 lt_s2 lt_s3 lt_s4 lt_s5 lt_s6 ext_lt1 ext_lt2 ext_lt3

set_option maxHeartbeats 1000000 in
theorem lawFnExactPrgOk (a : Option Addr) (n cap : Nat) (ps : List Prc) (w : World) (hr : RdP w a n ps) (hw : PrgWf ps) (h1 : n ≤ cap) (h2 : cap ≤ maxLen) :
    Calls Try.prog 4 #[.agg #[.slice a n cap]] w fun e w' => e = .returned (.bool true) ∧ Grew w w' := by
  have hn : n ≤ 9223372036854775807 := by unfold maxLen at h2; omega
  have HR := Lib.hid hr; clear hr hw h1 h2
  go_enter Try.func4, Try.ntmps4
  go_wp2_with fail
  refine (szPrgProg a n cap ps 1048576 _ (HR.out.grew (by repeat (first | exact Below.refl _ _ | assumption | apply grew_ext | apply grew_al | apply grew_dn | (refine grew_set ?_ (by repeat (first | exact Nat.le_refl _ | assumption | apply le_ext | apply le_al | apply le_pl)) _)))) (by omega) (by omega) hn).mono ?_
  rintro e w1 ⟨z, rfl, hz, g1⟩
  obtain ⟨x, rfl⟩ := ext_of g1
  clear g1
  rcases hz with rfl | ⟨z0, z1, z2, z3⟩
  · go_wp2
    go_ret
    refine ⟨rfl, ?_⟩
    repeat (first | exact Below.refl _ _ | assumption | apply grew_ext | apply grew_al | apply grew_dn | (refine grew_set ?_ (by repeat (first | exact Nat.le_refl _ | assumption | apply le_ext | apply le_al | apply le_pl)) _))
  · have hz3 := Lib.hid z3; clear z3
    go_wp2_with fail
    refine (toPrgProg a n cap ps _ (HR.out.grew (by repeat (first | exact Below.refl _ _ | assumption | apply grew_ext | apply grew_al | apply grew_dn | (refine grew_set ?_ (by repeat (first | exact Nat.le_refl _ | assumption | apply le_ext | apply le_al | apply le_pl)) _)))) z2 hz3.out).mono ?_
    rintro e w1 ⟨v1, ms1, rfl, o1, hm1, g1⟩
    obtain ⟨a1, c1, rfl⟩ := owns_slice o1.2.1
    have R1 := Lib.hid o1.rd; clear o1
    rw [hm1] at R1
    obtain ⟨y, rfl⟩ := ext_col g1
    clear g1 hm1
    go_wp2_with fail
    refine (specPrgOk a1 n c1 ps _ R1.out hn).mono ?_
    rintro e w1 ⟨rfl, g1⟩
    obtain ⟨x2, rfl⟩ := ext_col g1
    clear g1 R1
    go_wp2_with fail
    refine (toPrgProg a n cap ps _ (HR.out.grew (by repeat (first | exact Below.refl _ _ | assumption | apply grew_ext | apply grew_al | apply grew_dn | (refine grew_set ?_ (by repeat (first | exact Nat.le_refl _ | assumption | apply le_ext | apply le_al | apply le_pl)) _)))) z2 hz3.out).mono ?_
    rintro e w1 ⟨v2, ms2, rfl, o2, hm2, g1⟩
    obtain ⟨a2, c2, rfl⟩ := owns_slice o2.2.1
    have R2 := Lib.hid o2.rd; clear o2
    rw [hm2] at R2
    obtain ⟨x3, rfl⟩ := ext_col g1
    clear g1 hm2
    go_wp2_with fail
    refine (implPrgOk a2 n c2 ps _ (R2.out.grew (by repeat (first | exact Below.refl _ _ | assumption | apply grew_ext | apply grew_al | apply grew_dn | (refine grew_set ?_ (by repeat (first | exact Nat.le_refl _ | assumption | apply le_ext | apply le_al | apply le_pl)) _)))) hn).mono ?_
    rintro e w1 ⟨rfl, g1⟩
    obtain ⟨x4, rfl⟩ := ext_of g1
    clear g1
    have hb : ∀ B : Bool, (B != B) = false := fun B => by simp
    go_wp2_with fail
    have s1 := ext_size (w.alloc (.cells #[.slice a n cap] 30)) x3
    simp only [World.size_alloc] at s1
    go_region_held3 (fun W => W.cell? ⟨w.heap.size, 0, none⟩ = some (.slice a n cap) ∧ W.cell? ⟨(ext (w.alloc (.cells #[.slice a n cap] 30)) x3).heap.size, 0, none⟩ = some (.slice a2 n c2)) (first | assumption | (constructor <;> simp [go_sem]))
      (first
      | (go_at_call 20; refine (toPrgProg a n cap ps _ (HR.out.grew (by repeat (first | exact Below.refl _ _ | assumption | apply grew_ext | apply grew_al | apply grew_dn | (refine grew_set ?_ (by repeat (first | exact Nat.le_refl _ | assumption | apply le_ext | apply le_al | apply le_pl)) _)))) z2 hz3.out).mono ?_; rintro e w1 ⟨v3, ms3, rfl, o3, hm3, g1⟩; obtain ⟨a3, c3, rfl⟩ := owns_slice o3.2.1; have R3 := Lib.hid o3.rd; rw [hm3] at R3; (first | obtain ⟨y3, rfl⟩ := ext_cold g1 | obtain ⟨y3, rfl⟩ := ext_col g1 | obtain ⟨y3, rfl⟩ := ext_of g1); clear g1; clear o3 hm3)
      | (go_at_call 22; refine (eqPrgProg a2 a3 n n c2 c3 ps ps _ (R2.out.grew (by repeat (first | exact Below.refl _ _ | assumption | apply grew_ext | apply grew_al | apply grew_dn | (refine grew_set ?_ (by repeat (first | exact Nat.le_refl _ | assumption | apply le_ext | apply le_al | apply le_pl)) _)))) R3.out hn hn).mono ?_; rintro e w2 ⟨rfl, g2⟩; (first | obtain ⟨y4, rfl⟩ := ext_cold g2 | obtain ⟨y4, rfl⟩ := ext_col g2 | obtain ⟨y4, rfl⟩ := ext_of g2); clear g2))
    have hq : decide (ps = ps) = true := by simp
    go_wp2
    go_ret
    refine ⟨rfl, ?_⟩
    repeat (first | exact Below.refl _ _ | assumption | apply grew_ext | apply grew_al | apply grew_dn | (refine grew_set ?_ (by repeat (first | exact Nat.le_refl _ | assumption | apply le_ext | apply le_al | apply le_pl)) _))
end Go.Proofs.Ytmknnbbhhnmpaaa
