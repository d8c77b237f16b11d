/- The walk of the law on frames that are taken, program against reference. No condition. -/
import Derived.Test.YtpnjkjpdfkkdkaaFrm
namespace Go.Proofs.Ytpnjkjpdfkkdkaa
open Go.RowKit
set_option linter.unusedVariables false

theorem lawFnExactFrmTake (a : Option Addr) (n cap : Nat) (zs : List Int) (w : World) (hr : Rd w a n 1 (ints .u8 zs)) (hz : Bs zs) :
    Calls Try.prog 8 #[.slice a n cap] w fun e w' => e = .returned (.bool true) ∧ Grew w w' := by
  have HR := Lib.hid hr; clear hr
  have HZ := Lib.hid hz; clear hz
  by_cases hbig : 1048576 < n
  · have hb : (1048576 : Int) < (n : Int) := by omega
    go_enter Try.func8, Try.ntmps8
    go_wp2
    go_ret
    exact ⟨rfl, Below.refl _ _⟩
  · have hb : ¬ (1048576 : Int) < (n : Int) := by omega
    have hn : n ≤ 1048576 := by omega
    clear hbig
    obtain ⟨w0, rfl⟩ : ∃ w0, w0 = w := ⟨_, rfl⟩
    have B0 : Hid (Grew w0 w0) := Below.refl _ _
    have hN : (frmTake zs).1.length ≤ 1048580 := by
      have hl := HR.out.len1
      unfold frmTake
      split
      · simp; omega
      · simp
    obtain ⟨X, hX⟩ : ∃ X, (frmTake zs).2.1 = X := ⟨_, rfl⟩
    obtain ⟨Y, hY⟩ : ∃ Y, (frmTake zs).2.2 = Y := ⟨_, rfl⟩
    have HX := Lib.hid hX; clear hX
    have HY := Lib.hid hY; clear hY
    go_enter Try.func8, Try.ntmps8
    go_wp2_with fail
    refine (toByteS _ _ _ _ _ (HR.out.grew B0.out) (by omega)).mono ?_
    rintro e w1 ⟨v1, rfl, o1, b1⟩
    obtain ⟨a1, c1, rfl⟩ := owns_slice o1
    have s1 := b1.size
    have B1 := Lib.hid (B0.out.trans (b1.mono B0.out.size)); clear b1
    have P1 := Lib.hid o1.lt
    have O1 := Lib.hid o1; clear o1
    go_wp2_with fail
    refine (specFrmTake _ _ _ _ _ (owns_rd O1.out) HZ.out (by omega) (owns_cap O1.out).1 (owns_cap O1.out).2).mono ?_
    rintro e w2 ⟨v2, rfl, o2, b2⟩
    obtain ⟨a2, c2, rfl⟩ := owns_slice o2
    have O1 := Lib.hid (owns_grew O1.out b2)
    have s2 := b2.size
    have B2 := Lib.hid (B1.out.trans (b2.mono B1.out.size)); clear b2
    have P2 := Lib.hid o2.lt
    have O2 := Lib.hid o2; clear o2
    clear O1 P1
    go_wp2_with fail
    refine (toByteS _ _ _ _ _ (HR.out.grew B2.out) (by omega)).mono ?_
    rintro e w3 ⟨v3, rfl, o3, b3⟩
    obtain ⟨a3, c3, rfl⟩ := owns_slice o3
    have O2 := Lib.hid (owns_grew O2.out b3)
    have s3 := b3.size
    have B3 := Lib.hid (B2.out.trans (b3.mono B2.out.size)); clear b3
    have P3 := Lib.hid o3.lt
    have O3 := Lib.hid o3; clear o3
    go_wp2_with fail
    refine (implFrmTake _ _ _ _ _ (owns_rd O3.out) HZ.out (by omega) (owns_cap O3.out).1 (owns_cap O3.out).2).mono ?_
    rintro e w4 ⟨v4, rfl, o4, b4⟩
    obtain ⟨a4, c4, rfl⟩ := owns_slice o4
    have O2 := Lib.hid (owns_grew O2.out b4)
    have O3 := Lib.hid (owns_grew O3.out b4)
    have s4 := b4.size
    have B4 := Lib.hid (B3.out.trans (b4.mono B3.out.size)); clear b4
    have P4 := Lib.hid o4.lt
    have O4 := Lib.hid o4; clear o4
    go_wp2_with fail
    refine (eqByteS _ _ _ _ _ _ _ _ _ (owns_rd O4.out) (owns_rd O2.out) (by omega) (by omega)).mono ?_
    rintro e w5 ⟨rfl, q5, e5⟩
    have b5 : Grew w4 w5 := by rw [e5]; exact grew_drewN _ q5
    clear e5
    have O2 := Lib.hid (owns_grew O2.out b5)
    have O3 := Lib.hid (owns_grew O3.out b5)
    have O4 := Lib.hid (owns_grew O4.out b5)
    have s5 := b5.size
    have B5 := Lib.hid (B4.out.trans (b5.mono B4.out.size)); clear b5
    go_wp2_with fail
    refine (toByteS _ _ _ _ _ (HR.out.grew B5.out) (by omega)).mono ?_
    rintro e w6 ⟨v6, rfl, o6, b6⟩
    obtain ⟨a6, c6, rfl⟩ := owns_slice o6
    have O2 := Lib.hid (owns_grew O2.out b6)
    have O3 := Lib.hid (owns_grew O3.out b6)
    have O4 := Lib.hid (owns_grew O4.out b6)
    have s6 := b6.size
    have B6 := Lib.hid (B5.out.trans (b6.mono B5.out.size)); clear b6
    have P6 := Lib.hid o6.lt
    have O6 := Lib.hid o6; clear o6
    go_wp2_with fail
    refine (eqByteS _ _ _ _ _ _ _ _ _ (owns_rd O3.out) (owns_rd O6.out) (by omega) (by omega)).mono ?_
    rintro e w7 ⟨rfl, q7, e7⟩
    have b7 : Grew w6 w7 := by rw [e7]; exact grew_drewN _ q7
    clear e7
    have O2 := Lib.hid (owns_grew O2.out b7)
    have O3 := Lib.hid (owns_grew O3.out b7)
    have O4 := Lib.hid (owns_grew O4.out b7)
    have O6 := Lib.hid (owns_grew O6.out b7)
    have s7 := b7.size
    have B7 := Lib.hid (B6.out.trans (b7.mono B6.out.size)); clear b7
    clear O6 P6
    go_wp2_with fail
    refine (markByteS _ _ _ 1 _ _ _ O3.out (by omega) (by omega)).mono ?_
    rintro e w8 ⟨rfl, o8, h8⟩
    have O2 := Lib.hid (owns_chg O2.out h8 (fun b hb hF => by have := P2.out b hb; have := P3.out b hF; omega))
    have O4 := Lib.hid (owns_chg O4.out h8 (fun b hb hF => by have := P4.out b hb; have := P3.out b hF; omega))
    have O3 := Lib.hid o8; clear o8
    have s8 := h8.size
    have B8 := Lib.hid (B7.out.trans (h8.belowB B7.out.size (fun b hF => by have := P3.out b hF; have := B7.out.size; omega))); clear h8
    go_wp2_with fail
    refine (eqByteS _ _ _ _ _ _ _ _ _ (owns_rd O4.out) (owns_rd O2.out) (by omega) (by omega)).mono ?_
    rintro e w9 ⟨rfl, q9, e9⟩
    have b9 : Grew w8 w9 := by rw [e9]; exact grew_drewN _ q9
    clear e9
    have O2 := Lib.hid (owns_grew O2.out b9)
    have O3 := Lib.hid (owns_grew O3.out b9)
    have O4 := Lib.hid (owns_grew O4.out b9)
    have s9 := b9.size
    have B9 := Lib.hid (B8.out.trans (b9.mono B8.out.size)); clear b9
    clear O3 P3
    go_wp2_with fail
    refine (markByteS _ _ _ 1 _ _ _ O4.out (by omega) (by omega)).mono ?_
    rintro e w10 ⟨rfl, o10, h10⟩
    have O2 := Lib.hid (owns_chg O2.out h10 (fun b hb hF => by have := P2.out b hb; have := P4.out b hF; omega))
    have O4 := Lib.hid o10; clear o10
    have s10 := h10.size
    have B10 := Lib.hid (B9.out.trans (h10.belowB B9.out.size (fun b hF => by have := P4.out b hF; have := B9.out.size; omega))); clear h10
    go_wp2_with fail
    refine (heldByteS _ _ _ 1 _ (owns_rd O4.out) (by omega) (by omega)).mono ?_
    rintro e w' ⟨rfl, rfl⟩
    go_wp2_with fail
    refine (toByteS _ _ _ _ _ (HR.out.grew B10.out) (by omega)).mono ?_
    rintro e w11 ⟨v11, rfl, o11, b11⟩
    obtain ⟨a11, c11, rfl⟩ := owns_slice o11
    have O2 := Lib.hid (owns_grew O2.out b11)
    have O4 := Lib.hid (owns_grew O4.out b11)
    have s11 := b11.size
    have B11 := Lib.hid (B10.out.trans (b11.mono B10.out.size)); clear b11
    have P11 := Lib.hid o11.lt
    have O11 := Lib.hid o11; clear o11
    go_wp2_with fail
    refine (implFrmTake _ _ _ _ _ (owns_rd O11.out) HZ.out (by omega) (owns_cap O11.out).1 (owns_cap O11.out).2).mono ?_
    rintro e w12 ⟨v12, rfl, o12, b12⟩
    obtain ⟨a12, c12, rfl⟩ := owns_slice o12
    have O2 := Lib.hid (owns_grew O2.out b12)
    have O4 := Lib.hid (owns_grew O4.out b12)
    have O11 := Lib.hid (owns_grew O11.out b12)
    have s12 := b12.size
    have B12 := Lib.hid (B11.out.trans (b12.mono B11.out.size)); clear b12
    have P12 := Lib.hid o12.lt
    have O12 := Lib.hid o12; clear o12
    go_wp2_with fail
    refine (eqByteS _ _ _ _ _ _ _ _ _ (owns_rd O12.out) (owns_rd O2.out) (by omega) (by omega)).mono ?_
    rintro e w13 ⟨rfl, q13, e13⟩
    have b13 : Grew w12 w13 := by rw [e13]; exact grew_drewN _ q13
    clear e13
    have O2 := Lib.hid (owns_grew O2.out b13)
    have O4 := Lib.hid (owns_grew O4.out b13)
    have O11 := Lib.hid (owns_grew O11.out b13)
    have O12 := Lib.hid (owns_grew O12.out b13)
    have s13 := b13.size
    have B13 := Lib.hid (B12.out.trans (b13.mono B12.out.size)); clear b13
    go_wp2_with fail
    refine (heldByteS _ _ _ 1 _ (owns_rd O4.out) (by omega) (by omega)).mono ?_
    rintro e w' ⟨rfl, rfl⟩
    go_wp2
    go_ret
    exact ⟨rfl, B13.out⟩
end Go.Proofs.Ytpnjkjpdfkkdkaa
