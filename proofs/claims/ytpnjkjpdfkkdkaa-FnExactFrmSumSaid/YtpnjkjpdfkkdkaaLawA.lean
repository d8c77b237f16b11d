/- The walks of the laws on sums, numbers and frames that compare the program with the reference. No condition. -/
import Derived.Test.YtpnjkjpdfkkdkaaWire
namespace Go.Proofs.Ytpnjkjpdfkkdkaa
open Go.RowKit
set_option linter.unusedVariables false

theorem lawFnExactFrmSum (a : Option Addr) (n cap : Nat) (zs : List Int) (w : World) (hr : Rd w a n 1 (ints .u8 zs)) (hz : Bs zs) :
    Calls Try.prog 3 #[.slice a n cap] w fun e w' => e = .returned (.bool true) ∧ Grew w w' := by
  have HR := Lib.hid hr; clear hr
  have HZ := Lib.hid hz; clear hz
  by_cases hbig : 1048576 < n
  · have hb : (1048576 : Int) < (n : Int) := by omega
    go_enter Try.func3, Try.ntmps3
    go_wp2
    go_ret
    exact ⟨rfl, Below.refl _ _⟩
  · have hb : ¬ (1048576 : Int) < (n : Int) := by omega
    have hn : n ≤ 1048576 := by omega
    clear hbig
    go_enter Try.func3, Try.ntmps3
    go_wp2_with fail
    refine (toByteS _ _ _ _ _ HR.out (by omega)).mono ?_
    rintro e w1 ⟨v1, rfl, o1, b1⟩
    obtain ⟨a1, c1, rfl, r1, -, -, -, -⟩ := owns_form o1
    have R1 := Lib.hid r1; clear r1 o1
    have B1 := Lib.hid b1; clear b1
    go_wp2_with fail
    refine (specFrmSum _ _ _ _ _ R1.out HZ.out (by omega)).mono ?_
    rintro e w' ⟨rfl, rfl⟩
    go_wp2_with fail
    refine (toByteS _ _ _ _ _ (HR.out.grew B1.out) (by omega)).mono ?_
    rintro e w2 ⟨v2, rfl, o2, b2⟩
    obtain ⟨a2, c2, rfl, r2, -, -, -, -⟩ := owns_form o2
    have R2 := Lib.hid r2; clear r2 o2
    have B2 := Lib.hid (B1.out.trans (b2.mono B1.out.size)); clear b2
    go_wp2_with fail
    refine (implFrmSum _ _ _ _ _ R2.out HZ.out (by omega)).mono ?_
    rintro e w' ⟨rfl, rfl⟩
    go_wp2_with fail
    refine (toByteS _ _ _ _ _ (HR.out.grew B2.out) (by omega)).mono ?_
    rintro e w3 ⟨v3, rfl, o3, b3⟩
    obtain ⟨a3, c3, rfl, r3, -, -, -, -⟩ := owns_form o3
    have R3 := Lib.hid r3; clear r3 o3
    have R2 := Lib.hid (R2.out.grew b3)
    have B3 := Lib.hid (B2.out.trans (b3.mono B2.out.size)); clear b3
    go_wp2_with fail
    refine (eqByteS _ _ _ _ _ _ _ _ _ R2.out R3.out (by omega) (by omega)).mono ?_
    rintro e w' ⟨rfl, q, rfl⟩
    go_wp2
    go_ret
    exact ⟨rfl, B3.out.trans (below_drewN (Below.refl _ _) q)⟩
end Go.Proofs.Ytpnjkjpdfkkdkaa
