/- The draw of inputs: a number and twelve numbers. No condition. -/
import Derived.Test.YtpmfpgbpndobpaaGreatDr
namespace Go.Proofs.YtpmfpgbpndobpaaGreat
open Go.RowKit
set_option linter.unusedVariables false

theorem DrawInputs (a : Option Addr) (n cap : Nat) (zs : List Int) (w : World) (hr : Rd w a n 1 (ints .u8 zs)) (hz : Bs zs) (hc : n ≤ cap ∧ cap ≤ maxLen) :
    Calls Tryz.prog 7 #[.slice a n cap] w fun e w' => ∃ x v ys, e = .returned (.tuple #[.int .i64 x, v]) ∧ N16 x ∧ Ns ys ∧ w'.ownsRow w.heap.size 3 1 v 12 (ints .i64 ys) ∧ Grew w w' := by
  have HR := Lib.hid hr; clear hr
  have HZ := Lib.hid hz; clear hz
  go_enter Tryz.func7, Tryz.ntmps7
  go_wp2_with fail
  refine (l20Open _ _ _ _ _ HR.out HZ.out hc).mono ?_
  rintro e w1 ⟨rfl, h1, h2⟩
  have H1 := Lib.hid h1; clear h1
  have H2 := Lib.hid h2; clear h2
  go_wp2_with fail
  refine (l20Num _ 0 _ H1.out (by omega)).mono ?_
  rintro e w2 ⟨x, rfl, hx, h3, h4⟩
  have H3 := Lib.hid h3; clear h3
  have HX := Lib.hid hx; clear hx
  have B2 := Lib.hid (H2.out.trans (h4.belowB H2.out.size (fun k hk => by omega))); clear h4
  go_wp2_with fail
  refine (l20Nums _ 3 12 _ H3.out (by omega)).mono ?_
  rintro e w3 ⟨v, ys, rfl, hy, ho, hr, hc⟩
  have HY := Lib.hid hy; clear hy
  have O3 := Lib.hid (owns_mono ho B2.out.size); clear ho
  have B3 := Lib.hid (B2.out.trans (hc.belowB B2.out.size (fun k hk => by omega))); clear hc hr
  go_wp2
  go_ret2
  exact ⟨x, v, ys, rfl, HX.out, HY.out, O3.out, B3.out⟩
end Go.Proofs.YtpmfpgbpndobpaaGreat
