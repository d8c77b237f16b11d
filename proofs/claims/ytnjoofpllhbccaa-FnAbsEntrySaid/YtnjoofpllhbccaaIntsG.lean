/- Rows of numbers as answers: what the laws' walks use of them. No condition. -/
import Derived.Test.YtnjoofpllhbccaaInts
namespace Go.Proofs.Ytnjoofpllhbccaa
open Go.RowKit
set_option linter.unusedVariables false

/-- The answer: a row of numbers of the call's own. -/
def RetIs (L : List Int) (w : World) (e : Ending) (w' : World) : Prop := ∃ a c, e = .returned (.slice a L.length c) ∧ w'.ownsRow w.heap.size 3 1 (.slice a L.length c) L.length (ints .i64 L) ∧ Grew w w'
theorem retIs_of {P : Program} {f : FuncId} {args : Array Value} {w : World} {L S : List Int} (h : Calls P f args w fun e w' => RetIs L w e w') (hS : L = S) : Calls P f args w fun e w' => RetIs S w e w' := hS ▸ h
theorem eqIntG (a : Option Addr) (n cap : Nat) (a' : Option Addr) (n' cap' : Nat) (zs ys : List Int) (w : World) (hr : Rd w a n 1 (ints .i64 zs)) (hr' : Rd w a' n' 1 (ints .i64 ys))
    (hm : n ≤ 140737488351232) (hm' : n' ≤ 140737488351232) :
    Calls Try.prog 161 #[.slice a n cap, .slice a' n' cap'] w fun e w' => e = .returned (.bool (decide (zs = ys))) ∧ Grew w w' :=
  (eqIntS a n cap zs a' n' cap' ys w hr hr' hm hm').mono fun e w' ⟨he, q, hq⟩ => ⟨he, by rw [hq]; exact grew_drewN _ q⟩
theorem heldIntG (a : Option Addr) (n cap : Nat) (k0 : Nat) (w : World) (hr : Rd w a n 1 (markI k0 (n * 1))) (hk0 : k0 ≤ 1099511627776) (hm : n ≤ 1099511627776) :
    Calls Try.prog 143 #[.slice a n cap, .int .i64 k0] w fun e w' => e = .returned (.int .i64 ((k0 + n * 1 : Nat) : Int)) ∧ Grew w w' :=
  (heldIntS a n cap k0 w hr hk0 hm).mono fun e w' ⟨he, hw⟩ => ⟨he, by rw [← hw]; exact Below.refl _ _⟩
end Go.Proofs.Ytnjoofpllhbccaa
