/- How a state as an argument is opened. No condition. -/
import Derived.Test.YtpmfpgbpndobpaaGreatSums
namespace Go.Proofs.YtpmfpgbpndobpaaGreat
open Go.RowKit Go.ChangeShapes Go.WideShapes Go.Deep
set_option linter.unusedVariables false

section
variable {H : Type} {enc : TypeId × Value → H} {w : World} {base : Nat} {spare : Nat → Bool} {held : Bool}
set_option maxRecDepth 100000 in
theorem open_state {r : Reach} {b0 : Nat} {v : Value} {d : DataW H} {p : List MemPlace} (hv : Value.okWide Tryz.prog w r b0 70 v) (h : DataW.Trod enc Tryz.prog w base spare held 70 v d p) :
    ∃ (on : Bool) (a : Option Addr) (n c : Nat) (xs : List Itv) (lo hi : Int), v = .agg #[.bool on, .slice a n c, .int .i64 lo, .int .i64 hi] ∧ RdL EItv 2 w a n xs ∧ ((∀ x, x ∈ xs → ItvWf x) ∧ ItvWf ⟨lo, hi⟩) ∧ n ≤ c ∧ c ≤ maxLen := by
  obtain ⟨cs, fuel, he0, hf⟩ := open_struct_cells Tryz.underlying70 hv h
  obtain ⟨ys, m, _, _, hlen, hyl, hf⟩ := DataW.trod_struct Tryz.underlying70 hf
  rw [show Tryz.prog.cellsOf 70 = 4 from by kernel_rfl] at hlen
  match cs, hlen with
  | [c0, c1, c2, c3], _ =>
    have h0 := hf 0 _ rfl
    have h1 := hf 1 _ rfl
    have h2 := hf 2 _ rfl
    have hy0 : ys[0]? = some (ys[0]'(by rw [hyl]; decide)) := List.getElem?_eq_getElem _
    have hy1 : ys[1]? = some (ys[1]'(by rw [hyl]; decide)) := List.getElem?_eq_getElem _
    have hy2 : ys[2]? = some (ys[2]'(by rw [hyl]; decide)) := List.getElem?_eq_getElem _
    rw [hy0] at h0
    rw [hy1] at h1
    rw [hy2] at h2
    obtain ⟨b, hb, _⟩ := DataW.trod_bool Tryz.underlying4 h0
    obtain ⟨a, k, c, xs, hs, hr, hw, hk, hc⟩ := trod_rdl (E := EItv) ItvWf Tryz.underlying67 (C := 2) (v := c1) (by kernel_rfl) (by omega) trod_itv h1
    obtain ⟨⟨lo, hi⟩, hx, hw2⟩ := trod_itv _ _ _ h2
    have hx1 : [c2, c3] = [.int .i64 lo, .int .i64 hi] := hx
    have hb1 : [c0] = [.bool b] := hb
    simp only [List.cons.injEq, and_true] at hx1 hb1
    obtain ⟨rfl, rfl⟩ := hx1
    subst hb1
    subst hs
    exact ⟨b, a, k, c, xs, lo, hi, he0, hr, ⟨hw, hw2⟩, hk, hc⟩
end
end Go.Proofs.YtpmfpgbpndobpaaGreat
