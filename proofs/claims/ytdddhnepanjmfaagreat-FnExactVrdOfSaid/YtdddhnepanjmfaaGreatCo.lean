/- How certificates as an argument are opened. No condition. -/
import Derived.Test.YtdddhnepanjmfaaGreatCd
namespace Go.Proofs.YtdddhnepanjmfaaGreat
open Go.RowKit Go.ChangeShapes Go.WideShapes Go.Deep
set_option linter.unusedVariables false

section
variable {H : Type} {enc : TypeId × Value → H} {w : World} {base : Nat} {spare : Nat → Bool} {held : Bool}
set_option maxRecDepth 100000 in
theorem trod_abs (n : Nat) (cs : List Value) (y : DataW H × List MemPlace) (h : DataW.trod enc Tryz.prog w base spare held n 180 cs = some y) : ∃ x, ESt w cs x ∧ True := by
  obtain ⟨ys, m, _, _, hlen, hyl, hf⟩ := DataW.trod_struct Tryz.underlying180 h
  rw [show Tryz.prog.cellsOf 180 = 4 from by kernel_rfl] at hlen
  match cs, hlen with
  | [c0, c1, c2, c3], _ =>
    have h0 := hf 0 _ rfl
    have h1 := hf 1 _ rfl
    have h2 := hf 2 _ rfl
    have hy0 : ys[0]? = some (ys[0]'(by rw [hyl]; decide)) := List.getElem?_eq_getElem _
    have hy1 : ys[1]? = some (ys[1]'(by rw [hyl]; decide)) := List.getElem?_eq_getElem _
    have hy2 : ys[2]? = some (ys[2]'(by rw [hyl]; decide)) := List.getElem?_eq_getElem _
    rw [hy0] at h0
    rw [hy1] at h1
    rw [hy2] at h2
    obtain ⟨b, hb, _⟩ := DataW.trod_bool Tryz.underlying4 h0
    obtain ⟨a, k, c, xs, hs, hr, hw, hk, hc⟩ := trod_rdl (E := EItv) ItvWf Tryz.underlying178 (C := 2) (v := c1) (by kernel_rfl) (by omega) trod_itv h1
    obtain ⟨⟨lo, hi⟩, hx, hw2⟩ := trod_itv _ _ _ h2
    have hx1 : [c2, c3] = [.int .i64 lo, .int .i64 hi] := hx
    have hb1 : [c0] = [.bool b] := hb
    simp only [List.cons.injEq, and_true] at hx1 hb1
    obtain ⟨rfl, rfl⟩ := hx1
    subst hb1
    subst hs
    obtain rfl : xs.length = k := hr.1
    exact ⟨⟨b, xs, lo, hi⟩, ⟨a, c, rfl, hr, hk, hc⟩, trivial⟩
set_option maxRecDepth 100000 in
theorem trod_row (n : Nat) (cs : List Value) (y : DataW H × List MemPlace) (h : DataW.trod enc Tryz.prog w base spare held n 133 cs = some y) : ∃ x, ERow w cs x ∧ True := by
  obtain ⟨v, rfl⟩ : ∃ v, cs = [v] := by
    rcases DataW.trod_slice Tryz.underlying133 h with ⟨h, _⟩ | ⟨a, l, c, _, _, _, _, h, _⟩ <;> exact ⟨_, h⟩
  obtain ⟨a, k, c, xs, rfl, hr, -, hk, hc⟩ := trod_rdl (E := ESt) (fun _ => True) Tryz.underlying133 (C := 4) (by kernel_rfl) (by omega) trod_abs h
  obtain rfl : xs.length = k := hr.1
  exact ⟨xs, ⟨a, c, rfl, hr, hk, hc⟩, trivial⟩
set_option maxRecDepth 100000 in
theorem trod_crt (n : Nat) (cs : List Value) (y : DataW H × List MemPlace) (h : DataW.trod enc Tryz.prog w base spare held n 50 cs = some y) : ∃ x, ECrt w cs x ∧ True := by
  obtain ⟨hl, m, hf⟩ := trod_fields Tryz.underlying50 (by kernel_rfl) (by kernel_rfl) h
  match cs, hl with
  | [c0, c1], _ =>
    obtain ⟨u0, x0, e0, t0⟩ := hf 0 _ rfl
    obtain ⟨u1, x1, e1, t1⟩ := hf 1 _ rfl
    obtain ⟨a, k, c, xs, rfl, hr, -, hk, hc⟩ := trod_rdl (E := ERow) (fun _ => True) Tryz.underlying47 (C := 1) (by kernel_rfl) (by omega) trod_row t0
    obtain ⟨a', k', c', xs', rfl, hr', -, hk', hc'⟩ := trod_rdl (E := ESum) SumWf Tryz.underlying48 (C := 3) (by kernel_rfl) (by omega) trod_sum t1
    simp only [List.getElem?_cons_zero, List.getElem?_cons_succ, Option.some.injEq] at e0 e1
    subst e0 e1
    obtain rfl : xs.length = k := hr.1
    obtain rfl : xs'.length = k' := hr'.1
    exact ⟨⟨xs, xs'⟩, ⟨a, c, a', c', rfl, hr, hr', ⟨hk, hc⟩, hk', hc'⟩, trivial⟩
set_option maxRecDepth 100000 in
theorem open_certs {r : Reach} {b0 : Nat} {v : Value} {d : DataW H} {p : List MemPlace} (hv : Value.okWide Tryz.prog w r b0 25 v) (h : DataW.Trod enc Tryz.prog w base spare held 25 v d p) :
    ∃ (a : Option Addr) (n c : Nat) (xs : List Crt), v = .slice a n c ∧ RdL ECrt 2 w a n xs ∧ True ∧ n ≤ c ∧ c ≤ maxLen := by
  obtain ⟨a, n, c, rfl⟩ := okWide_slice Tryz.underlying25 hv
  obtain ⟨fuel, hf⟩ := trod_of_value h
  obtain ⟨a', n', c', xs, he, h1, h2, h3, h4⟩ := trod_rdl (E := ECrt) (fun _ => True) Tryz.underlying25 (C := 2) (v := .slice a n c) (by kernel_rfl) (by omega) trod_crt hf
  exact ⟨a', n', c', xs, he, h1, trivial, h3, h4⟩
end
end Go.Proofs.YtdddhnepanjmfaaGreat
