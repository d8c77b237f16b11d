/- Lemmas and walks of this proof, some texts one behind the other. No condition. -/
import Derived.Test.YtdddhnepanjmfaaGreatBase
import Derived.Outline
import Derived.Handy
import Derived.Test.YtdddhnepanjmfaaGreatBlk
set_option linter.unusedSimpArgs false
set_option linter.unusedVariables false
/- Contracts of the small functions on instructions. No condition. -/
namespace Go.Proofs.YtdddhnepanjmfaaGreat
open Go.RowKit
set_option linter.unusedVariables false

theorem isVar (a : Int) (w : World) :
    Calls Tryz.prog 121 #[.int .i64 a] w fun e w' => e = .returned (.bool (decide (0 ≤ a) && decide (a < 4))) ∧ w = w' := by
  by_cases h1 : 0 ≤ a
  · go_enter Tryz.func121, Tryz.ntmps121
    go_wp2
    go_ret
    exact ⟨by simp [h1], rfl⟩
  · go_enter Tryz.func121, Tryz.ntmps121
    go_wp2
    go_ret
    exact ⟨by simp; omega, rfl⟩

theorem below (a b : Int) (w : World) :
    Calls Tryz.prog 97 #[.int .i64 a, .int .i64 b] w fun e w' => e = .returned (.bool (decide (0 ≤ a) && decide (a < b))) ∧ w = w' := by
  by_cases h1 : 0 ≤ a
  · go_enter Tryz.func97, Tryz.ntmps97
    go_wp2
    go_ret
    exact ⟨by simp [h1], rfl⟩
  · go_enter Tryz.func97, Tryz.ntmps97
    go_wp2
    go_ret
    exact ⟨by simp; omega, rfl⟩

theorem isRel (a : Int) (w : World) :
    Calls Tryz.prog 122 #[.int .i64 a] w fun e w' => e = .returned (.bool (decide (1 ≤ a) && decide (a ≤ 4))) ∧ w = w' := by
  by_cases h1 : 1 ≤ a
  · go_enter Tryz.func122, Tryz.ntmps122
    go_wp2
    go_ret
    exact ⟨by simp [h1], rfl⟩
  · go_enter Tryz.func122, Tryz.ntmps122
    go_wp2
    go_ret
    exact ⟨by simp; omega, rfl⟩

theorem l1In (a b c : Int) (w : World) :
    Calls Tryz.prog 69 #[.int .i64 a, .int .i64 b, .int .i64 c] w fun e w' => e = .returned (.bool (decide (b ≤ a) && decide (a ≤ c))) ∧ w = w' := by
  by_cases h1 : b ≤ a
  · go_enter Tryz.func69, Tryz.ntmps69
    go_wp2
    go_ret
    exact ⟨by simp [h1], rfl⟩
  · go_enter Tryz.func69, Tryz.ntmps69
    go_wp2
    go_ret
    exact ⟨by simp; omega, rfl⟩

theorem specNumOk (a : Int) (w : World) :
    Calls Tryz.prog 112 #[.int .i64 a] w fun e w' => e = .returned (.bool (decide (-32768 ≤ a) && decide (a ≤ 32767))) ∧ w = w' := by
  by_cases h1 : -32768 ≤ a
  · go_enter Tryz.func112, Tryz.ntmps112
    go_wp2
    go_ret
    exact ⟨by simp [h1], rfl⟩
  · go_enter Tryz.func112, Tryz.ntmps112
    go_wp2
    go_ret
    exact ⟨by simp; omega, rfl⟩

/-- An instruction: its eight numbers. -/
structure Ins where
  (op d a b rel lo hi to : Int)
  deriving DecidableEq
abbrev Ins.v (i : Ins) : Value := .agg #[.int .i64 i.op, .int .i64 i.d, .int .i64 i.a, .int .i64 i.b, .int .i64 i.rel, .int .i64 i.lo, .int .i64 i.hi, .int .i64 i.to]

theorem toInsIns (i : Ins) (w : World) :
    Calls Tryz.prog 115 #[i.v] w fun e w' => e = .returned i.v ∧ Grew w w' := by
  obtain ⟨op, d, a, b, rel, lo, hi, to⟩ := i
  go_enter Tryz.func115, Tryz.ntmps115
  go_wp2
  go_returns
  exact ⟨rfl, by unfold Grew; go_grown⟩

theorem insArith (op d a b : Int) (w : World) :
    Calls Tryz.prog 200 #[.agg #[.int .i64 op, .int .i64 d, .int .i64 a, .int .i64 b]] w fun e w' => e = .returned (Ins.v ⟨op, d, a, b, 0, 0, 0, 0⟩) ∧ Grew w w' := by
  go_enter Tryz.func200, Tryz.ntmps200
  go_wp2
  go_returns
  exact ⟨rfl, by unfold Grew; go_grown⟩

theorem insAny (d lo hi : Int) (w : World) :
    Calls Tryz.prog 195 #[.agg #[.int .i64 d, .int .i64 lo, .int .i64 hi]] w fun e w' => e = .returned (Ins.v ⟨5, d, 0, 0, 0, lo, hi, 0⟩) ∧ Grew w w' := by
  go_enter Tryz.func195, Tryz.ntmps195
  go_wp2
  go_returns
  exact ⟨rfl, by unfold Grew; go_grown⟩

theorem insLoad (d a : Int) (w : World) :
    Calls Tryz.prog 201 #[.agg #[.int .i64 d, .int .i64 a]] w fun e w' => e = .returned (Ins.v ⟨6, d, a, 0, 0, 0, 0, 0⟩) ∧ Grew w w' := by
  go_enter Tryz.func201, Tryz.ntmps201
  go_wp2
  go_returns
  exact ⟨rfl, by unfold Grew; go_grown⟩

theorem insStore (a b : Int) (w : World) :
    Calls Tryz.prog 202 #[.agg #[.int .i64 a, .int .i64 b]] w fun e w' => e = .returned (Ins.v ⟨7, 0, a, b, 0, 0, 0, 0⟩) ∧ Grew w w' := by
  go_enter Tryz.func202, Tryz.ntmps202
  go_wp2
  go_returns
  exact ⟨rfl, by unfold Grew; go_grown⟩

theorem insIf (rel a b to : Int) (w : World) :
    Calls Tryz.prog 196 #[.agg #[.int .i64 rel, .int .i64 a, .int .i64 b, .int .i64 to]] w fun e w' => e = .returned (Ins.v ⟨8, 0, a, b, rel, 0, 0, to⟩) ∧ Grew w w' := by
  go_enter Tryz.func196, Tryz.ntmps196
  go_wp2
  go_returns
  exact ⟨rfl, by unfold Grew; go_grown⟩

theorem insJump (to : Int) (w : World) :
    Calls Tryz.prog 197 #[.agg #[.int .i64 to]] w fun e w' => e = .returned (Ins.v ⟨9, 0, 0, 0, 0, 0, 0, to⟩) ∧ Grew w w' := by
  go_enter Tryz.func197, Tryz.ntmps197
  go_wp2
  go_returns
  exact ⟨rfl, by unfold Grew; go_grown⟩

theorem insCall (d a to : Int) (w : World) :
    Calls Tryz.prog 198 #[.agg #[.int .i64 d, .int .i64 a, .int .i64 to]] w fun e w' => e = .returned (Ins.v ⟨10, d, a, 0, 0, 0, 0, to⟩) ∧ Grew w w' := by
  go_enter Tryz.func198, Tryz.ntmps198
  go_wp2
  go_returns
  exact ⟨rfl, by unfold Grew; go_grown⟩

theorem insAssert (rel a b : Int) (w : World) :
    Calls Tryz.prog 199 #[.agg #[.int .i64 rel, .int .i64 a, .int .i64 b]] w fun e w' => e = .returned (Ins.v ⟨11, 0, a, b, rel, 0, 0, 0⟩) ∧ Grew w w' := by
  go_enter Tryz.func199, Tryz.ntmps199
  go_wp2
  go_returns
  exact ⟨rfl, by unfold Grew; go_grown⟩

theorem insRet (a : Int) (w : World) :
    Calls Tryz.prog 203 #[.agg #[.int .i64 a]] w fun e w' => e = .returned (Ins.v ⟨12, 0, a, 0, 0, 0, 0, 0⟩) ∧ Grew w w' := by
  go_enter Tryz.func203, Tryz.ntmps203
  go_wp2
  go_returns
  exact ⟨rfl, by unfold Grew; go_grown⟩

end Go.Proofs.YtdddhnepanjmfaaGreat

/- Instructions and programs as data: how they lie in memory, how arguments of these types are opened. No condition. -/
namespace Go.Proofs.YtdddhnepanjmfaaGreat
open Go.RowKit Go.ChangeShapes Go.WideShapes Go.Deep
set_option linter.unusedVariables false

/-- A number of Go's int. -/
def I64 (x : Int) : Prop := -9223372036854775808 ≤ x ∧ x ≤ 9223372036854775807
def Ins.cells (i : Ins) : List Value := [.int .i64 i.op, .int .i64 i.d, .int .i64 i.a, .int .i64 i.b, .int .i64 i.rel, .int .i64 i.lo, .int .i64 i.hi, .int .i64 i.to]
def EIns : World → List Value → Ins → Prop := fun _ cs i => cs = i.cells
structure InsWf (i : Ins) : Prop where
  op : I64 i.op
  d : I64 i.d
  a : I64 i.a
  b : I64 i.b
  rel : I64 i.rel
  lo : I64 i.lo
  hi : I64 i.hi
  to : I64 i.to
theorem stays_ins : Stays EIns := fun _ _ _ _ _ h => h

/-- A procedure; a program is a list of these. -/
structure Prc where
  lo : Int
  hi : Int
  code : List Ins
  deriving DecidableEq
def EPrc : World → List Value → Prc → Prop := fun w cs p =>
  ∃ a c, cs = [.int .i64 p.lo, .int .i64 p.hi, .slice a p.code.length c] ∧ RdL EIns 8 w a p.code.length p.code ∧ p.code.length ≤ c ∧ c ≤ maxLen
structure PrcWf (p : Prc) : Prop where
  lo : I64 p.lo
  hi : I64 p.hi
  code : ∀ i, i ∈ p.code → InsWf i
theorem stays_prc : Stays EPrc := fun w w' cs p hg ⟨a, c, h1, h2, h3⟩ => ⟨a, c, h1, h2.grew stays_ins hg, h3⟩
/-- A slice of procedures. -/
abbrev RdP (w : World) (a : Option Addr) (n : Nat) (ps : List Prc) : Prop := RdL EPrc 3 w a n ps
abbrev PrgWf (ps : List Prc) : Prop := ∀ p, p ∈ ps → PrcWf p
theorem RdP.grew {w w' : World} {a : Option Addr} {n : Nat} {ps : List Prc} (h : RdP w a n ps) (hg : Grew w w') : RdP w' a n ps := RdL.grew stays_prc h hg

section
variable {H : Type} {enc : TypeId × Value → H} {w : World} {base : Nat} {spare : Nat → Bool} {held : Bool}
theorem trod_i64 {fuel : Nat} {cs : List Value} {x : DataW H × List MemPlace} (h : DataW.trod enc Tryz.prog w base spare held fuel 3 cs = some x) : ∃ n, cs = [.int .i64 n] ∧ I64 n := by
  obtain ⟨n, h1, _, h2⟩ := DataW.trod_int Tryz.underlying3 h
  exact ⟨n, h1, i64_of_wf h2⟩
theorem trod_ins (n : Nat) (cs : List Value) (y : DataW H × List MemPlace) (h : DataW.trod enc Tryz.prog w base spare held n 183 cs = some y) : ∃ i, EIns w cs i ∧ InsWf i := by
  obtain ⟨hl, m, hf⟩ := trod_fields Tryz.underlying183 (by kernel_rfl) (by kernel_rfl) h
  match cs, hl with
  | [c0, c1, c2, c3, c4, c5, c6, c7], _ =>
    have g : ∀ (j : Nat) (u : Value) (x : DataW H × List MemPlace), [c0, c1, c2, c3, c4, c5, c6, c7][j]? = some u → DataW.trod enc Tryz.prog w base spare held m 3 [u] = some x → ∃ n, u = .int .i64 n ∧ I64 n := fun j u x _ hx => by
      obtain ⟨n, h1, h2⟩ := trod_i64 hx
      exact ⟨n, by simpa using h1, h2⟩
    have k : ∀ (j : Nat) (f : Field) (u : Value), Tryz.underlying183 = Tryz.underlying183 → True := fun _ _ _ _ => trivial
    obtain ⟨u0, x0, e0, t0⟩ := hf 0 _ rfl
    obtain ⟨u1, x1, e1, t1⟩ := hf 1 _ rfl
    obtain ⟨u2, x2, e2, t2⟩ := hf 2 _ rfl
    obtain ⟨u3, x3, e3, t3⟩ := hf 3 _ rfl
    obtain ⟨u4, x4, e4, t4⟩ := hf 4 _ rfl
    obtain ⟨u5, x5, e5, t5⟩ := hf 5 _ rfl
    obtain ⟨u6, x6, e6, t6⟩ := hf 6 _ rfl
    obtain ⟨u7, x7, e7, t7⟩ := hf 7 _ rfl
    obtain ⟨n0, rfl, w0⟩ := g 0 u0 x0 e0 t0
    obtain ⟨n1, rfl, w1⟩ := g 1 u1 x1 e1 t1
    obtain ⟨n2, rfl, w2⟩ := g 2 u2 x2 e2 t2
    obtain ⟨n3, rfl, w3⟩ := g 3 u3 x3 e3 t3
    obtain ⟨n4, rfl, w4⟩ := g 4 u4 x4 e4 t4
    obtain ⟨n5, rfl, w5⟩ := g 5 u5 x5 e5 t5
    obtain ⟨n6, rfl, w6⟩ := g 6 u6 x6 e6 t6
    obtain ⟨n7, rfl, w7⟩ := g 7 u7 x7 e7 t7
    simp only [List.getElem?_cons_zero, List.getElem?_cons_succ, Option.some.injEq] at e0 e1 e2 e3 e4 e5 e6 e7
    subst e0 e1 e2 e3 e4 e5 e6 e7
    exact ⟨⟨n0, n1, n2, n3, n4, n5, n6, n7⟩, rfl, ⟨w0, w1, w2, w3, w4, w5, w6, w7⟩⟩
theorem trod_prc (n : Nat) (cs : List Value) (y : DataW H × List MemPlace) (h : DataW.trod enc Tryz.prog w base spare held n 85 cs = some y) : ∃ p, EPrc w cs p ∧ PrcWf p := by
  obtain ⟨hl, m, hf⟩ := trod_fields Tryz.underlying85 (by kernel_rfl) (by kernel_rfl) h
  match cs, hl with
  | [c0, c1, c2], _ =>
    obtain ⟨u0, x0, e0, t0⟩ := hf 0 _ rfl
    obtain ⟨u1, x1, e1, t1⟩ := hf 1 _ rfl
    obtain ⟨u2, x2, e2, t2⟩ := hf 2 _ rfl
    obtain ⟨lo, hlo, wlo⟩ := trod_i64 t0
    obtain ⟨hi, hhi, whi⟩ := trod_i64 t1
    obtain ⟨a, k, c, is, rfl, hr, hw, hk, hc⟩ := trod_rdl (E := EIns) InsWf Tryz.underlying83 (C := 8) (by kernel_rfl) (by omega) trod_ins t2
    simp only [List.getElem?_cons_zero, List.getElem?_cons_succ, Option.some.injEq, List.cons.injEq, and_true] at e0 e1 e2 hlo hhi
    subst hlo hhi
    subst e0 e1 e2
    obtain rfl : is.length = k := hr.1
    exact ⟨⟨lo, hi, is⟩, ⟨a, c, rfl, hr, hk, hc⟩, ⟨wlo, whi, hw⟩⟩
set_option maxRecDepth 100000 in
theorem open_prog {r : Reach} {b0 : Nat} {v : Value} {d : DataW H} {p : List MemPlace} (hv : Value.okWide Tryz.prog w r b0 24 v) (h : DataW.Trod enc Tryz.prog w base spare held 24 v d p) :
    ∃ (a : Option Addr) (n c : Nat) (ps : List Prc), v = .agg #[.slice a n c] ∧ RdP w a n ps ∧ PrgWf ps ∧ n ≤ c ∧ c ≤ maxLen := by
  obtain ⟨cs, fuel, he0, hf⟩ := open_struct_cells Tryz.underlying24 hv h
  obtain ⟨hl, m, hf⟩ := trod_fields Tryz.underlying24 (by kernel_rfl) (by kernel_rfl) hf
  match cs, hl with
  | [c0], _ =>
    obtain ⟨u0, x0, e0, t0⟩ := hf 0 _ rfl
    obtain ⟨a, k, c, ps, rfl, hr, hw, hk, hc⟩ := trod_rdl (E := EPrc) PrcWf Tryz.underlying22 (C := 3) (by kernel_rfl) (by omega) trod_prc t0
    simp only [List.getElem?_cons_zero, Option.some.injEq] at e0
    subst e0
    exact ⟨a, k, c, ps, he0, hr, hw, hk, hc⟩
end
end Go.Proofs.YtdddhnepanjmfaaGreat
