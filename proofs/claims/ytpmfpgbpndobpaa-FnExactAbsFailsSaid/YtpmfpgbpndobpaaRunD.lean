/- Runs as data: calls and their numbers; how arguments are opened to them. No condition. -/
import Derived.Test.YtpmfpgbpndobpaaDIns
import Derived.Test.YtpmfpgbpndobpaaIntsG
namespace Go.Proofs.Ytpmfpgbpndobpaa
open Go.RowKit Go.ChangeShapes Go.WideShapes Go.Deep
set_option linter.unusedVariables false

/-- A call. -/
structure Fr where
  proc : Int
  pc : Int
  vars : List Int
  cells : List Int
  deriving DecidableEq
/-- A run. -/
structure Ru where
  state : Int
  frames : List Fr
  out : Int
  proc : Int
  pc : Int
  deriving DecidableEq
def EFr : World → List Value → Fr → Prop := fun w cs f =>
  ∃ a c a' c', cs = [.int .i64 f.proc, .int .i64 f.pc, .slice a f.vars.length c, .slice a' f.cells.length c'] ∧ Rd w a f.vars.length 1 (ints .i64 f.vars) ∧ Rd w a' f.cells.length 1 (ints .i64 f.cells) ∧
    f.vars.length ≤ maxLen ∧ f.cells.length ≤ maxLen
structure FrWf (f : Fr) : Prop where
  proc : I64 f.proc
  pc : I64 f.pc
  vars : ∀ x, x ∈ f.vars → I64 x
  cells : ∀ x, x ∈ f.cells → I64 x
structure RuWf (r : Ru) : Prop where
  state : I64 r.state
  out : I64 r.out
  proc : I64 r.proc
  pc : I64 r.pc
  frames : ∀ f, f ∈ r.frames → FrWf f
theorem stays_fr : Stays EFr := fun w w' cs p hg ⟨a, c, a', c', h1, h2, h3, h4⟩ => ⟨a, c, a', c', h1, h2.grew hg, h3.grew hg, h4⟩
/-- A slice of calls. -/
abbrev RdF (w : World) (a : Option Addr) (n : Nat) (fs : List Fr) : Prop := RdL EFr 4 w a n fs
theorem RdF.grew {w w' : World} {a : Option Addr} {n : Nat} {fs : List Fr} (h : RdF w a n fs) (hg : Grew w w') : RdF w' a n fs := RdL.grew stays_fr h hg

theorem rdF_at {w : World} {a : Option Addr} {n : Nat} {fs : List Fr} (h : RdF w a n fs) {k : Nat} (hk : k < n) : ∃ b off proc pc vs cs va vc ca cc, a = some ⟨b, off, none⟩ ∧ fs[k]? = some ⟨proc, pc, vs, cs⟩ ∧
    w.cell? ⟨b, off + k * 4, none⟩ = some (.int .i64 proc) ∧ w.cell? ⟨b, off + k * 4 + 1, none⟩ = some (.int .i64 pc) ∧ w.cell? ⟨b, off + k * 4 + 2, none⟩ = some (.slice va vs.length vc) ∧ w.cell? ⟨b, off + k * 4 + 3, none⟩ = some (.slice ca cs.length cc) ∧ b < w.heap.size ∧
    Rd w va vs.length 1 (ints .i64 vs) ∧ Rd w ca cs.length 1 (ints .i64 cs) ∧ vs.length ≤ maxLen ∧ cs.length ≤ maxLen := by
  obtain ⟨b, off, ⟨proc, pc, vs, cs⟩, zs, rfl, hx, hl, hc, va, vc, ca, cc, rfl, h1, h2, h3, h4⟩ := h.at_ hk
  refine ⟨b, off, proc, pc, vs, cs, va, vc, ca, cc, rfl, hx, hc 0 _ rfl, hc 1 _ rfl, hc 2 _ rfl, hc 3 _ rfl, ?_, h1, h2, h3, h4⟩
  exact World.block_lt_of_cell? w ⟨b, off + k * 4 + 0, none⟩ (hc 0 _ rfl)

def EI : World → List Value → Int → Prop := fun _ cs x => cs = [.int .i64 x]
theorem rd_of_rdl {w : World} {a : Option Addr} {n : Nat} {xs : List Int} (h : RdL EI 1 w a n xs) : Rd w a n 1 (ints .i64 xs) := by
  refine ⟨by rw [ints_length, h.1, Nat.mul_one], ?_⟩
  rcases h.2 with h0 | ⟨b, off, rfl, hc⟩
  · left
    have hx : xs = [] := List.eq_nil_of_length_eq_zero (by rw [h.1, h0])
    first | exact h0 | simp [hx, ints]
  · refine .inr ⟨b, off, rfl, fun j u hu => ?_⟩
    rw [ints, List.getElem?_map, Option.map_eq_some_iff] at hu
    obtain ⟨x, hx, rfl⟩ := hu
    obtain ⟨cs, h1, h2, h3⟩ := hc j x hx
    have := h2 0 (.int .i64 x) (by rw [show cs = [.int .i64 x] from h3]; rfl)
    rwa [Nat.mul_one] at this

section
variable {H : Type} {enc : TypeId × Value → H} {w : World} {base : Nat} {spare : Nat → Bool} {held : Bool}
end
end Go.Proofs.Ytpmfpgbpndobpaa
