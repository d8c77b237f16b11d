/- Lemmas and walks of this proof, some texts one behind the other. No condition. -/
import Derived.Test.YtpmfpgbpndobpaaPrgAt
import Derived.Test.YtpmfpgbpndobpaaRunEq
set_option linter.unusedSimpArgs false
set_option linter.unusedVariables false
/- Rows of numbers that are in bounds: l5Nums, numbersOk. No condition. -/
namespace Go.Proofs.Ytpmfpgbpndobpaa
open Go.RowKit
set_option linter.unusedVariables false
attribute [local go_sem] ext_cell ext_frozen ext_lt ext_le ext_le1 lt_s2 lt_s3 lt_s4 lt_s5 lt_s6 ext_lt1 ext_lt2 ext_lt3

def numB (x : Int) : Bool := decide (-32768 ≤ x) && decide (x ≤ 32767)
def numsB (l : List Int) (m : Int) : Bool := decide ((l.length : Int) = m) && l.all numB

end Go.Proofs.Ytpmfpgbpndobpaa

/- Whether a run is ok: the reference. No condition. -/
namespace Go.Proofs.Ytpmfpgbpndobpaa
open Go.RowKit
set_option linter.unusedVariables false
attribute [local go_sem] ext_cell ext_frozen ext_lt ext_le ext_le1 lt_s2 lt_s3 lt_s4 lt_s5 lt_s6 ext_lt1 ext_lt2 ext_lt3

def risksB (op : Int) : Bool := decide (op = 4) || decide (op = 6) || decide (op = 7) || decide (op = 10) || decide (op = 11)
def frB (ps : List Prc) (f : Fr) : Bool := (atO ps f.proc f.pc).isSome && numsB f.vars 4 && numsB f.cells 4
def linkB (ps : List Prc) (f : Fr) (g : Option Fr) : Bool := match g with
  | none => true
  | some g => decide ((insOf (atO ps f.proc f.pc)).op = 10) && decide ((insOf (atO ps f.proc f.pc)).to = g.proc)
def okAt (ps : List Prc) (fs : List Fr) (k : Nat) : Bool := match fs[k]? with
  | some f => frB ps f && linkB ps f fs[k + 1]?
  | none => true
def framesB (ps : List Prc) (fs : List Fr) : Bool := (List.range fs.length).all (okAt ps fs)
def runOkB (ps : List Prc) (r : Ru) : Bool :=
  prgOkB ps && (decide (1 ≤ r.state) && decide (r.state ≤ 4)) && numB r.out && decide (r.frames.length ≤ 5) && (decide (r.state = 2) || decide (r.out = 0)) &&
    (if r.state = 1 then framesB ps r.frames && decide (0 < r.frames.length) && decide (r.proc = 0) && decide (r.pc = 0)
     else if r.state = 3 then decide (r.frames.length = 0) && (atO ps r.proc r.pc).isSome && risksB (insOf (atO ps r.proc r.pc)).op
     else decide (r.frames.length = 0) && decide (r.proc = 0) && decide (r.pc = 0))

end Go.Proofs.Ytpmfpgbpndobpaa

/- Whether a run is ok: the reference's walk. No condition. -/
namespace Go.Proofs.Ytpmfpgbpndobpaa
open Go.RowKit
set_option linter.unusedVariables false
attribute [local go_sem] ext_cell ext_frozen ext_lt ext_le ext_le1 lt_s2 lt_s3 lt_s4 lt_s5 lt_s6 ext_lt1 ext_lt2 ext_lt3

theorem okAt_of {ps : List Prc} {fs : List Fr} {k : Nat} {f : Fr} (h : fs[k]? = some f) : okAt ps fs k = (frB ps f && linkB ps f fs[k + 1]?) := by rw [okAt, h]
theorem framesB_false {ps : List Prc} {fs : List Fr} {k : Nat} (hk : k < fs.length) (h : okAt ps fs k = false) : framesB ps fs = false := by
  rw [framesB, List.all_eq_false]
  exact ⟨k, List.mem_range.2 hk, by simp [h]⟩
theorem framesB_true {ps : List Prc} {fs : List Fr} (h : ∀ j, j < fs.length → okAt ps fs j = true) : framesB ps fs = true := by
  rw [framesB, List.all_eq_true]
  exact fun k hk => h k (List.mem_range.1 hk)

end Go.Proofs.Ytpmfpgbpndobpaa
