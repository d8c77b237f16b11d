/- Whether a run is ok: the reference. No condition. -/
import Derived.Test.YtnjoofpllhbccaaNums
namespace Go.Proofs.Ytnjoofpllhbccaa
open Go.RowKit
set_option linter.unusedVariables false
attribute [local go_sem] ext_cell ext_frozen ext_lt ext_le ext_le1 lt_s2 lt_s3 lt_s4 lt_s5 lt_s6 ext_lt1 ext_lt2 ext_lt3

def risksB (op : Int) : Bool := decide (op = 4) || decide (op = 6) || decide (op = 7) || decide (op = 10) || decide (op = 11)
def frB (ps : List Prc) (f : Fr) : Bool := (atO ps f.proc f.pc).isSome && numsB f.vars 4 && numsB f.cells 4
def linkB (ps : List Prc) (f : Fr) (g : Option Fr) : Bool := match g with
  | none => true
  | some g => decide ((insOf (atO ps f.proc f.pc)).op = 10) && decide ((insOf (atO ps f.proc f.pc)).to = g.proc)
def okAt (ps : List Prc) (fs : List Fr) (k : Nat) : Bool := match fs[k]? with
  | some f => frB ps f && linkB ps f fs[k + 1]?
  | none => true
def framesB (ps : List Prc) (fs : List Fr) : Bool := (List.range fs.length).all (okAt ps fs)
def runOkB (ps : List Prc) (r : Ru) : Bool :=
  prgOkB ps && (decide (1 ≤ r.state) && decide (r.state ≤ 4)) && numB r.out && decide (r.frames.length ≤ 5) && (decide (r.state = 2) || decide (r.out = 0)) &&
    (if r.state = 1 then framesB ps r.frames && decide (0 < r.frames.length) && decide (r.proc = 0) && decide (r.pc = 0)
     else if r.state = 3 then decide (r.frames.length = 0) && (atO ps r.proc r.pc).isSome && risksB (insOf (atO ps r.proc r.pc)).op
     else decide (r.frames.length = 0) && decide (r.proc = 0) && decide (r.pc = 0))

theorem implRisks (op : Int) (w : World) : Calls Try.prog 108 #[.int .i64 op] w fun e w' => e = .returned (.bool (risksB op)) ∧ w = w' := by
  rcases opCases op with rfl | rfl | rfl | rfl | rfl | rfl | rfl | rfl | rfl | rfl | rfl | rfl | ⟨n1, n2, n3, n4, n5, n6, n7, n8, n9, n10, n11, n12⟩
  all_goals
    go_enter Try.func108, Try.ntmps108
    go_wp2
    go_ret
    exact ⟨by go_light; simp_all [risksB], rfl⟩

end Go.Proofs.Ytnjoofpllhbccaa
