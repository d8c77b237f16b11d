/- Whether a run is ok: the reference. No condition. -/
import Derived.Test.YtmknnbbhhnmpaaaNums
namespace Go.Proofs.Ytmknnbbhhnmpaaa
open Go.RowKit
set_option linter.unusedVariables false
attribute [local go_sem] ext_cell ext_frozen ext_lt ext_le ext_le1 lt_s2 lt_s3 lt_s4 lt_s5 lt_s6 ext_lt1 ext_lt2 ext_lt3

def risksB (op : Int) : Bool := decide (op = 4) || decide (op = 6) || decide (op = 7) || decide (op = 10) || decide (op = 11)
def frB (ps : List Prc) (f : Fr) : Bool := (atO ps f.proc f.pc).isSome && numsB f.vars 4 && numsB f.cells 4
def linkB (ps : List Prc) (f : Fr) (g : Option Fr) : Bool := match g with
  | none => true
  | some g => decide ((insOf (atO ps f.proc f.pc)).op = 10) && decide ((insOf (atO ps f.proc f.pc)).to = g.proc)
def okAt (ps : List Prc) (fs : List Fr) (k : Nat) : Bool := match fs[k]? with
  | some f => frB ps f && linkB ps f fs[k + 1]?
  | none => true
def framesB (ps : List Prc) (fs : List Fr) : Bool := (List.range fs.length).all (okAt ps fs)
def runOkB (ps : List Prc) (r : Ru) : Bool :=
  prgOkB ps && (decide (1 ≤ r.state) && decide (r.state ≤ 4)) && numB r.out && decide (r.frames.length ≤ 5) && (decide (r.state = 2) || decide (r.out = 0)) &&
    (if r.state = 1 then framesB ps r.frames && decide (0 < r.frames.length) && decide (r.proc = 0) && decide (r.pc = 0)
     else if r.state = 3 then decide (r.frames.length = 0) && (atO ps r.proc r.pc).isSome && risksB (insOf (atO ps r.proc r.pc)).op
     else decide (r.frames.length = 0) && decide (r.proc = 0) && decide (r.pc = 0))

theorem specRisks (op : Int) (w : World) : Calls Try.prog 139 #[.int .i64 op] w fun e w' => e = .returned (.bool (risksB op)) ∧ w = w' := by
  rcases opCases op with rfl | rfl | rfl | rfl | rfl | rfl | rfl | rfl | rfl | rfl | rfl | rfl | ⟨n1, n2, n3, n4, n5, n6, n7, n8, n9, n10, n11, n12⟩
  all_goals
    go_enter Try.func139, Try.ntmps139
    go_wp2
    go_ret
    exact ⟨by go_light; simp_all [risksB], rfl⟩
theorem implRisks (op : Int) (w : World) : Calls Try.prog 136 #[.int .i64 op] w fun e w' => e = .returned (.bool (risksB op)) ∧ w = w' := by
  rcases opCases op with rfl | rfl | rfl | rfl | rfl | rfl | rfl | rfl | rfl | rfl | rfl | rfl | ⟨n1, n2, n3, n4, n5, n6, n7, n8, n9, n10, n11, n12⟩
  all_goals
    go_enter Try.func136, Try.ntmps136
    go_wp2
    go_ret
    exact ⟨by go_light; simp_all [risksB], rfl⟩

set_option maxHeartbeats 1000000 in
theorem specL5Frame (a : Option Addr) (n cap : Nat) (ps : List Prc) (proc pc : Int) (va ca : Option Addr) (vn vc cn cc : Nat) (vs cs : List Int) (w : World) (hr : RdP w a n ps) (hn : n ≤ 9223372036854775807) (h1 : Rd w va vn 1 (ints .i64 vs)) (h2 : Rd w ca cn 1 (ints .i64 cs)) (n1 : vn ≤ 9223372036854775807) (n2 : cn ≤ 9223372036854775807) :
    Calls Try.prog 140 #[.agg #[.slice a n cap], .agg #[.int .i64 proc, .int .i64 pc, .slice va vn vc, .slice ca cn cc]] w fun e w' => e = .returned (.bool (frB ps ⟨proc, pc, vs, cs⟩)) ∧ Grew w w' := by
  have C : ∀ W, Grew w W → Calls Try.prog 25 #[.agg #[.slice a n cap], .int .i64 proc, .int .i64 pc] W fun e w' => e = .returned (.tuple #[(insOf (atO ps proc pc)).v, .bool (atO ps proc pc).isSome]) ∧ Grew W w' := fun W h => specPrgAt a n cap ps proc pc W (hr.grew h) hn
  have D := fun W (h : Grew w W) => specL5Nums va vn vc vs 4 W (h1.grew h) n1
  have E := fun W (h : Grew w W) => specL5Nums ca cn cc cs 4 W (h2.grew h) n2
  clear hr h1 h2
  have HV : Hid (frB ps ⟨proc, pc, vs, cs⟩ = ((atO ps proc pc).isSome && numsB vs 4 && numsB cs 4)) := Lib.hid rfl
  rw [HV.out]
  clear HV
  generalize (atO ps proc pc).isSome = B at *
  generalize insOf (atO ps proc pc) = J at *
  generalize numsB vs 4 = B1 at *
  generalize numsB cs 4 = B2 at *
  have HC := Lib.hid C; clear C
  have HD := Lib.hid D; clear D
  have HE := Lib.hid E; clear E
  cases B <;> cases B1 <;> cases B2
  all_goals
    go_enter Try.func140, Try.ntmps140
    go_wp2_with (first | ((with_reducible refine (HC.out _ (by repeat (first | with_reducible exact Below.refl _ _ | with_reducible assumption | with_reducible apply grew_ext | with_reducible apply grew_al | with_reducible apply grew_dn | with_reducible apply grew_d | (with_reducible refine grew_set ?_ (by first | omega | (repeat (first | with_reducible exact Nat.le_refl _ | with_reducible apply le_pl | with_reducible apply le_ext | with_reducible apply le_al))) _)))).mono ?_); rintro e w' ⟨rfl, g'⟩; (first | obtain ⟨y, rfl⟩ := ext_cold g' | obtain ⟨y, rfl⟩ := ext_col g' | obtain ⟨y, rfl⟩ := ext_of g'); clear g') | ((with_reducible refine (HD.out _ (by repeat (first | with_reducible exact Below.refl _ _ | with_reducible assumption | with_reducible apply grew_ext | with_reducible apply grew_al | with_reducible apply grew_dn | with_reducible apply grew_d | (with_reducible refine grew_set ?_ (by first | omega | (repeat (first | with_reducible exact Nat.le_refl _ | with_reducible apply le_pl | with_reducible apply le_ext | with_reducible apply le_al))) _)))).mono ?_); rintro e w' ⟨rfl, rfl⟩) | ((with_reducible refine (HE.out _ (by repeat (first | with_reducible exact Below.refl _ _ | with_reducible assumption | with_reducible apply grew_ext | with_reducible apply grew_al | with_reducible apply grew_dn | with_reducible apply grew_d | (with_reducible refine grew_set ?_ (by first | omega | (repeat (first | with_reducible exact Nat.le_refl _ | with_reducible apply le_pl | with_reducible apply le_ext | with_reducible apply le_al))) _)))).mono ?_); rintro e w' ⟨rfl, rfl⟩))
    go_ret
    refine ⟨rfl, ?_⟩
    repeat (first | with_reducible exact Below.refl _ _ | with_reducible assumption | with_reducible apply grew_ext | with_reducible apply grew_al | with_reducible apply grew_dn | with_reducible apply grew_d | (with_reducible refine grew_set ?_ (by first | omega | (repeat (first | with_reducible exact Nat.le_refl _ | with_reducible apply le_pl | with_reducible apply le_ext | with_reducible apply le_al))) _))
end Go.Proofs.Ytmknnbbhhnmpaaa
