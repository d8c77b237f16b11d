/- Slices of bounds and of sums: copied, compared, measured, searched. No condition. -/
import Derived.Test.YtcdfomoglkhboaaDoorPrgOkI
namespace Go.Proofs.YtcdfomoglkhboaaDoor
open Go.RowKit Go.ChangeShapes Go.WideShapes Go.Deep
set_option linter.unusedVariables false
attribute [local go_sem] ext_cell ext_frozen ext_lt ext_le ext_le1 lt_s2 lt_s3 lt_s4 lt_s5 lt_s6 ext_lt1 ext_lt2 ext_lt3

/-- Bounds. -/
structure Itv where
  lo : Int
  hi : Int
  deriving DecidableEq
/-- A sum. -/
structure Sum where
  on : Bool
  lo : Int
  hi : Int
  deriving DecidableEq
abbrev Itv.v (x : Itv) : Value := .agg #[.int .i64 x.lo, .int .i64 x.hi]
abbrev Sum.v (x : Sum) : Value := .agg #[.bool x.on, .int .i64 x.lo, .int .i64 x.hi]
structure ItvWf (x : Itv) : Prop where
  lo : I64 x.lo
  hi : I64 x.hi
structure SumWf (x : Sum) : Prop where
  lo : I64 x.lo
  hi : I64 x.hi

def Itv.cells (x : Itv) : List Value := [.int .i64 x.lo, .int .i64 x.hi]
def EItv : World → List Value → Itv → Prop := fun _ cs x => cs = x.cells
theorem staysItv : Stays EItv := fun _ _ _ _ _ h => h
theorem itv_len (x : Itv) : x.cells.length = 2 := rfl
theorem itv_one (xs : List Itv) : ∀ u ∈ xs.flatMap Itv.cells, u.oneCell' = true := by
  intro u hu
  obtain ⟨i, _, hi⟩ := List.mem_flatMap.1 hu
  simp only [Itv.cells, List.mem_cons, List.not_mem_nil, or_false] at hi
  rcases hi with rfl | rfl <;> rfl
theorem rdItv_at {w : World} {a : Option Addr} {n : Nat} {xs : List Itv} (h : RdL EItv 2 w a n xs) {k : Nat} (hk : k < n) : ∃ b off lo hi, a = some ⟨b, off, none⟩ ∧ xs[k]? = some ⟨lo, hi⟩ ∧
    w.cell? ⟨b, off + k * 2, none⟩ = some (.int .i64 lo) ∧ w.cell? ⟨b, off + k * 2 + 1, none⟩ = some (.int .i64 hi) ∧ b < w.heap.size := by
  obtain ⟨b, off, ⟨lo, hi⟩, cs, rfl, hx, _, hc, rfl⟩ := h.at_ hk
  exact ⟨b, off, lo, hi, rfl, hx, hc 0 _ rfl, hc 1 _ rfl, h.lt (by omega) rfl⟩
theorem itvInfo : (Tryd.prog.info? 68).map (fun i => (i.zero, i.size, i.bytes)) = some (some (.agg #[.int .i64 0, .int .i64 0]), 2, 16) := by kernel_rfl

def Sum.cells (x : Sum) : List Value := [.bool x.on, .int .i64 x.lo, .int .i64 x.hi]
def ESum : World → List Value → Sum → Prop := fun _ cs x => cs = x.cells
theorem staysSum : Stays ESum := fun _ _ _ _ _ h => h
theorem sum_len (x : Sum) : x.cells.length = 3 := rfl
theorem sum_one (xs : List Sum) : ∀ u ∈ xs.flatMap Sum.cells, u.oneCell' = true := by
  intro u hu
  obtain ⟨i, _, hi⟩ := List.mem_flatMap.1 hu
  simp only [Sum.cells, List.mem_cons, List.not_mem_nil, or_false] at hi
  rcases hi with rfl | rfl | rfl <;> rfl
theorem rdSum_at {w : World} {a : Option Addr} {n : Nat} {xs : List Sum} (h : RdL ESum 3 w a n xs) {k : Nat} (hk : k < n) : ∃ b off on lo hi, a = some ⟨b, off, none⟩ ∧ xs[k]? = some ⟨on, lo, hi⟩ ∧
    w.cell? ⟨b, off + k * 3, none⟩ = some (.bool on) ∧ w.cell? ⟨b, off + k * 3 + 1, none⟩ = some (.int .i64 lo) ∧ w.cell? ⟨b, off + k * 3 + 2, none⟩ = some (.int .i64 hi) ∧ b < w.heap.size := by
  obtain ⟨b, off, ⟨on, lo, hi⟩, cs, rfl, hx, _, hc, rfl⟩ := h.at_ hk
  exact ⟨b, off, on, lo, hi, rfl, hx, hc 0 _ rfl, hc 1 _ rfl, hc 2 _ rfl, h.lt (by omega) rfl⟩

def itvEqB (x y : Itv) : Bool := decide (x = y)
def sumEqB (x y : Sum) : Bool := decide (x = y)
end Go.Proofs.YtcdfomoglkhboaaDoor