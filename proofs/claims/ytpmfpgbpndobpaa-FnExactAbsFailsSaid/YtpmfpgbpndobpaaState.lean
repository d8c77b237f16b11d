/- States: how they lie in memory; compared, marked; what comes to a procedure's beginning. No condition. -/
import Derived.Test.YtpmfpgbpndobpaaMarks
import Derived.Test.YtpmfpgbpndobpaaSums
import Derived.Test.YtpmfpgbpndobpaaBlk
namespace Go.Proofs.Ytpmfpgbpndobpaa
open Go.RowKit
set_option linter.unusedVariables false
attribute [local go_sem] ext_cell ext_frozen ext_lt ext_le ext_le1 lt_s2 lt_s3 lt_s4 lt_s5 lt_s6 ext_lt1 ext_lt2 ext_lt3

/-- A state. -/
structure St where
  on : Bool
  vars : List Itv
  lo : Int
  hi : Int
  deriving DecidableEq
/-- A state by value, its variables in a row that a call owns. -/
def OwnSt (w : World) (B : Nat) (val : Value) (s : St) : Prop :=
  ∃ a c, val = .agg #[.bool s.on, .slice a s.vars.length c, .int .i64 s.lo, .int .i64 s.hi] ∧ w.ownsRow B 42 2 (.slice a s.vars.length c) s.vars.length (s.vars.flatMap Itv.cells)

set_option maxHeartbeats 2000000 in
theorem eqAbsState (on on' : Bool) (a a' : Option Addr) (n n' c c' : Nat) (xs ys : List Itv) (lo hi lo' hi' : Int) (w : World) (hr : RdL EItv 2 w a n xs) (hr' : RdL EItv 2 w a' n' ys) (hn : n ≤ 9223372036854775807) (hn' : n' ≤ 9223372036854775807) :
    Calls Try.prog 12 #[.agg #[.bool on, .slice a n c, .int .i64 lo, .int .i64 hi], .agg #[.bool on', .slice a' n' c', .int .i64 lo', .int .i64 hi']] w
      fun e w' => e = .returned (.bool (decide ((⟨on, xs, lo, hi⟩ : St) = ⟨on', ys, lo', hi'⟩))) ∧ Grew w w' := by
  have C := fun W (h : Grew w W) => eqItvItvS a a' n n' c c' xs ys W (hr.grew staysItv h) (hr'.grew staysItv h) hn hn'
  have C2 := fun w => eqItvItv ⟨lo, hi⟩ ⟨lo', hi'⟩ w
  clear hr hr'
  obtain ⟨B, hB⟩ : ∃ B, decide (xs = ys) = B := ⟨_, rfl⟩
  obtain ⟨D, hD⟩ : ∃ D, itvEqB ⟨lo, hi⟩ ⟨lo', hi'⟩ = D := ⟨_, rfl⟩
  rw [hB] at C
  rw [hD] at C2
  have HC := Lib.hid C; clear C
  have HC2 := Lib.hid C2; clear C2
  have HV : Hid (decide ((⟨on, xs, lo, hi⟩ : St) = ⟨on', ys, lo', hi'⟩) = (decide (on = on') && (B && D))) := Lib.hid (by
    rw [← hB, ← hD]
    simp [itvEqB])
  rw [HV.out]
  clear HV hB hD
  cases on <;> cases on' <;> cases B <;> cases D
  all_goals
    go_enter Try.func12, Try.ntmps12
    go_wp2_with (first | ((with_reducible refine (HC.out _ (by repeat (first | with_reducible exact Below.refl _ _ | with_reducible assumption | with_reducible apply grew_ext | with_reducible apply grew_al | with_reducible apply grew_dn | with_reducible apply grew_d | (with_reducible refine grew_set ?_ (by first | omega | (repeat (first | with_reducible exact Nat.le_refl _ | with_reducible apply le_pl | with_reducible apply le_ext | with_reducible apply le_al))) _)))).mono ?_); rintro e w' ⟨rfl, g'⟩; (first | obtain ⟨y, rfl⟩ := ext_cold g' | obtain ⟨y, rfl⟩ := ext_col g' | obtain ⟨y, rfl⟩ := ext_of g'); clear g') | ((with_reducible refine (HC2.out _).mono ?_); rintro e w' ⟨rfl, g'⟩; (first | obtain ⟨z, rfl⟩ := ext_cold g' | obtain ⟨z, rfl⟩ := ext_col g' | obtain ⟨z, rfl⟩ := ext_of g'); clear g'))
    go_ret
    refine ⟨rfl, ?_⟩
    repeat (first | with_reducible exact Below.refl _ _ | with_reducible assumption | with_reducible apply grew_ext | with_reducible apply grew_al | with_reducible apply grew_dn | with_reducible apply grew_d | (with_reducible refine grew_set ?_ (by first | omega | (repeat (first | with_reducible exact Nat.le_refl _ | with_reducible apply le_pl | with_reducible apply le_ext | with_reducible apply le_al))) _))

theorem own_lit' {w : World} {B e size n b : Nat} {cs : Array Value} {xs : List Value} (hb : b = w.heap.size) (hx : cs.toList = xs) (hB : B ≤ w.heap.size) (hm : n ≤ maxLen) (hs : cs.size = n * size) :
    (w.alloc (.cells cs e)).ownsRow B e size (.slice (some ⟨b, 0, none⟩) n n) n xs := by
  subst hb hx
  exact World.ownsRow_lit w cs n hB hm hs

/-- What comes to a procedure's beginning. -/
def entrySt (lo hi : Int) : St := if itvOkB lo hi then ⟨true, [⟨lo, hi⟩, ⟨0, 0⟩, ⟨0, 0⟩, ⟨0, 0⟩], 0, 0⟩ else ⟨false, [], 0, 0⟩

/-- A state behind a pointer: four variables and the cells. -/
def stArr (a b c d e : Itv) : Array Value := #[.int .i64 a.lo, .int .i64 a.hi, .int .i64 b.lo, .int .i64 b.hi, .int .i64 c.lo, .int .i64 c.hi, .int .i64 d.lo, .int .i64 d.hi, .int .i64 e.lo, .int .i64 e.hi]

/-- A row of cells in the midst of a block reads. -/
theorem rd_blk {w : World} {g : Nat} {t : TypeId} {cs : Array Value} (h : Blk w g t cs) (off n size : Nat) (xs : List Value) (hl : xs.length = n * size) (hx : ∀ j u, xs[j]? = some u → cs[off + j]? = some u) : Rd w (some ⟨g, off, none⟩) n size xs :=
  ⟨hl, .inr ⟨g, off, rfl, fun j u hu => by rw [h.cell]; exact hx j u hu⟩⟩

end Go.Proofs.Ytpmfpgbpndobpaa
