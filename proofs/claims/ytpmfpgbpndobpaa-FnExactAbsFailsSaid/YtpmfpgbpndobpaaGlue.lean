/- Slices of bounds and of sums: copied, compared, measured, searched. No condition. -/
import Derived.Test.YtpmfpgbpndobpaaPrgOkI
namespace Go.Proofs.Ytpmfpgbpndobpaa
open Go.RowKit Go.ChangeShapes Go.WideShapes Go.Deep
set_option linter.unusedVariables false
attribute [local go_sem] ext_cell ext_frozen ext_lt ext_le ext_le1 lt_s2 lt_s3 lt_s4 lt_s5 lt_s6 ext_lt1 ext_lt2 ext_lt3

/-- Bounds. -/
structure Itv where
  lo : Int
  hi : Int
  deriving DecidableEq
/-- A sum. -/
structure Sum where
  on : Bool
  lo : Int
  hi : Int
  deriving DecidableEq
abbrev Itv.v (x : Itv) : Value := .agg #[.int .i64 x.lo, .int .i64 x.hi]
abbrev Sum.v (x : Sum) : Value := .agg #[.bool x.on, .int .i64 x.lo, .int .i64 x.hi]
structure ItvWf (x : Itv) : Prop where
  lo : I64 x.lo
  hi : I64 x.hi
structure SumWf (x : Sum) : Prop where
  lo : I64 x.lo
  hi : I64 x.hi

def Itv.cells (x : Itv) : List Value := [.int .i64 x.lo, .int .i64 x.hi]
def EItv : World → List Value → Itv → Prop := fun _ cs x => cs = x.cells
theorem staysItv : Stays EItv := fun _ _ _ _ _ h => h
theorem itv_len (x : Itv) : x.cells.length = 2 := rfl
theorem itv_one (xs : List Itv) : ∀ u ∈ xs.flatMap Itv.cells, u.oneCell' = true := by
  intro u hu
  obtain ⟨i, _, hi⟩ := List.mem_flatMap.1 hu
  simp only [Itv.cells, List.mem_cons, List.not_mem_nil, or_false] at hi
  rcases hi with rfl | rfl <;> rfl
theorem rdItv_at {w : World} {a : Option Addr} {n : Nat} {xs : List Itv} (h : RdL EItv 2 w a n xs) {k : Nat} (hk : k < n) : ∃ b off lo hi, a = some ⟨b, off, none⟩ ∧ xs[k]? = some ⟨lo, hi⟩ ∧
    w.cell? ⟨b, off + k * 2, none⟩ = some (.int .i64 lo) ∧ w.cell? ⟨b, off + k * 2 + 1, none⟩ = some (.int .i64 hi) ∧ b < w.heap.size := by
  obtain ⟨b, off, ⟨lo, hi⟩, cs, rfl, hx, _, hc, rfl⟩ := h.at_ hk
  exact ⟨b, off, lo, hi, rfl, hx, hc 0 _ rfl, hc 1 _ rfl, h.lt (by omega) rfl⟩
theorem itvInfo : (Try.prog.info? 42).map (fun i => (i.zero, i.size, i.bytes)) = some (some (.agg #[.int .i64 0, .int .i64 0]), 2, 16) := by kernel_rfl
theorem itvEl : El Try.prog 41 42 (.agg #[.int .i64 0, .int .i64 0]) 2 16 := El.mk' itvInfo Try.underlying41 rfl (by omega)
theorem rdItv_of_own {w : World} {B n cap : Nat} {a : Option Addr} {xs : List Itv} (hn : xs.length = n) (h : w.ownsRow B 42 2 (.slice a n cap) n (xs.flatMap Itv.cells)) : RdL EItv 2 w a n xs :=
  rdl_of_rd Itv.cells (by omega) itv_len hn (owns_rd h) (fun x _ => rfl)

def Sum.cells (x : Sum) : List Value := [.bool x.on, .int .i64 x.lo, .int .i64 x.hi]
def ESum : World → List Value → Sum → Prop := fun _ cs x => cs = x.cells
theorem staysSum : Stays ESum := fun _ _ _ _ _ h => h
theorem sum_len (x : Sum) : x.cells.length = 3 := rfl
theorem sum_one (xs : List Sum) : ∀ u ∈ xs.flatMap Sum.cells, u.oneCell' = true := by
  intro u hu
  obtain ⟨i, _, hi⟩ := List.mem_flatMap.1 hu
  simp only [Sum.cells, List.mem_cons, List.not_mem_nil, or_false] at hi
  rcases hi with rfl | rfl | rfl <;> rfl
theorem rdSum_at {w : World} {a : Option Addr} {n : Nat} {xs : List Sum} (h : RdL ESum 3 w a n xs) {k : Nat} (hk : k < n) : ∃ b off on lo hi, a = some ⟨b, off, none⟩ ∧ xs[k]? = some ⟨on, lo, hi⟩ ∧
    w.cell? ⟨b, off + k * 3, none⟩ = some (.bool on) ∧ w.cell? ⟨b, off + k * 3 + 1, none⟩ = some (.int .i64 lo) ∧ w.cell? ⟨b, off + k * 3 + 2, none⟩ = some (.int .i64 hi) ∧ b < w.heap.size := by
  obtain ⟨b, off, ⟨on, lo, hi⟩, cs, rfl, hx, _, hc, rfl⟩ := h.at_ hk
  exact ⟨b, off, on, lo, hi, rfl, hx, hc 0 _ rfl, hc 1 _ rfl, hc 2 _ rfl, h.lt (by omega) rfl⟩

theorem toItvItv (x : Itv) (w : World) : Calls Try.prog 23 #[x.v] w fun e w' => e = .returned x.v ∧ Grew w w' := by
  obtain ⟨lo, hi⟩ := x
  go_enter Try.func23, Try.ntmps23
  go_wp2
  go_returns
  refine ⟨rfl, ?_⟩
  repeat (first | with_reducible exact Below.refl _ _ | with_reducible assumption | with_reducible apply grew_ext | with_reducible apply grew_al | with_reducible apply grew_dn | with_reducible apply grew_d | (with_reducible refine grew_set ?_ (by first | omega | (repeat (first | with_reducible exact Nat.le_refl _ | with_reducible apply le_pl | with_reducible apply le_ext | with_reducible apply le_al))) _))
def itvEqB (x y : Itv) : Bool := decide (x = y)
def sumEqB (x y : Sum) : Bool := decide (x = y)
theorem eqItvItv (x y : Itv) (w : World) : Calls Try.prog 30 #[x.v, y.v] w fun e w' => e = .returned (.bool (itvEqB x y)) ∧ Grew w w' := by
  obtain ⟨lo, hi⟩ := x
  obtain ⟨lo', hi'⟩ := y
  go_enter Try.func30, Try.ntmps30
  go_wp2
  all_goals
    go_ret
    refine ⟨by go_light; simp_all [itvEqB], ?_⟩
    repeat (first | with_reducible exact Below.refl _ _ | with_reducible assumption | with_reducible apply grew_ext | with_reducible apply grew_al | with_reducible apply grew_dn | with_reducible apply grew_d | (with_reducible refine grew_set ?_ (by first | omega | (repeat (first | with_reducible exact Nat.le_refl _ | with_reducible apply le_pl | with_reducible apply le_ext | with_reducible apply le_al))) _))
set_option maxHeartbeats 1000000 in
theorem eqItvItvS (a a' : Option Addr) (n n' cap cap' : Nat) (xs ys : List Itv) (w : World) (hr : RdL EItv 2 w a n xs) (hr' : RdL EItv 2 w a' n' ys) (hn : n ≤ 9223372036854775807) (hn' : n' ≤ 9223372036854775807) :
    Calls Try.prog 29 #[.slice a n cap, .slice a' n' cap'] w fun e w' => e = .returned (.bool (decide (xs = ys))) ∧ Grew w w' := by
  have HL := Lib.hid hr.len
  have HL' := Lib.hid hr'.len
  have HR := Lib.hid hr; clear hr
  have HR' := Lib.hid hr'; clear hr'
  by_cases hnn : n = n'
  · subst hnn
    go_enter Try.func29, Try.ntmps29
    go_wp2
    go_loopw [5] (fun i wr => ∃ k : Nat, k ≤ n ∧ i = .int .i64 k ∧ Grew w wr ∧ xs.take k = ys.take k) (fun i _ => n - (intOf i).toNat)
    case atStart => exact ⟨0, Nat.zero_le _, rfl, Below.refl _ _, by simp⟩
    case round =>
      obtain ⟨k, hk, rfl, hg, he⟩ := hrel
      have HE := Lib.hid he; clear he
      by_cases hlt : k < n
      · obtain ⟨b, off, lo, hi, rfl, hx, c0, c1, hb⟩ := rdItv_at (HR.out.grew staysItv hg) hlt
        obtain ⟨b', off', lo', hi', rfl, hx', c0', c1', hb'⟩ := rdItv_at (HR'.out.grew staysItv hg) hlt
        have HX := Lib.hid hx; clear hx
        have HX' := Lib.hid hx'; clear hx'
        have HG := Lib.hid hg; clear hg
        have C := fun w => eqItvItv ⟨lo, hi⟩ ⟨lo', hi'⟩ w
        cases hq : itvEqB ⟨lo, hi⟩ ⟨lo', hi'⟩
        · have hfin : decide (xs = ys) = false := decide_eq_false (fun e => by
            have h1 := HX.out
            rw [e, HX'.out] at h1
            have := Option.some.inj h1
            rw [this] at hq
            simp [itvEqB] at hq)
          have HF := Lib.hid hfin; clear hfin
          rw [hq] at C
          have HC := Lib.hid C; clear C hq
          go_wp2_with fail
          first | refine wp_region_ext2 (by kernel_rfl) (by kernel_rfl) ?_ | refine wp_region_ext (by kernel_rfl) (by kernel_rfl) ?_
          repeat (go_big_quiet_step ((first | (with_reducible exact ext_grow (HC.out _)))))
          refine wpQuiet_nil ?_
          intro _ hw'
          obtain ⟨x, hw''⟩ := hw'
          subst hw''
          go_wp2
          go_ret
          exact ⟨by rw [HF.out]; rfl, grew_ext HG.out x⟩
        · have HQ := Lib.hid (of_decide_eq_true hq)
          rw [hq] at C
          have HC := Lib.hid C; clear C hq
          go_wp2_with fail
          first | refine wp_region_ext2 (by kernel_rfl) (by kernel_rfl) ?_ | refine wp_region_ext (by kernel_rfl) (by kernel_rfl) ?_
          repeat (go_big_quiet_step ((first | (with_reducible exact ext_grow (HC.out _)))))
          refine wpQuiet_nil ?_
          intro _ hw'
          obtain ⟨x, hw''⟩ := hw'
          subst hw''
          go_wp2
          go_roundw
          case rel => exact ⟨k + 1, by omega, by go_num, grew_ext HG.out x, by rw [take_get HX.out, take_get HX'.out, HE.out, HQ.out]⟩
          case measure => simp [intOf]; omega
      · have HG := Lib.hid hg; clear hg
        have : xs = ys := by
          have h := HE.out
          rwa [List.take_of_length_le (by have := HL.out; omega), List.take_of_length_le (by have := HL'.out; omega)] at h
        have HF := Lib.hid (decide_eq_true this); clear this
        go_wp2
        go_ret
        exact ⟨by rw [HF.out]; rfl, HG.out⟩
  · have hfin : decide (xs = ys) = false := decide_eq_false (fun e => by
      have h1 := HL.out
      rw [e, HL'.out] at h1
      exact hnn h1.symm)
    have hb : ((n : Int) != (n' : Int)) = true := by simp; omega
    have HF := Lib.hid hfin; clear hfin hnn
    go_enter Try.func29, Try.ntmps29
    go_wp2
    go_ret
    exact ⟨by rw [HF.out]; rfl, Below.refl _ _⟩

end Go.Proofs.Ytpmfpgbpndobpaa