/- Lemmas and walks of this proof, some texts one behind the other. No condition. -/
import Derived.Test.YtpmfpgbpndobpaaGreatSums
import Derived.Test.YtpmfpgbpndobpaaGreatDrSr
import Derived.Test.YtpmfpgbpndobpaaGreatDrG
import Derived.Test.YtpmfpgbpndobpaaGreatDrR
import Derived.Test.YtpmfpgbpndobpaaGreatPrgOkI
import Derived.Test.YtpmfpgbpndobpaaGreatCode
import Derived.Test.YtpmfpgbpndobpaaGreatInsOk
import Derived.Deep.Light
set_option linter.unusedSimpArgs false
set_option linter.unusedVariables false
/- Bounds searched for one that is not ok, as readState does. No condition. -/
namespace Go.Proofs.YtpmfpgbpndobpaaGreat
open Go.RowKit
set_option linter.unusedVariables false
attribute [local go_sem] ext_cell ext_frozen ext_lt ext_le ext_le1 lt_s2 lt_s3 lt_s4 lt_s5 lt_s6 ext_lt1 ext_lt2 ext_lt3

def itvB (x : Itv) : Bool := itvOkB x.lo x.hi
theorem itvF1 (x : Itv) (w : World) : Calls Tryz.prog 91 #[x.v] w fun e w' => e = .returned (.bool (!itvB x)) ∧ Grew w w' := by
  obtain ⟨lo, hi⟩ := x
  have C := fun w => itvOk lo hi w
  show Calls _ _ _ _ fun e w' => e = .returned (.bool (!itvOkB lo hi)) ∧ Grew w w'
  generalize itvOkB lo hi = B at *
  have HC := Lib.hid C; clear C
  go_enter Tryz.func91, Tryz.ntmps91
  go_wp2_with ((with_reducible refine (HC.out _).mono ?_); rintro e w' ⟨rfl, g'⟩; (first | obtain ⟨y, rfl⟩ := ext_cold g' | obtain ⟨y, rfl⟩ := ext_col g' | obtain ⟨y, rfl⟩ := ext_of g'); clear g')
  go_ret
  refine ⟨rfl, ?_⟩
  exact gr

set_option maxHeartbeats 1000000 in
theorem indexFuncItv (a : Option Addr) (n cap : Nat) (xs : List Itv) (w : World) (hr : RdL EItv 2 w a n xs) (hn : n ≤ 9223372036854775807) :
    Calls Tryz.prog 126 #[.slice a n cap, .func (.func 91) #[] #[]] w (RetIdx (fun x => !itvB x) xs w) := by
  have HL := Lib.hid hr.len
  have HR := Lib.hid hr; clear hr
  go_enter Tryz.func126, Tryz.ntmps126
  go_wp2
  go_loopw [8] (fun i wr => ∃ k : Nat, k ≤ n ∧ i = .int .i64 k ∧ (∃ x, wr = ext w x) ∧ ∀ x, x ∈ xs.take k → itvB x = true) (fun i _ => n - (intOf i).toNat)
  case atStart => exact ⟨0, Nat.zero_le _, rfl, ext_of (Below.refl _ _), by simp⟩
  case round =>
    obtain ⟨k, hk, rfl, ⟨x, rfl⟩, hall⟩ := hrel
    have HA := Lib.hid hall; clear hall
    by_cases hlt : k < n
    · obtain ⟨b, off, lo, hi, rfl, hx, c0, c1, hb⟩ := rdItv_at (HR.out.grew staysItv (ext_grew w x)) hlt
      have HX := Lib.hid hx; clear hx
      have C := fun w => itvF1 ⟨lo, hi⟩ w
      cases hq : itvB ⟨lo, hi⟩
      · rw [hq] at C
        have HC := Lib.hid C; clear C
        have HQ := Lib.hid hq; clear hq
        go_wp2_with ((with_reducible refine (HC.out _).mono ?_); rintro e w' ⟨rfl, g'⟩; (first | obtain ⟨y, rfl⟩ := ext_cold g' | obtain ⟨y, rfl⟩ := ext_col g' | obtain ⟨y, rfl⟩ := ext_of g'); clear g')
        go_ret
        refine ⟨k, rfl, ?_, gr⟩
        rw [decide_eq_true (by omega), eq_comm, List.any_eq_true]
        exact ⟨_, List.mem_of_getElem? HX.out, by simp [HQ.out]⟩
      · rw [hq] at C
        have HC := Lib.hid C; clear C
        have HQ := Lib.hid hq; clear hq
        go_wp2_with ((with_reducible refine (HC.out _).mono ?_); rintro e w' ⟨rfl, g'⟩; (first | obtain ⟨y, rfl⟩ := ext_cold g' | obtain ⟨y, rfl⟩ := ext_col g' | obtain ⟨y, rfl⟩ := ext_of g'); clear g')
        go_roundw
        case rel =>
          refine ⟨k + 1, by omega, by go_num, ext_of (gr), fun z hz => ?_⟩
          rw [take_get HX.out] at hz
          rcases List.mem_append.1 hz with hz | hz
          · exact HA.out z hz
          · obtain rfl := List.mem_singleton.1 hz
            exact HQ.out
        case measure => simp [intOf]; omega
    · go_wp2
      go_ret
      refine ⟨-1, rfl, ?_, gr⟩
      rw [eq_comm]
      show xs.any _ = false
      rw [List.any_eq_false]
      intro z hz
      have := HA.out z (by rw [List.take_of_length_le (by have := HL.out; omega)]; exact hz)
      simp [this]
theorem containsFuncItv (a : Option Addr) (n cap : Nat) (xs : List Itv) (w : World) (hr : RdL EItv 2 w a n xs) (hn : n ≤ 9223372036854775807) :
    Calls Tryz.prog 90 #[.slice a n cap, .func (.func 91) #[] #[]] w fun e w' => e = .returned (.bool (!xs.all itvB)) ∧ Grew w w' := by
  have C := Lib.hid (indexFuncItv a n cap xs w hr hn)
  clear hr
  go_enter Tryz.func90, Tryz.ntmps90
  go_wp2_with fail
  refine C.out.mono ?_
  rintro e w1 ⟨z, rfl, hz, g1⟩
  rw [any_not] at hz
  have HZ := Lib.hid hz; clear hz
  have HG := Lib.hid g1; clear g1
  go_wp2
  go_ret
  exact ⟨by rw [← HZ.out]; rfl, HG.out⟩
end Go.Proofs.YtpmfpgbpndobpaaGreat

/- The laws' own comparison of states: two that are the same. No condition. -/
namespace Go.Proofs.YtpmfpgbpndobpaaGreat
open Go.RowKit
set_option linter.unusedVariables false
attribute [local go_sem] ext_cell ext_frozen ext_lt ext_le ext_le1 lt_s2 lt_s3 lt_s4 lt_s5 lt_s6 ext_lt1 ext_lt2 ext_lt3

theorem itvNeqS (lo hi : Int) (w : World) : (binOp .neq 31 (.agg #[.int .i64 lo, .int .i64 hi]) (.agg #[.int .i64 lo, .int .i64 hi])).run Tryz.prog w = .ok (.bool false) w := by simp [go_sem]
section
attribute [local go_sem ↓] itvNeqS
end
end Go.Proofs.YtpmfpgbpndobpaaGreat

/- readState of a state that is on and ok. No condition. -/
namespace Go.Proofs.YtpmfpgbpndobpaaGreat
open Go.RowKit
set_option linter.unusedVariables false
attribute [local go_sem] ext_cell ext_frozen ext_lt ext_le ext_le1 lt_s2 lt_s3 lt_s4 lt_s5 lt_s6 ext_lt1 ext_lt2 ext_lt3

set_option maxHeartbeats 2000000 in
theorem readState4 (a : Option Addr) (c : Nat) (x0 x1 x2 x3 : Itv) (lo hi : Int) (w : World) (hr : RdL EItv 2 w a 4 [x0, x1, x2, x3]) (hok : itvOkB lo hi = true) (hall : [x0, x1, x2, x3].all itvB = true) (hc : 4 ≤ c) :
    Calls Tryz.prog 50 #[.agg #[.bool true, .slice a 4 c, .int .i64 lo, .int .i64 hi]] w fun e w' => ∃ b, e = .returned (.tuple #[.pointer (some ⟨b, 0, none⟩), .bool true]) ∧ w.heap.size ≤ b ∧ Grew w w' ∧
      Blk w' b 110 #[.int .i64 x0.lo, .int .i64 x0.hi, .int .i64 x1.lo, .int .i64 x1.hi, .int .i64 x2.lo, .int .i64 x2.hi, .int .i64 x3.lo, .int .i64 x3.hi, .int .i64 lo, .int .i64 hi] := by
  obtain ⟨b, off, y0l, y0h, rfl, e0, c0, c1, hb⟩ := rdItv_at hr (k := 0) (by omega)
  obtain ⟨b1, off1, y1l, y1h, hb1, e1, c2, c3, -⟩ := rdItv_at hr (k := 1) (by omega)
  obtain ⟨b2, off2, y2l, y2h, hb2, e2, c4, c5, -⟩ := rdItv_at hr (k := 2) (by omega)
  obtain ⟨b3, off3, y3l, y3h, hb3, e3, c6, c7, -⟩ := rdItv_at hr (k := 3) (by omega)
  simp only [Option.some.injEq, Addr.mk.injEq, and_true] at hb1 hb2 hb3
  obtain ⟨rfl, rfl⟩ := hb1
  obtain ⟨rfl, rfl⟩ := hb2
  obtain ⟨rfl, rfl⟩ := hb3
  simp only [List.getElem?_cons_zero, List.getElem?_cons_succ, Option.some.injEq] at e0 e1 e2 e3
  subst e0 e1 e2 e3
  obtain ⟨q0, q1, q2⟩ := lt3 hb
  have C := fun w => itvOk lo hi w
  rw [hok] at C
  have D := fun W (h : Grew w W) => containsFuncItv (some ⟨b, off, none⟩) 4 c _ W (hr.grew staysItv h) (by omega)
  rw [hall] at D
  have HC := Lib.hid C; clear C
  have HD := Lib.hid D; clear D hr hall hok
  simp only [Nat.zero_mul, Nat.add_zero, Nat.one_mul, Nat.reduceMul, Nat.add_assoc, Nat.reduceAdd] at c0 c1 c2 c3 c4 c5 c6 c7
  go_enter Tryz.func50, Tryz.ntmps50
  go_wp2_with (first | ((with_reducible refine (HC.out _).mono ?_); rintro e w' ⟨rfl, g'⟩; (first | obtain ⟨y, rfl⟩ := ext_cold g' | obtain ⟨y, rfl⟩ := ext_col g' | obtain ⟨y, rfl⟩ := ext_of g'); clear g') | ((with_reducible refine (HD.out _ (gr)).mono ?_); rintro e w' ⟨rfl, g'⟩; (first | obtain ⟨z, rfl⟩ := ext_cold g' | obtain ⟨z, rfl⟩ := ext_col g' | obtain ⟨z, rfl⟩ := ext_of g'); clear g'))
  have hat : ∀ W : World, (Instr.arrayAt 108 (.slice (some ⟨b, off, none⟩) 4 c)).run Tryz.prog W = .ok (.pointer (some ⟨b, off, none⟩)) W := fun W => by kernel_rfl
  go_region
  all_goals
    go_wp2
    go_ret2
    refine ⟨_, rfl, ?_, ?_, ?_⟩
    · have h1 := ext_size _ z
      simp only [World.size_alloc] at h1
      omega
    · exact gr
    · first | exact Blk.new _ _ _ | exact (Blk.new _ _ _).grew (grew_d (Below.refl _ _))
end Go.Proofs.YtpmfpgbpndobpaaGreat

/- Slices of numbers: copied, compared, measured, marked, sorted, made compact. No condition. -/
namespace Go.Proofs.YtpmfpgbpndobpaaGreat
open Go.RowKit
set_option linter.unusedVariables false
attribute [local go_sem] ext_cell ext_frozen ext_lt ext_le ext_le1 lt_s2 lt_s3 lt_s4 lt_s5 lt_s6 ext_lt1 ext_lt2 ext_lt3

end Go.Proofs.YtpmfpgbpndobpaaGreat
/- Abstract states in general: read by the program, found ok by both sides. No condition. -/
namespace Go.Proofs.YtpmfpgbpndobpaaGreat
open Go.RowKit
set_option linter.unusedVariables false
set_option linter.unusedSimpArgs false
attribute [local go_sem] ext_cell ext_frozen ext_lt ext_le ext_le1 lt_s2 lt_s3 lt_s4 lt_s5 lt_s6 ext_lt1 ext_lt2 ext_lt3

/-- Whether a state is ok. -/
def stOkB (on : Bool) (xs : List Itv) (lo hi : Int) : Bool := if on then decide (xs.length = 4) && itvOkB lo hi && xs.all itvB else decide (xs.length = 0) && decide (lo = 0) && decide (hi = 0)
theorem st_four {xs : List Itv} {lo hi : Int} (h : stOkB true xs lo hi = true) : itvOkB lo hi = true ∧ ∃ x0 x1 x2 x3, xs = [x0, x1, x2, x3] ∧ itvB x0 = true ∧ itvB x1 = true ∧ itvB x2 = true ∧ itvB x3 = true := by
  simp only [stOkB, if_true, Bool.and_eq_true, decide_eq_true_eq] at h
  obtain ⟨⟨h1, h2⟩, h3⟩ := h
  match xs, h1, h3 with
  | [x0, x1, x2, x3], _, h3 =>
    simp only [List.all_cons, List.all_nil, Bool.and_true, Bool.and_eq_true] at h3
    exact ⟨h2, x0, x1, x2, x3, rfl, h3.1, h3.2.1, h3.2.2.1, h3.2.2.2⟩
theorem itvEqZ (lo hi : Int) (w : World) : (binOp .eql 31 (.agg #[.int .i64 lo, .int .i64 hi]) (.agg #[.int .i64 0, .int .i64 0])).run Tryz.prog w = .ok (.bool (decide (lo = 0) && decide (hi = 0))) w := by
  by_cases h1 : lo = 0
  · by_cases h2 : hi = 0 <;> simp [go_sem, *]
  · simp [go_sem, *]
section
attribute [local go_sem ↓] itvEqZ
set_option maxHeartbeats 2000000 in
theorem readState0 (a : Option Addr) (n c : Nat) (xs : List Itv) (lo hi : Int) (w : World) (hr : RdL EItv 2 w a n xs) :
    Calls Tryz.prog 50 #[.agg #[.bool false, .slice a n c, .int .i64 lo, .int .i64 hi]] w fun e w' => e = .returned (.tuple #[.pointer none, .bool (stOkB false xs lo hi)]) ∧ Grew w w' := by
  have hl := hr.len
  by_cases hn : n = 0
  · have HV : Hid (stOkB false xs lo hi = (decide (lo = 0) && decide (hi = 0))) := Lib.hid (by
      have : xs = [] := List.eq_nil_of_length_eq_zero (by omega)
      subst this
      simp [stOkB])
    clear hr hl
    subst hn
    go_enter Tryz.func50, Tryz.ntmps50
    go_wp2
    go_quiet (fail)
    go_wp2
    go_ret2
    rw [HV.out]
    refine ⟨rfl, ?_⟩
    exact gr
  · have HV : Hid (stOkB false xs lo hi = false) := Lib.hid (by
      rw [stOkB, if_neg (by simp), decide_eq_false (show ¬ xs.length = 0 by omega)]
      rfl)
    have hn1 : ((n : Int) == 0) = false := by simp; omega
    have hn2 : (n == 0) = false := by simp; omega
    clear hr hl
    go_enter Tryz.func50, Tryz.ntmps50
    go_wp2
    go_quiet (fail)
    go_wp2
    go_ret2
    rw [HV.out]
    refine ⟨rfl, ?_⟩
    exact gr
end
set_option maxHeartbeats 2000000 in
theorem readStateB (a : Option Addr) (n c : Nat) (xs : List Itv) (lo hi : Int) (w : World) (hr : RdL EItv 2 w a n xs) (hn : n ≤ 9223372036854775807) (hbad : stOkB true xs lo hi = false) :
    Calls Tryz.prog 50 #[.agg #[.bool true, .slice a n c, .int .i64 lo, .int .i64 hi]] w fun e w' => e = .returned (.tuple #[.pointer none, .bool false]) ∧ Grew w w' := by
  have hl := hr.len
  have C := fun w => itvOk lo hi w
  have D := fun W (h : Grew w W) => containsFuncItv a n c xs W (hr.grew staysItv h) hn
  rw [stOkB, if_pos rfl] at hbad
  obtain ⟨B1, hB1⟩ : ∃ B, itvOkB lo hi = B := ⟨_, rfl⟩
  obtain ⟨B2, hB2⟩ : ∃ B, xs.all itvB = B := ⟨_, rfl⟩
  rw [hB1] at C hbad
  rw [hB2] at D hbad
  have HC := Lib.hid C
  have HD := Lib.hid D
  clear C D hr hB1 hB2
  by_cases h4 : n = 4
  · subst h4
    have h5 : decide (xs.length = 4) = true := decide_eq_true hl
    rw [h5, Bool.true_and] at hbad
    clear h5 hl
    cases B1
    · go_enter Tryz.func50, Tryz.ntmps50
      go_wp2_with (first | ((with_reducible refine (HC.out _).mono ?_); rintro e w' ⟨rfl, g'⟩; (first | obtain ⟨y, rfl⟩ := ext_cold g' | obtain ⟨y, rfl⟩ := ext_col g' | obtain ⟨y, rfl⟩ := ext_of g'); clear g') | ((with_reducible refine (HD.out _ (gr)).mono ?_); rintro e w' ⟨rfl, g'⟩; (first | obtain ⟨z, rfl⟩ := ext_cold g' | obtain ⟨z, rfl⟩ := ext_col g' | obtain ⟨z, rfl⟩ := ext_of g'); clear g'))
      go_ret2
      refine ⟨rfl, ?_⟩
      exact gr
    · cases B2
      · go_enter Tryz.func50, Tryz.ntmps50
        go_wp2_with (first | ((with_reducible refine (HC.out _).mono ?_); rintro e w' ⟨rfl, g'⟩; (first | obtain ⟨y, rfl⟩ := ext_cold g' | obtain ⟨y, rfl⟩ := ext_col g' | obtain ⟨y, rfl⟩ := ext_of g'); clear g') | ((with_reducible refine (HD.out _ (gr)).mono ?_); rintro e w' ⟨rfl, g'⟩; (first | obtain ⟨z, rfl⟩ := ext_cold g' | obtain ⟨z, rfl⟩ := ext_col g' | obtain ⟨z, rfl⟩ := ext_of g'); clear g'))
        go_ret2
        refine ⟨rfl, ?_⟩
        exact gr
      · cases hbad
  · have hn1 : ((n : Int) != 4) = true := by simp; omega
    have hn2 : (n != 4) = true := by simp; omega
    clear hbad hl
    go_enter Tryz.func50, Tryz.ntmps50
    go_wp2
    go_ret2
    refine ⟨rfl, ?_⟩
    exact gr
/-- What a state's ten numbers are. -/
def stC (xs : List Itv) (lo hi : Int) : Array Value := (xs.flatMap Itv.cells ++ ([.int .i64 lo, .int .i64 hi] : List Value)).toArray
/-- What readState answers. -/
def RetSt (on : Bool) (xs : List Itv) (lo hi : Int) (w : World) (e : Ending) (w' : World) : Prop :=
  Grew w w' ∧ ((stOkB on xs lo hi && on) = false ∧ e = .returned (.tuple #[.pointer none, .bool (stOkB on xs lo hi)]) ∨
    (stOkB on xs lo hi && on) = true ∧ ∃ b, e = .returned (.tuple #[.pointer (some ⟨b, 0, none⟩), .bool true]) ∧ w.heap.size ≤ b ∧ Blk w' b 110 (stC xs lo hi))
theorem implReadState (on : Bool) (a : Option Addr) (n c : Nat) (xs : List Itv) (lo hi : Int) (w : World) (hr : RdL EItv 2 w a n xs) (hn : n ≤ 9223372036854775807) (hc : n ≤ c) :
    Calls Tryz.prog 50 #[.agg #[.bool on, .slice a n c, .int .i64 lo, .int .i64 hi]] w (RetSt on xs lo hi w) := by
  cases on
  · refine (readState0 a n c xs lo hi w hr).mono ?_
    rintro e w' ⟨rfl, g⟩
    exact ⟨g, .inl ⟨by simp, rfl⟩⟩
  · cases hB : stOkB true xs lo hi
    · refine (readStateB a n c xs lo hi w hr hn hB).mono ?_
      rintro e w' ⟨rfl, g⟩
      exact ⟨g, .inl ⟨by rw [hB]; rfl, by rw [hB]⟩⟩
    · obtain ⟨hi1, x0, x1, x2, x3, rfl, b0, b1, b2, b3⟩ := st_four hB
      obtain rfl : 4 = n := hr.len
      refine (readState4 a c x0 x1 x2 x3 lo hi w hr hi1 (by simp [b0, b1, b2, b3]) hc).mono ?_
      rintro e w' ⟨b, rfl, h1, h2, h3⟩
      exact ⟨h2, .inr ⟨by rw [hB]; rfl, b, rfl, h1, h3⟩⟩
end Go.Proofs.YtpmfpgbpndobpaaGreat

/- Runs as data: calls and their numbers; how arguments are opened to them. No condition. -/
namespace Go.Proofs.YtpmfpgbpndobpaaGreat
open Go.RowKit Go.ChangeShapes Go.WideShapes Go.Deep
set_option linter.unusedVariables false

/-- A call. -/
structure Fr where
  proc : Int
  pc : Int
  vars : List Int
  cells : List Int
  deriving DecidableEq
def EFr : World → List Value → Fr → Prop := fun w cs f =>
  ∃ a c a' c', cs = [.int .i64 f.proc, .int .i64 f.pc, .slice a f.vars.length c, .slice a' f.cells.length c'] ∧ Rd w a f.vars.length 1 (ints .i64 f.vars) ∧ Rd w a' f.cells.length 1 (ints .i64 f.cells) ∧
    f.vars.length ≤ maxLen ∧ f.cells.length ≤ maxLen
theorem stays_fr : Stays EFr := fun w w' cs p hg ⟨a, c, a', c', h1, h2, h3, h4⟩ => ⟨a, c, a', c', h1, h2.grew hg, h3.grew hg, h4⟩
/-- A slice of calls. -/
abbrev RdF (w : World) (a : Option Addr) (n : Nat) (fs : List Fr) : Prop := RdL EFr 4 w a n fs
theorem RdF.grew {w w' : World} {a : Option Addr} {n : Nat} {fs : List Fr} (h : RdF w a n fs) (hg : Grew w w') : RdF w' a n fs := RdL.grew stays_fr h hg

section
variable {H : Type} {enc : TypeId × Value → H} {w : World} {base : Nat} {spare : Nat → Bool} {held : Bool}
end
end Go.Proofs.YtpmfpgbpndobpaaGreat

/- The beginning of a run: the program. No condition. -/
namespace Go.Proofs.YtpmfpgbpndobpaaGreat
open Go.RowKit
set_option linter.unusedVariables false
set_option linter.unusedSimpArgs false
attribute [local go_sem] ext_cell ext_frozen ext_lt ext_le ext_le1 lt_s2 lt_s3 lt_s4 lt_s5 lt_s6 ext_lt1 ext_lt2 ext_lt3

theorem implItvHas (lo hi x : Int) (w : World) (h : itvOkB lo hi = true) :
    Calls Tryz.prog 58 #[.agg #[.int .i64 lo, .int .i64 hi], .int .i64 x] w fun e w' => e = .returned (.bool (decide (lo ≤ x) && decide (x ≤ hi))) ∧ Grew w w' := by
  have C := fun w => itvOk lo hi w
  rw [h] at C
  have HC := Lib.hid C; clear C h
  by_cases h1 : lo ≤ x
  · have h1' : decide (lo ≤ x) = true := decide_eq_true h1
    rw [h1']
    go_enter Tryz.func58, Tryz.ntmps58
    go_wp2_with ((with_reducible refine (HC.out _).mono ?_); rintro e w' ⟨rfl, g'⟩; (first | obtain ⟨y, rfl⟩ := ext_cold g' | obtain ⟨y, rfl⟩ := ext_col g' | obtain ⟨y, rfl⟩ := ext_of g'); clear g')
    go_ret
    refine ⟨by simp, ?_⟩
    exact gr
  · have h1' : decide (lo ≤ x) = false := decide_eq_false h1
    rw [h1']
    go_enter Tryz.func58, Tryz.ntmps58
    go_wp2_with ((with_reducible refine (HC.out _).mono ?_); rintro e w' ⟨rfl, g'⟩; (first | obtain ⟨y, rfl⟩ := ext_cold g' | obtain ⟨y, rfl⟩ := ext_col g' | obtain ⟨y, rfl⟩ := ext_of g'); clear g')
    go_ret
    refine ⟨by simp, ?_⟩
    exact gr

end Go.Proofs.YtpmfpgbpndobpaaGreat

/- AbsHas$1 and its search. No condition. -/
namespace Go.Proofs.YtpmfpgbpndobpaaGreat
open Go.RowKit
set_option linter.unusedVariables false
attribute [local go_sem] ext_cell ext_frozen ext_lt ext_le ext_le1 lt_s2 lt_s3 lt_s4 lt_s5 lt_s6 ext_lt1 ext_lt2 ext_lt3

def inB (lo hi x : Int) : Bool := decide (lo ≤ x) && decide (x ≤ hi)
theorem hasF1 (x lo hi : Int) (p s : Nat) (w : World) (hp : w.cell? ⟨p, 0, none⟩ = some (.pointer (some ⟨s, 0, none⟩))) (h8 : w.cell? ⟨s, 8, none⟩ = some (.int .i64 lo)) (h9 : w.cell? ⟨s, 9, none⟩ = some (.int .i64 hi)) (hok : itvOkB lo hi = true) :
    Calls Tryz.prog 60 #[.int .i64 x, .pointer (some ⟨p, 0, none⟩)] w fun e w' => e = .returned (.bool (!inB lo hi x)) ∧ Grew w w' := by
  have C := fun w => implItvHas lo hi x w hok
  show Calls _ _ _ _ fun e w' => e = .returned (.bool (!(decide (lo ≤ x) && decide (x ≤ hi)))) ∧ Grew w w'
  generalize (decide (lo ≤ x) && decide (x ≤ hi)) = B at *
  have HC := Lib.hid C; clear C hok
  go_enter Tryz.func60, Tryz.ntmps60
  go_wp2_with ((with_reducible refine (HC.out _).mono ?_); rintro e w' ⟨rfl, g'⟩; (first | obtain ⟨y, rfl⟩ := ext_cold g' | obtain ⟨y, rfl⟩ := ext_col g' | obtain ⟨y, rfl⟩ := ext_of g'); clear g')
  go_ret
  refine ⟨rfl, ?_⟩
  exact gr

set_option maxHeartbeats 1000000 in
theorem indexFuncHas (a : Option Addr) (n cap : Nat) (zs : List Int) (lo hi : Int) (p s : Nat) (w : World) (hr : Rd w a n 1 (ints .i64 zs)) (hn : n ≤ 9223372036854775807) (hp : w.cell? ⟨p, 0, none⟩ = some (.pointer (some ⟨s, 0, none⟩))) (h8 : w.cell? ⟨s, 8, none⟩ = some (.int .i64 lo)) (h9 : w.cell? ⟨s, 9, none⟩ = some (.int .i64 hi)) (hok : itvOkB lo hi = true) :
    Calls Tryz.prog 110 #[.slice a n cap, .func (.func 60) #[] #[.pointer (some ⟨p, 0, none⟩)]] w fun e w' => (∃ z : Int, e = .returned (.int .i64 z) ∧ decide (0 ≤ z) = !zs.all (inB lo hi)) ∧ Grew w w' := by
  have HL := Lib.hid hr.len1
  have lp := World.block_lt_of_cell? w _ hp
  have ls := World.block_lt_of_cell? w _ h8
  have HF : Hid (∀ W x, Grew w W → Calls Tryz.prog 60 #[.int .i64 x, .pointer (some ⟨p, 0, none⟩)] W fun e w' => e = .returned (.bool (!inB lo hi x)) ∧ Grew W w') := Lib.hid (fun W x g => hasF1 x lo hi p s W ((g.cell (p := ⟨p, 0, none⟩) lp).trans hp) ((g.cell (p := ⟨s, 8, none⟩) ls).trans h8) ((g.cell (p := ⟨s, 9, none⟩) ls).trans h9) hok)
  have HR := Lib.hid hr; clear hr hp h8 h9 hok lp ls
  go_enter Tryz.func110, Tryz.ntmps110
  go_wp2
  go_loopw [8] (fun i wr => ∃ k : Nat, k ≤ n ∧ i = .int .i64 k ∧ (∃ x, wr = ext w x) ∧ ∀ x, x ∈ zs.take k → inB lo hi x = true) (fun i _ => n - (intOf i).toNat)
  case atStart => exact ⟨0, Nat.zero_le _, rfl, ext_of (Below.refl _ _), by simp⟩
  case round =>
    obtain ⟨k, hk, rfl, ⟨x, rfl⟩, hall⟩ := hrel
    have HA := Lib.hid hall; clear hall
    by_cases hlt : k < n
    · obtain ⟨b, off, z0, rfl, hx, c0⟩ := (HR.out.grew (ext_grew w x)).at1 hlt
      have HX := Lib.hid hx; clear hx
      have C := fun W (h : Grew w W) => HF.out W z0 h
      cases hq : inB lo hi z0
      · rw [hq] at C
        have HC := Lib.hid C; clear C
        have HQ := Lib.hid hq; clear hq
        go_wp2_with ((with_reducible refine (HC.out _ (gr)).mono ?_); rintro e w' ⟨rfl, g'⟩; (first | obtain ⟨y, rfl⟩ := ext_cold g' | obtain ⟨y, rfl⟩ := ext_col g' | obtain ⟨y, rfl⟩ := ext_of g'); clear g')
        go_ret
        refine ⟨⟨k, rfl, ?_⟩, gr⟩
        rw [decide_eq_true (by omega), show zs.all (inB lo hi) = false from ?_]
        · rfl
        rw [List.all_eq_false]
        exact ⟨z0, List.mem_of_getElem? HX.out, by simp [HQ.out]⟩
      · rw [hq] at C
        have HC := Lib.hid C; clear C
        have HQ := Lib.hid hq; clear hq
        go_wp2_with ((with_reducible refine (HC.out _ (gr)).mono ?_); rintro e w' ⟨rfl, g'⟩; (first | obtain ⟨y, rfl⟩ := ext_cold g' | obtain ⟨y, rfl⟩ := ext_col g' | obtain ⟨y, rfl⟩ := ext_of g'); clear g')
        go_roundw
        case rel =>
          refine ⟨k + 1, by omega, by go_num, ext_of (gr), fun z hz => ?_⟩
          rw [take_get HX.out] at hz
          rcases List.mem_append.1 hz with hz | hz
          · exact HA.out z hz
          · obtain rfl := List.mem_singleton.1 hz
            exact HQ.out
        case measure => simp [intOf]; omega
    · go_wp2
      go_ret
      refine ⟨⟨-1, rfl, ?_⟩, gr⟩
      rw [show zs.all (inB lo hi) = true from ?_]
      · rfl
      rw [List.all_eq_true]
      exact fun z hz => HA.out z (by rw [List.take_of_length_le (by have := HL.out; omega)]; exact hz)

theorem containsFuncHas (a : Option Addr) (n cap : Nat) (zs : List Int) (lo hi : Int) (p s : Nat) (w : World) (hr : Rd w a n 1 (ints .i64 zs)) (hn : n ≤ 9223372036854775807) (hp : w.cell? ⟨p, 0, none⟩ = some (.pointer (some ⟨s, 0, none⟩))) (h8 : w.cell? ⟨s, 8, none⟩ = some (.int .i64 lo)) (h9 : w.cell? ⟨s, 9, none⟩ = some (.int .i64 hi)) (hok : itvOkB lo hi = true) :
    Calls Tryz.prog 59 #[.slice a n cap, .func (.func 60) #[] #[.pointer (some ⟨p, 0, none⟩)]] w fun e w' => e = .returned (.bool (!zs.all (inB lo hi))) ∧ Grew w w' := by
  have C := Lib.hid (indexFuncHas a n cap zs lo hi p s w hr hn hp h8 h9 hok)
  clear hr hp h8 h9
  go_enter Tryz.func59, Tryz.ntmps59
  go_wp2_with fail
  refine C.out.mono ?_
  rintro e w1 ⟨⟨z, rfl, hz⟩, g1⟩
  have HZ := Lib.hid hz; clear hz
  have HG := Lib.hid g1; clear g1
  go_wp2
  go_ret
  exact ⟨by rw [← HZ.out]; rfl, HG.out⟩
end Go.Proofs.YtpmfpgbpndobpaaGreat

/- AbsHas of a state that is on and ok. No condition. -/
namespace Go.Proofs.YtpmfpgbpndobpaaGreat
open Go.RowKit
set_option linter.unusedVariables false
attribute [local go_sem] ext_cell ext_frozen ext_lt ext_le ext_le1 lt_s2 lt_s3 lt_s4 lt_s5 lt_s6 ext_lt1 ext_lt2 ext_lt3

set_option maxHeartbeats 4000000 in
theorem implAbsHas4B (B0 B1 B2 B3 Bz : Bool) (a : Option Addr) (c : Nat) (x0 x1 x2 x3 : Itv) (lo hi : Int) (va : Option Addr) (vc : Nat) (v0 v1 v2 v3 : Int) (ca : Option Addr) (cc : Nat) (zs : List Int) (w : World) (hr : RdL EItv 2 w a 4 [x0, x1, x2, x3]) (hok : itvOkB lo hi = true) (hall : [x0, x1, x2, x3].all itvB = true) (hc : 4 ≤ c)
    (hv : Rd w va 4 1 (ints .i64 [v0, v1, v2, v3])) (hz : Rd w ca 4 1 (ints .i64 zs)) (hB0 : inB x0.lo x0.hi v0 = B0) (hB1 : inB x1.lo x1.hi v1 = B1) (hB2 : inB x2.lo x2.hi v2 = B2) (hB3 : inB x3.lo x3.hi v3 = B3) (hBz : zs.all (inB lo hi) = Bz) :
    Calls Tryz.prog 16 #[.agg #[.bool true, .slice a 4 c, .int .i64 lo, .int .i64 hi], .slice va 4 vc, .slice ca 4 cc] w fun e w' => e = .returned (.bool (B0 && B1 && B2 && B3 && Bz)) ∧ Grew w w' := by
  have C0 := fun W => implItvHas x0.lo x0.hi v0 W (by simp only [List.all_cons, List.all_nil, Bool.and_eq_true, itvB] at hall; exact hall.1)
  have C1 := fun W => implItvHas x1.lo x1.hi v1 W (by simp only [List.all_cons, List.all_nil, Bool.and_eq_true, itvB] at hall; exact hall.2.1)
  have C2 := fun W => implItvHas x2.lo x2.hi v2 W (by simp only [List.all_cons, List.all_nil, Bool.and_eq_true, itvB] at hall; exact hall.2.2.1)
  have C3 := fun W => implItvHas x3.lo x3.hi v3 W (by simp only [List.all_cons, List.all_nil, Bool.and_eq_true, itvB] at hall; exact hall.2.2.2.1)
  have R := readState4 a c x0 x1 x2 x3 lo hi
  obtain ⟨x0l, x0h⟩ := x0
  obtain ⟨x1l, x1h⟩ := x1
  obtain ⟨x2l, x2h⟩ := x2
  obtain ⟨x3l, x3h⟩ := x3
  dsimp only at C0 C1 C2 C3 R hB0 hB1 hB2 hB3 ⊢
  have HC0 : Hid (∀ W, Calls Tryz.prog 58 #[.agg #[.int .i64 x0l, .int .i64 x0h], .int .i64 v0] W fun e w' => e = .returned (.bool B0) ∧ Grew W w') := Lib.hid (by rw [← hB0]; exact C0); clear C0 hB0
  have HC1 : Hid (∀ W, Calls Tryz.prog 58 #[.agg #[.int .i64 x1l, .int .i64 x1h], .int .i64 v1] W fun e w' => e = .returned (.bool B1) ∧ Grew W w') := Lib.hid (by rw [← hB1]; exact C1); clear C1 hB1
  have HC2 : Hid (∀ W, Calls Tryz.prog 58 #[.agg #[.int .i64 x2l, .int .i64 x2h], .int .i64 v2] W fun e w' => e = .returned (.bool B2) ∧ Grew W w') := Lib.hid (by rw [← hB2]; exact C2); clear C2 hB2
  have HC3 : Hid (∀ W, Calls Tryz.prog 58 #[.agg #[.int .i64 x3l, .int .i64 x3h], .int .i64 v3] W fun e w' => e = .returned (.bool B3) ∧ Grew W w') := Lib.hid (by rw [← hB3]; exact C3); clear C3 hB3
  have HRS := Lib.hid (fun W (g : Grew w W) => R W (hr.grew staysItv g) hok hall hc); clear R hr hall
  have HV := Lib.hid hv; clear hv
  have HZ := Lib.hid hz; clear hz
  go_enter Tryz.func16, Tryz.ntmps16
  go_wp2_with fail
  refine (HRS.out _ (gr)).mono ?_
  rintro e w1 ⟨b, rfl, lb, g1, hb⟩
  have G1 : Grew w w1 := grew_tr (gr) g1
  obtain ⟨bv, ov, y0, rfl, hy0, e0⟩ := (HV.out.grew G1).at1 (show 0 < 4 by omega)
  obtain ⟨bv1, ov1, y1, hv1, hy1, e1⟩ := (HV.out.grew G1).at1 (show 1 < 4 by omega)
  simp only [Option.some.injEq, Addr.mk.injEq, and_true] at hv1
  obtain ⟨rfl, rfl⟩ := hv1
  obtain ⟨bv2, ov2, y2, hv2, hy2, e2⟩ := (HV.out.grew G1).at1 (show 2 < 4 by omega)
  simp only [Option.some.injEq, Addr.mk.injEq, and_true] at hv2
  obtain ⟨rfl, rfl⟩ := hv2
  obtain ⟨bv3, ov3, y3, hv3, hy3, e3⟩ := (HV.out.grew G1).at1 (show 3 < 4 by omega)
  simp only [Option.some.injEq, Addr.mk.injEq, and_true] at hv3
  obtain ⟨rfl, rfl⟩ := hv3
  simp only [List.getElem?_cons_zero, List.getElem?_cons_succ, Option.some.injEq] at hy0 hy1 hy2 hy3
  subst hy0 hy1 hy2 hy3
  simp only [Nat.add_zero] at e0
  have s0 : w1.cell? ⟨b, 0, none⟩ = some (.int .i64 x0l) := hb.cell 0
  have s1 : w1.cell? ⟨b, 1, none⟩ = some (.int .i64 x0h) := hb.cell 1
  have s2 : w1.cell? ⟨b, 2, none⟩ = some (.int .i64 x1l) := hb.cell 2
  have s3 : w1.cell? ⟨b, 3, none⟩ = some (.int .i64 x1h) := hb.cell 3
  have s4 : w1.cell? ⟨b, 4, none⟩ = some (.int .i64 x2l) := hb.cell 4
  have s5 : w1.cell? ⟨b, 5, none⟩ = some (.int .i64 x2h) := hb.cell 5
  have s6 : w1.cell? ⟨b, 6, none⟩ = some (.int .i64 x3l) := hb.cell 6
  have s7 : w1.cell? ⟨b, 7, none⟩ = some (.int .i64 x3h) := hb.cell 7
  have s8 : w1.cell? ⟨b, 8, none⟩ = some (.int .i64 lo) := hb.cell 8
  have s9 : w1.cell? ⟨b, 9, none⟩ = some (.int .i64 hi) := hb.cell 9
  have sl := hb.lt
  have el := World.block_lt_of_cell? w1 _ e0
  have HG := Lib.hid G1
  obtain ⟨q0, q1, q2⟩ := lt3 sl
  obtain ⟨r0, r1, r2⟩ := lt3 el
  clear hb g1 G1 HRS
  have HD : Hid (∀ W, Grew (w1.alloc (.cells #[.pointer (some ⟨b, 0, none⟩)] 97)) W → Calls Tryz.prog 59 #[.slice ca 4 cc, .func (.func 60) #[] #[.pointer (some ⟨w1.heap.size, 0, none⟩)]] W fun e w' => e = .returned (.bool (!Bz)) ∧ Grew W w') := Lib.hid (fun W g => by rw [← hBz]; exact containsFuncHas ca 4 cc zs lo hi w1.heap.size b W (HZ.out.grew (grew_tr (grew_al HG.out _) g)) (by omega) ((g.cell (p := ⟨w1.heap.size, 0, none⟩) (by simp)).trans (by simp [go_sem])) ((g.cell (p := ⟨b, 8, none⟩) (by simp; omega)).trans (by simp [go_sem, s8, sl])) ((g.cell (p := ⟨b, 9, none⟩) (by simp; omega)).trans (by simp [go_sem, s9, sl])) hok)
  clear hBz
  go_wp2
  refine wp_loop_rounds 5 ?_
  rw [rounds_succ]
  go_wp2_with fail
  refine (HC0.out _).mono ?_
  rintro e w2 ⟨rfl, g0⟩
  (first | obtain ⟨z0, rfl⟩ := ext_col g0 | obtain ⟨z0, rfl⟩ := ext_of g0); clear g0
  cases B0
  · go_wp2
    go_ret
    refine ⟨by simp, ?_⟩
    have h := HG.out
    exact gr
  go_wp2
  rw [rounds_succ]
  go_wp2_with fail
  refine (HC1.out _).mono ?_
  rintro e w2 ⟨rfl, g1⟩
  (first | obtain ⟨z1, rfl⟩ := ext_col g1 | obtain ⟨z1, rfl⟩ := ext_of g1); clear g1
  cases B1
  · go_wp2
    go_ret
    refine ⟨by simp, ?_⟩
    have h := HG.out
    exact gr
  go_wp2
  rw [rounds_succ]
  go_wp2_with fail
  refine (HC2.out _).mono ?_
  rintro e w2 ⟨rfl, g2⟩
  (first | obtain ⟨z2, rfl⟩ := ext_col g2 | obtain ⟨z2, rfl⟩ := ext_of g2); clear g2
  cases B2
  · go_wp2
    go_ret
    refine ⟨by simp, ?_⟩
    have h := HG.out
    exact gr
  go_wp2
  rw [rounds_succ]
  go_wp2_with fail
  refine (HC3.out _).mono ?_
  rintro e w2 ⟨rfl, g3⟩
  (first | obtain ⟨z3, rfl⟩ := ext_col g3 | obtain ⟨z3, rfl⟩ := ext_of g3); clear g3
  cases B3
  · go_wp2
    go_ret
    refine ⟨by simp, ?_⟩
    have h := HG.out
    exact gr
  go_wp2
  rw [rounds_succ]
  go_wp2_with fail
  refine (HD.out _ (gr)).mono ?_
  rintro e w2 ⟨rfl, g⟩
  obtain ⟨u, rfl⟩ := ext_col g; clear g
  go_wp2
  go_ret
  refine ⟨by cases Bz <;> rfl, ?_⟩
  have h := HG.out
  exact gr
theorem implAbsHas4 (a : Option Addr) (c : Nat) (x0 x1 x2 x3 : Itv) (lo hi : Int) (va : Option Addr) (vc : Nat) (v0 v1 v2 v3 : Int) (ca : Option Addr) (cc : Nat) (zs : List Int) (w : World) (hr : RdL EItv 2 w a 4 [x0, x1, x2, x3]) (hok : itvOkB lo hi = true) (hall : [x0, x1, x2, x3].all itvB = true) (hc : 4 ≤ c)
    (hv : Rd w va 4 1 (ints .i64 [v0, v1, v2, v3])) (hz : Rd w ca 4 1 (ints .i64 zs)) :
    Calls Tryz.prog 16 #[.agg #[.bool true, .slice a 4 c, .int .i64 lo, .int .i64 hi], .slice va 4 vc, .slice ca 4 cc] w fun e w' => e = .returned (.bool (inB x0.lo x0.hi v0 && inB x1.lo x1.hi v1 && inB x2.lo x2.hi v2 && inB x3.lo x3.hi v3 && zs.all (inB lo hi))) ∧ Grew w w' :=
  implAbsHas4B _ _ _ _ _ a c x0 x1 x2 x3 lo hi va vc v0 v1 v2 v3 ca cc zs w hr hok hall hc hv hz rfl rfl rfl rfl rfl
end Go.Proofs.YtpmfpgbpndobpaaGreat
