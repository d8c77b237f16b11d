/- Lemmas and walks of this proof, some texts one behind the other. No condition. -/
import Derived.Test.YtnjoofpllhbccaaPrgAt
import Derived.Test.YtnjoofpllhbccaaRunEq
set_option linter.unusedSimpArgs false
set_option linter.unusedVariables false
/- Rows of numbers that are in bounds: l5Nums, numbersOk. No condition. -/
namespace Go.Proofs.Ytnjoofpllhbccaa
open Go.RowKit
set_option linter.unusedVariables false
attribute [local go_sem] ext_cell ext_frozen ext_lt ext_le ext_le1 lt_s2 lt_s3 lt_s4 lt_s5 lt_s6 ext_lt1 ext_lt2 ext_lt3

def numB (x : Int) : Bool := decide (-32768 ≤ x) && decide (x ≤ 32767)
def numsB (l : List Int) (m : Int) : Bool := decide ((l.length : Int) = m) && l.all numB

theorem numsF (x : Int) (w : World) :
    Calls Try.prog 163 #[.int .i64 x] w fun e w' => e = .returned (.bool (!numB x)) ∧ w = w' := by
  have C := fun w => implNumOk x w
  have hq0 : (decide (-32768 ≤ x) && decide (x ≤ 32767)) = numB x := rfl
  rw [hq0] at C
  clear hq0
  generalize numB x = B at *
  have HC := Lib.hid C; clear C
  go_enter Try.func163, Try.ntmps163
  go_wp2_with ((with_reducible refine (HC.out _).mono ?_); rintro e w' ⟨rfl, rfl⟩)
  go_ret
  exact ⟨rfl, rfl⟩

set_option maxHeartbeats 1000000 in
theorem indexFuncNum (a : Option Addr) (n cap : Nat) (zs : List Int) (w : World) (hr : Rd w a n 1 (ints .i64 zs)) (hn : n ≤ 9223372036854775807) :
    Calls Try.prog 124 #[.slice a n cap, .func (.func 163) #[] #[]] w fun e w' => (∃ z : Int, e = .returned (.int .i64 z) ∧ decide (0 ≤ z) = !zs.all numB) ∧ w = w' := by
  have HL := Lib.hid hr.len1
  have HR := Lib.hid hr; clear hr
  go_enter Try.func124, Try.ntmps124
  go_wp2
  go_loop [8] (fun i => ∃ k : Nat, k ≤ n ∧ i = .int .i64 k ∧ ∀ x, x ∈ zs.take k → numB x = true) (fun i => n - (intOf i).toNat)
  case atStart => exact ⟨0, Nat.zero_le _, rfl, by simp⟩
  case round =>
    obtain ⟨k, hk, rfl, hall⟩ := hrel
    have HA := Lib.hid hall; clear hall
    by_cases hlt : k < n
    · obtain ⟨b, off, x, rfl, hx, c0⟩ := HR.out.at1 hlt
      have HX := Lib.hid hx; clear hx
      have C := fun w => numsF x w
      cases hq : numB x
      · rw [hq] at C
        have HC := Lib.hid C; clear C
        have HQ := Lib.hid hq; clear hq
        go_wp2_with ((with_reducible refine (HC.out _).mono ?_); rintro e w' ⟨rfl, rfl⟩)
        go_ret
        refine ⟨⟨k, rfl, ?_⟩, rfl⟩
        rw [decide_eq_true (by omega), show zs.all numB = false from ?_]
        · rfl
        rw [List.all_eq_false]
        exact ⟨x, List.mem_of_getElem? HX.out, by simp [HQ.out]⟩
      · rw [hq] at C
        have HC := Lib.hid C; clear C
        have HQ := Lib.hid hq; clear hq
        go_wp2_with ((with_reducible refine (HC.out _).mono ?_); rintro e w' ⟨rfl, rfl⟩)
        go_round
        case rel =>
          refine ⟨k + 1, by omega, by go_num, fun z hz => ?_⟩
          rw [take_get HX.out] at hz
          rcases List.mem_append.1 hz with hz | hz
          · exact HA.out z hz
          · obtain rfl := List.mem_singleton.1 hz
            exact HQ.out
        case measure => simp [intOf]; omega
    · go_wp2
      go_ret
      refine ⟨⟨-1, rfl, ?_⟩, rfl⟩
      rw [show zs.all numB = true from ?_]
      · rfl
      rw [List.all_eq_true]
      exact fun z hz => HA.out z (by rw [List.take_of_length_le (by have := HL.out; omega)]; exact hz)

theorem containsFuncNum (a : Option Addr) (n cap : Nat) (zs : List Int) (w : World) (hr : Rd w a n 1 (ints .i64 zs)) (hn : n ≤ 9223372036854775807) :
    Calls Try.prog 77 #[.slice a n cap, .func (.func 163) #[] #[]] w fun e w' => e = .returned (.bool (!zs.all numB)) ∧ w = w' := by
  have C := Lib.hid (indexFuncNum a n cap zs w hr hn)
  clear hr
  go_enter Try.func77, Try.ntmps77
  go_wp2_with fail
  refine C.out.mono ?_
  rintro e w1 ⟨⟨z, rfl, hz⟩, rfl⟩
  have HZ := Lib.hid hz; clear hz
  go_wp2
  go_ret
  exact ⟨by rw [← HZ.out]; rfl, rfl⟩

theorem implNumbersOk (a : Option Addr) (n cap : Nat) (zs : List Int) (m : Int) (w : World) (hr : Rd w a n 1 (ints .i64 zs)) (hn : n ≤ 9223372036854775807) :
    Calls Try.prog 144 #[.slice a n cap, .int .i64 m] w fun e w' => e = .returned (.bool (numsB zs m)) ∧ w = w' := by
  have C := containsFuncNum a n cap zs w hr hn
  have hl := hr.len1
  have HV : Hid (numsB zs m = (decide ((n : Int) = m) && zs.all numB)) := Lib.hid (by rw [numsB, hl])
  rw [HV.out]
  clear HV hl hr
  generalize zs.all numB = B at *
  have HC := Lib.hid C; clear C
  by_cases h : (n : Int) = m
  · have hb : decide ((n : Int) = m) = true := decide_eq_true h
    have hb2 : ((n : Int) == m) = true := by simp [h]
    rw [hb]
    clear h hb
    go_enter Try.func144, Try.ntmps144
    go_wp2_with ((with_reducible refine (HC.out).mono ?_); rintro e w' ⟨rfl, rfl⟩)
    go_ret
    exact ⟨by cases B <;> rfl, rfl⟩
  · have hb : decide ((n : Int) = m) = false := decide_eq_false h
    have hb2 : ((n : Int) == m) = false := by simp [h]
    rw [hb]
    clear h hb
    go_enter Try.func144, Try.ntmps144
    go_wp2_with ((with_reducible refine (HC.out).mono ?_); rintro e w' ⟨rfl, rfl⟩)
    go_ret
    exact ⟨rfl, rfl⟩
end Go.Proofs.Ytnjoofpllhbccaa

/- Whether a run is ok: the reference. No condition. -/
namespace Go.Proofs.Ytnjoofpllhbccaa
open Go.RowKit
set_option linter.unusedVariables false
attribute [local go_sem] ext_cell ext_frozen ext_lt ext_le ext_le1 lt_s2 lt_s3 lt_s4 lt_s5 lt_s6 ext_lt1 ext_lt2 ext_lt3

def risksB (op : Int) : Bool := decide (op = 4) || decide (op = 6) || decide (op = 7) || decide (op = 10) || decide (op = 11)
def frB (ps : List Prc) (f : Fr) : Bool := (atO ps f.proc f.pc).isSome && numsB f.vars 4 && numsB f.cells 4
def linkB (ps : List Prc) (f : Fr) (g : Option Fr) : Bool := match g with
  | none => true
  | some g => decide ((insOf (atO ps f.proc f.pc)).op = 10) && decide ((insOf (atO ps f.proc f.pc)).to = g.proc)
def okAt (ps : List Prc) (fs : List Fr) (k : Nat) : Bool := match fs[k]? with
  | some f => frB ps f && linkB ps f fs[k + 1]?
  | none => true
def framesB (ps : List Prc) (fs : List Fr) : Bool := (List.range fs.length).all (okAt ps fs)
def runOkB (ps : List Prc) (r : Ru) : Bool :=
  prgOkB ps && (decide (1 ≤ r.state) && decide (r.state ≤ 4)) && numB r.out && decide (r.frames.length ≤ 5) && (decide (r.state = 2) || decide (r.out = 0)) &&
    (if r.state = 1 then framesB ps r.frames && decide (0 < r.frames.length) && decide (r.proc = 0) && decide (r.pc = 0)
     else if r.state = 3 then decide (r.frames.length = 0) && (atO ps r.proc r.pc).isSome && risksB (insOf (atO ps r.proc r.pc)).op
     else decide (r.frames.length = 0) && decide (r.proc = 0) && decide (r.pc = 0))

theorem implRisks (op : Int) (w : World) : Calls Try.prog 108 #[.int .i64 op] w fun e w' => e = .returned (.bool (risksB op)) ∧ w = w' := by
  rcases opCases op with rfl | rfl | rfl | rfl | rfl | rfl | rfl | rfl | rfl | rfl | rfl | rfl | ⟨n1, n2, n3, n4, n5, n6, n7, n8, n9, n10, n11, n12⟩
  all_goals
    go_enter Try.func108, Try.ntmps108
    go_wp2
    go_ret
    exact ⟨by go_light; simp_all [risksB], rfl⟩

end Go.Proofs.Ytnjoofpllhbccaa

/- Whether a run is ok: the reference's walk. No condition. -/
namespace Go.Proofs.Ytnjoofpllhbccaa
open Go.RowKit
set_option linter.unusedVariables false
attribute [local go_sem] ext_cell ext_frozen ext_lt ext_le ext_le1 lt_s2 lt_s3 lt_s4 lt_s5 lt_s6 ext_lt1 ext_lt2 ext_lt3

theorem okAt_of {ps : List Prc} {fs : List Fr} {k : Nat} {f : Fr} (h : fs[k]? = some f) : okAt ps fs k = (frB ps f && linkB ps f fs[k + 1]?) := by rw [okAt, h]
theorem framesB_false {ps : List Prc} {fs : List Fr} {k : Nat} (hk : k < fs.length) (h : okAt ps fs k = false) : framesB ps fs = false := by
  rw [framesB, List.all_eq_false]
  exact ⟨k, List.mem_range.2 hk, by simp [h]⟩
theorem framesB_true {ps : List Prc} {fs : List Fr} (h : ∀ j, j < fs.length → okAt ps fs j = true) : framesB ps fs = true := by
  rw [framesB, List.all_eq_true]
  exact fun k hk => h k (List.mem_range.1 hk)

end Go.Proofs.Ytnjoofpllhbccaa
