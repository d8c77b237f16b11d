/- Rows of numbers that are in bounds: l5Nums, numbersOk. No condition. -/
import Derived.Test.YtnjoofpllhbccaaPrgAt
import Derived.Test.YtnjoofpllhbccaaRunEq
namespace Go.Proofs.Ytnjoofpllhbccaa
open Go.RowKit
set_option linter.unusedVariables false
attribute [local go_sem] ext_cell ext_frozen ext_lt ext_le ext_le1 lt_s2 lt_s3 lt_s4 lt_s5 lt_s6 ext_lt1 ext_lt2 ext_lt3

def numB (x : Int) : Bool := decide (-32768 ≤ x) && decide (x ≤ 32767)
def numsB (l : List Int) (m : Int) : Bool := decide ((l.length : Int) = m) && l.all numB

theorem numsF (x : Int) (w : World) :
    Calls Try.prog 163 #[.int .i64 x] w fun e w' => e = .returned (.bool (!numB x)) ∧ w = w' := by
  have C := fun w => implNumOk x w
  have hq0 : (decide (-32768 ≤ x) && decide (x ≤ 32767)) = numB x := rfl
  rw [hq0] at C
  clear hq0
  generalize numB x = B at *
  have HC := Lib.hid C; clear C
  go_enter Try.func163, Try.ntmps163
  go_wp2_with ((with_reducible refine (HC.out _).mono ?_); rintro e w' ⟨rfl, rfl⟩)
  go_ret
  exact ⟨rfl, rfl⟩

set_option maxHeartbeats 1000000 in
theorem indexFuncNum (a : Option Addr) (n cap : Nat) (zs : List Int) (w : World) (hr : Rd w a n 1 (ints .i64 zs)) (hn : n ≤ 9223372036854775807) :
    Calls Try.prog 124 #[.slice a n cap, .func (.func 163) #[] #[]] w fun e w' => (∃ z : Int, e = .returned (.int .i64 z) ∧ decide (0 ≤ z) = !zs.all numB) ∧ w = w' := by
  have HL := Lib.hid hr.len1
  have HR := Lib.hid hr; clear hr
  go_enter Try.func124, Try.ntmps124
  go_wp2
  go_loop [8] (fun i => ∃ k : Nat, k ≤ n ∧ i = .int .i64 k ∧ ∀ x, x ∈ zs.take k → numB x = true) (fun i => n - (intOf i).toNat)
  case atStart => exact ⟨0, Nat.zero_le _, rfl, by simp⟩
  case round =>
    obtain ⟨k, hk, rfl, hall⟩ := hrel
    have HA := Lib.hid hall; clear hall
    by_cases hlt : k < n
    · obtain ⟨b, off, x, rfl, hx, c0⟩ := HR.out.at1 hlt
      have HX := Lib.hid hx; clear hx
      have C := fun w => numsF x w
      cases hq : numB x
      · rw [hq] at C
        have HC := Lib.hid C; clear C
        have HQ := Lib.hid hq; clear hq
        go_wp2_with ((with_reducible refine (HC.out _).mono ?_); rintro e w' ⟨rfl, rfl⟩)
        go_ret
        refine ⟨⟨k, rfl, ?_⟩, rfl⟩
        rw [decide_eq_true (by omega), show zs.all numB = false from ?_]
        · rfl
        rw [List.all_eq_false]
        exact ⟨x, List.mem_of_getElem? HX.out, by simp [HQ.out]⟩
      · rw [hq] at C
        have HC := Lib.hid C; clear C
        have HQ := Lib.hid hq; clear hq
        go_wp2_with ((with_reducible refine (HC.out _).mono ?_); rintro e w' ⟨rfl, rfl⟩)
        go_round
        case rel =>
          refine ⟨k + 1, by omega, by go_num, fun z hz => ?_⟩
          rw [take_get HX.out] at hz
          rcases List.mem_append.1 hz with hz | hz
          · exact HA.out z hz
          · obtain rfl := List.mem_singleton.1 hz
            exact HQ.out
        case measure => simp [intOf]; omega
    · go_wp2
      go_ret
      refine ⟨⟨-1, rfl, ?_⟩, rfl⟩
      rw [show zs.all numB = true from ?_]
      · rfl
      rw [List.all_eq_true]
      exact fun z hz => HA.out z (by rw [List.take_of_length_le (by have := HL.out; omega)]; exact hz)

theorem containsFuncNum (a : Option Addr) (n cap : Nat) (zs : List Int) (w : World) (hr : Rd w a n 1 (ints .i64 zs)) (hn : n ≤ 9223372036854775807) :
    Calls Try.prog 77 #[.slice a n cap, .func (.func 163) #[] #[]] w fun e w' => e = .returned (.bool (!zs.all numB)) ∧ w = w' := by
  have C := Lib.hid (indexFuncNum a n cap zs w hr hn)
  clear hr
  go_enter Try.func77, Try.ntmps77
  go_wp2_with fail
  refine C.out.mono ?_
  rintro e w1 ⟨⟨z, rfl, hz⟩, rfl⟩
  have HZ := Lib.hid hz; clear hz
  go_wp2
  go_ret
  exact ⟨by rw [← HZ.out]; rfl, rfl⟩

theorem implNumbersOk (a : Option Addr) (n cap : Nat) (zs : List Int) (m : Int) (w : World) (hr : Rd w a n 1 (ints .i64 zs)) (hn : n ≤ 9223372036854775807) :
    Calls Try.prog 144 #[.slice a n cap, .int .i64 m] w fun e w' => e = .returned (.bool (numsB zs m)) ∧ w = w' := by
  have C := containsFuncNum a n cap zs w hr hn
  have hl := hr.len1
  have HV : Hid (numsB zs m = (decide ((n : Int) = m) && zs.all numB)) := Lib.hid (by rw [numsB, hl])
  rw [HV.out]
  clear HV hl hr
  generalize zs.all numB = B at *
  have HC := Lib.hid C; clear C
  by_cases h : (n : Int) = m
  · have hb : decide ((n : Int) = m) = true := decide_eq_true h
    have hb2 : ((n : Int) == m) = true := by simp [h]
    rw [hb]
    clear h hb
    go_enter Try.func144, Try.ntmps144
    go_wp2_with ((with_reducible refine (HC.out).mono ?_); rintro e w' ⟨rfl, rfl⟩)
    go_ret
    exact ⟨by cases B <;> rfl, rfl⟩
  · have hb : decide ((n : Int) = m) = false := decide_eq_false h
    have hb2 : ((n : Int) == m) = false := by simp [h]
    rw [hb]
    clear h hb
    go_enter Try.func144, Try.ntmps144
    go_wp2_with ((with_reducible refine (HC.out).mono ?_); rintro e w' ⟨rfl, rfl⟩)
    go_ret
    exact ⟨rfl, rfl⟩
end Go.Proofs.Ytnjoofpllhbccaa
