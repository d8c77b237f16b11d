/- Bounds searched for one that is not ok, as readState does. No condition. -/
import Derived.Test.YtpmfpgbpndobpaaSums
namespace Go.Proofs.Ytpmfpgbpndobpaa
open Go.RowKit
set_option linter.unusedVariables false
attribute [local go_sem] ext_cell ext_frozen ext_lt ext_le ext_le1 lt_s2 lt_s3 lt_s4 lt_s5 lt_s6 ext_lt1 ext_lt2 ext_lt3

def itvB (x : Itv) : Bool := itvOkB x.lo x.hi
theorem itvF1 (x : Itv) (w : World) : Calls Try.prog 41 #[x.v] w fun e w' => e = .returned (.bool (!itvB x)) ∧ Grew w w' := by
  obtain ⟨lo, hi⟩ := x
  have C := fun w => itvOk lo hi w
  show Calls _ _ _ _ fun e w' => e = .returned (.bool (!itvOkB lo hi)) ∧ Grew w w'
  generalize itvOkB lo hi = B at *
  have HC := Lib.hid C; clear C
  go_enter Try.func41, Try.ntmps41
  go_wp2_with ((with_reducible refine (HC.out _).mono ?_); rintro e w' ⟨rfl, g'⟩; (first | obtain ⟨y, rfl⟩ := ext_cold g' | obtain ⟨y, rfl⟩ := ext_col g' | obtain ⟨y, rfl⟩ := ext_of g'); clear g')
  go_ret
  refine ⟨rfl, ?_⟩
  repeat (first | with_reducible exact Below.refl _ _ | with_reducible assumption | with_reducible apply grew_ext | with_reducible apply grew_al | with_reducible apply grew_dn | with_reducible apply grew_d | (with_reducible refine grew_set ?_ (by first | omega | (repeat (first | with_reducible exact Nat.le_refl _ | with_reducible apply le_pl | with_reducible apply le_ext | with_reducible apply le_al))) _))

set_option maxHeartbeats 1000000 in
theorem indexFuncItv (a : Option Addr) (n cap : Nat) (xs : List Itv) (w : World) (hr : RdL EItv 2 w a n xs) (hn : n ≤ 9223372036854775807) :
    Calls Try.prog 64 #[.slice a n cap, .func (.func 41) #[] #[]] w (RetIdx (fun x => !itvB x) xs w) := by
  have HL := Lib.hid hr.len
  have HR := Lib.hid hr; clear hr
  go_enter Try.func64, Try.ntmps64
  go_wp2
  go_loopw [8] (fun i wr => ∃ k : Nat, k ≤ n ∧ i = .int .i64 k ∧ (∃ x, wr = ext w x) ∧ ∀ x, x ∈ xs.take k → itvB x = true) (fun i _ => n - (intOf i).toNat)
  case atStart => exact ⟨0, Nat.zero_le _, rfl, ext_of (Below.refl _ _), by simp⟩
  case round =>
    obtain ⟨k, hk, rfl, ⟨x, rfl⟩, hall⟩ := hrel
    have HA := Lib.hid hall; clear hall
    by_cases hlt : k < n
    · obtain ⟨b, off, lo, hi, rfl, hx, c0, c1, hb⟩ := rdItv_at (HR.out.grew staysItv (ext_grew w x)) hlt
      have HX := Lib.hid hx; clear hx
      have C := fun w => itvF1 ⟨lo, hi⟩ w
      cases hq : itvB ⟨lo, hi⟩
      · rw [hq] at C
        have HC := Lib.hid C; clear C
        have HQ := Lib.hid hq; clear hq
        go_wp2_with ((with_reducible refine (HC.out _).mono ?_); rintro e w' ⟨rfl, g'⟩; (first | obtain ⟨y, rfl⟩ := ext_cold g' | obtain ⟨y, rfl⟩ := ext_col g' | obtain ⟨y, rfl⟩ := ext_of g'); clear g')
        go_ret
        refine ⟨k, rfl, ?_, by repeat (first | with_reducible exact Below.refl _ _ | with_reducible assumption | with_reducible apply grew_ext | with_reducible apply grew_al | with_reducible apply grew_dn | with_reducible apply grew_d | (with_reducible refine grew_set ?_ (by first | omega | (repeat (first | with_reducible exact Nat.le_refl _ | with_reducible apply le_pl | with_reducible apply le_ext | with_reducible apply le_al))) _))⟩
        rw [decide_eq_true (by omega), eq_comm, List.any_eq_true]
        exact ⟨_, List.mem_of_getElem? HX.out, by simp [HQ.out]⟩
      · rw [hq] at C
        have HC := Lib.hid C; clear C
        have HQ := Lib.hid hq; clear hq
        go_wp2_with ((with_reducible refine (HC.out _).mono ?_); rintro e w' ⟨rfl, g'⟩; (first | obtain ⟨y, rfl⟩ := ext_cold g' | obtain ⟨y, rfl⟩ := ext_col g' | obtain ⟨y, rfl⟩ := ext_of g'); clear g')
        go_roundw
        case rel =>
          refine ⟨k + 1, by omega, by go_num, ext_of (by repeat (first | with_reducible exact Below.refl _ _ | with_reducible assumption | with_reducible apply grew_ext | with_reducible apply grew_al | with_reducible apply grew_dn | with_reducible apply grew_d | (with_reducible refine grew_set ?_ (by first | omega | (repeat (first | with_reducible exact Nat.le_refl _ | with_reducible apply le_pl | with_reducible apply le_ext | with_reducible apply le_al))) _))), fun z hz => ?_⟩
          rw [take_get HX.out] at hz
          rcases List.mem_append.1 hz with hz | hz
          · exact HA.out z hz
          · obtain rfl := List.mem_singleton.1 hz
            exact HQ.out
        case measure => simp [intOf]; omega
    · go_wp2
      go_ret
      refine ⟨-1, rfl, ?_, by repeat (first | with_reducible exact Below.refl _ _ | with_reducible assumption | with_reducible apply grew_ext | with_reducible apply grew_al | with_reducible apply grew_dn | with_reducible apply grew_d | (with_reducible refine grew_set ?_ (by first | omega | (repeat (first | with_reducible exact Nat.le_refl _ | with_reducible apply le_pl | with_reducible apply le_ext | with_reducible apply le_al))) _))⟩
      rw [eq_comm]
      show xs.any _ = false
      rw [List.any_eq_false]
      intro z hz
      have := HA.out z (by rw [List.take_of_length_le (by have := HL.out; omega)]; exact hz)
      simp [this]
theorem containsFuncItv (a : Option Addr) (n cap : Nat) (xs : List Itv) (w : World) (hr : RdL EItv 2 w a n xs) (hn : n ≤ 9223372036854775807) :
    Calls Try.prog 40 #[.slice a n cap, .func (.func 41) #[] #[]] w fun e w' => e = .returned (.bool (!xs.all itvB)) ∧ Grew w w' := by
  have C := Lib.hid (indexFuncItv a n cap xs w hr hn)
  clear hr
  go_enter Try.func40, Try.ntmps40
  go_wp2_with fail
  refine C.out.mono ?_
  rintro e w1 ⟨z, rfl, hz, g1⟩
  rw [any_not] at hz
  have HZ := Lib.hid hz; clear hz
  have HG := Lib.hid g1; clear g1
  go_wp2
  go_ret
  exact ⟨by rw [← HZ.out]; rfl, HG.out⟩
end Go.Proofs.Ytpmfpgbpndobpaa
