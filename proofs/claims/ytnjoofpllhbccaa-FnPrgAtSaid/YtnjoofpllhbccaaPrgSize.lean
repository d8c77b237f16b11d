/- How many steps a program has: PrgSize of the program. No condition. -/
import Derived.Test.YtnjoofpllhbccaaPrgOkI
namespace Go.Proofs.Ytnjoofpllhbccaa
open Go.RowKit
set_option linter.unusedVariables false
set_option linter.unusedSimpArgs false
attribute [local go_sem] ext_cell ext_frozen ext_lt ext_le ext_le1 lt_s2 lt_s3 lt_s4 lt_s5 lt_s6 ext_lt1 ext_lt2 ext_lt3

def sizeL (ps : List Prc) : Nat := (ps.map fun p => p.code.length).sum
theorem sizeL_take {ps : List Prc} {k : Nat} {p : Prc} (h : ps[k]? = some p) : sizeL (ps.take (k + 1)) = sizeL (ps.take k) + p.code.length := by
  unfold sizeL
  rw [List.take_add_one, h]
  simp
theorem implPrgSize (a : Option Addr) (n cap : Nat) (ps : List Prc) (w : World) (hr : RdP w a n ps) (hn : n ≤ 5) (hl : ∀ p, p ∈ ps → p.code.length ≤ 12) :
    Calls Try.prog 32 #[.agg #[.slice a n cap]] w fun e w' => e = .returned (.int .i64 (sizeL ps : Nat)) ∧ Grew w w' := by
  have HL := Lib.hid hr.len
  have HR := Lib.hid hr; clear hr
  have HM := Lib.hid hl; clear hl
  have hn63 : n ≤ 9223372036854775807 := by omega
  have HB : Hid (Grew w (w.alloc (.cells #[.slice a n cap] 49))) := Lib.hid (grew_al (Below.refl _ _) _)
  go_enter Try.func32, Try.ntmps32
  go_wp2
  go_loopw [3, 9] (fun m i wr => ∃ k s : Nat, k ≤ n ∧ s ≤ 12 * k ∧ s = sizeL (ps.take k) ∧ i = .int .i64 k ∧ m = .int .i64 s ∧ Grew w wr) (fun _ i _ => n - (intOf i).toNat)
  case atStart => exact ⟨0, 0, Nat.zero_le _, Nat.zero_le _, rfl, rfl, rfl, HB.out⟩
  case round =>
    obtain ⟨k, s, hk, hs, hse, rfl, rfl, hg⟩ := hrel
    by_cases hlt : k < n
    · obtain ⟨b, off, lo, hi, is, ia, ic, rfl, hx, c0, c1, c2, hb, hi1, hi2, hi3⟩ := rdP_at (HR.out.grew hg) hlt
      have HS := Lib.hid (hse ▸ (sizeL_take hx).symm : s + is.length = sizeL (ps.take (k + 1)))
      have hil : is.length ≤ 12 := HM.out _ (List.mem_of_getElem? hx)
      have HG := Lib.hid hg
      obtain ⟨q0, q1, q2⟩ := lt3 hb
      have hw : IntKind.i64.wrap ((s : Int) + (is.length : Int)) = ((s + is.length : Nat) : Int) := by rw [show (s : Int) + (is.length : Int) = ((s + is.length : Nat) : Int) from by omega]; first | exact IntWalk.i64_in (by omega) (by omega) | exact IntWalk.i64_in _ (by omega) (by omega) | go_unwrap
      have hil63 : is.length ≤ 9223372036854775807 := by omega
      clear hx hse hg hi1 hi2 hi3
      go_wp2
      go_roundw
      case rel => exact ⟨k + 1, s + is.length, by omega, by omega, HS.out, by go_num, by first | rfl | (simp only [hw]) | simp, grew_al HG.out _⟩
      case measure => (simp [intOf]; try omega)
    · obtain rfl : k = n := by omega
      have hfin : s = sizeL ps := by rw [hse, List.take_of_length_le (by have := HL.out; omega)]
      have HG := Lib.hid hg
      clear hse hg
      subst hfin
      go_wp2
      go_ret
      exact ⟨rfl, HG.out⟩
end Go.Proofs.Ytnjoofpllhbccaa
