/- AbsHas$1 and its search. No condition. -/
import Derived.Test.YtnjoofpllhbccaaReadS
import Derived.Test.YtnjoofpllhbccaaNewI
namespace Go.Proofs.Ytnjoofpllhbccaa
open Go.RowKit
set_option linter.unusedVariables false
attribute [local go_sem] ext_cell ext_frozen ext_lt ext_le ext_le1 lt_s2 lt_s3 lt_s4 lt_s5 lt_s6 ext_lt1 ext_lt2 ext_lt3

def inB (lo hi x : Int) : Bool := decide (lo ≤ x) && decide (x ≤ hi)
theorem hasF1 (x lo hi : Int) (p s : Nat) (w : World) (hp : w.cell? ⟨p, 0, none⟩ = some (.pointer (some ⟨s, 0, none⟩))) (h8 : w.cell? ⟨s, 8, none⟩ = some (.int .i64 lo)) (h9 : w.cell? ⟨s, 9, none⟩ = some (.int .i64 hi)) (hok : itvOkB lo hi = true) :
    Calls Try.prog 78 #[.int .i64 x, .pointer (some ⟨p, 0, none⟩)] w fun e w' => e = .returned (.bool (!inB lo hi x)) ∧ Grew w w' := by
  have C := fun w => implItvHas lo hi x w hok
  show Calls _ _ _ _ fun e w' => e = .returned (.bool (!(decide (lo ≤ x) && decide (x ≤ hi)))) ∧ Grew w w'
  generalize (decide (lo ≤ x) && decide (x ≤ hi)) = B at *
  have HC := Lib.hid C; clear C hok
  go_enter Try.func78, Try.ntmps78
  go_wp2_with ((with_reducible refine (HC.out _).mono ?_); rintro e w' ⟨rfl, g'⟩; (first | obtain ⟨y, rfl⟩ := ext_cold g' | obtain ⟨y, rfl⟩ := ext_col g' | obtain ⟨y, rfl⟩ := ext_of g'); clear g')
  go_ret
  refine ⟨rfl, ?_⟩
  repeat (first | with_reducible exact Below.refl _ _ | with_reducible assumption | with_reducible apply grew_ext | with_reducible apply grew_al | with_reducible apply grew_dn | with_reducible apply grew_d | (with_reducible refine grew_set ?_ (by first | omega | (repeat (first | with_reducible exact Nat.le_refl _ | with_reducible apply le_pl | with_reducible apply le_ext | with_reducible apply le_al))) _))

set_option maxHeartbeats 1000000 in
theorem indexFuncHas (a : Option Addr) (n cap : Nat) (zs : List Int) (lo hi : Int) (p s : Nat) (w : World) (hr : Rd w a n 1 (ints .i64 zs)) (hn : n ≤ 9223372036854775807) (hp : w.cell? ⟨p, 0, none⟩ = some (.pointer (some ⟨s, 0, none⟩))) (h8 : w.cell? ⟨s, 8, none⟩ = some (.int .i64 lo)) (h9 : w.cell? ⟨s, 9, none⟩ = some (.int .i64 hi)) (hok : itvOkB lo hi = true) :
    Calls Try.prog 124 #[.slice a n cap, .func (.func 78) #[] #[.pointer (some ⟨p, 0, none⟩)]] w fun e w' => (∃ z : Int, e = .returned (.int .i64 z) ∧ decide (0 ≤ z) = !zs.all (inB lo hi)) ∧ Grew w w' := by
  have HL := Lib.hid hr.len1
  have lp := World.block_lt_of_cell? w _ hp
  have ls := World.block_lt_of_cell? w _ h8
  have HF : Hid (∀ W x, Grew w W → Calls Try.prog 78 #[.int .i64 x, .pointer (some ⟨p, 0, none⟩)] W fun e w' => e = .returned (.bool (!inB lo hi x)) ∧ Grew W w') := Lib.hid (fun W x g => hasF1 x lo hi p s W ((g.cell (p := ⟨p, 0, none⟩) lp).trans hp) ((g.cell (p := ⟨s, 8, none⟩) ls).trans h8) ((g.cell (p := ⟨s, 9, none⟩) ls).trans h9) hok)
  have HR := Lib.hid hr; clear hr hp h8 h9 hok lp ls
  go_enter Try.func124, Try.ntmps124
  go_wp2
  go_loopw [8] (fun i wr => ∃ k : Nat, k ≤ n ∧ i = .int .i64 k ∧ (∃ x, wr = ext w x) ∧ ∀ x, x ∈ zs.take k → inB lo hi x = true) (fun i _ => n - (intOf i).toNat)
  case atStart => exact ⟨0, Nat.zero_le _, rfl, ext_of (Below.refl _ _), by simp⟩
  case round =>
    obtain ⟨k, hk, rfl, ⟨x, rfl⟩, hall⟩ := hrel
    have HA := Lib.hid hall; clear hall
    by_cases hlt : k < n
    · obtain ⟨b, off, z0, rfl, hx, c0⟩ := (HR.out.grew (ext_grew w x)).at1 hlt
      have HX := Lib.hid hx; clear hx
      have C := fun W (h : Grew w W) => HF.out W z0 h
      cases hq : inB lo hi z0
      · rw [hq] at C
        have HC := Lib.hid C; clear C
        have HQ := Lib.hid hq; clear hq
        go_wp2_with ((with_reducible refine (HC.out _ (by repeat (first | with_reducible exact Below.refl _ _ | with_reducible assumption | with_reducible apply grew_ext | with_reducible apply grew_al | with_reducible apply grew_dn | with_reducible apply grew_d | (with_reducible refine grew_set ?_ (by first | omega | (repeat (first | with_reducible exact Nat.le_refl _ | with_reducible apply le_pl | with_reducible apply le_ext | with_reducible apply le_al))) _)))).mono ?_); rintro e w' ⟨rfl, g'⟩; (first | obtain ⟨y, rfl⟩ := ext_cold g' | obtain ⟨y, rfl⟩ := ext_col g' | obtain ⟨y, rfl⟩ := ext_of g'); clear g')
        go_ret
        refine ⟨⟨k, rfl, ?_⟩, by repeat (first | with_reducible exact Below.refl _ _ | with_reducible assumption | with_reducible apply grew_ext | with_reducible apply grew_al | with_reducible apply grew_dn | with_reducible apply grew_d | (with_reducible refine grew_set ?_ (by first | omega | (repeat (first | with_reducible exact Nat.le_refl _ | with_reducible apply le_pl | with_reducible apply le_ext | with_reducible apply le_al))) _))⟩
        rw [decide_eq_true (by omega), show zs.all (inB lo hi) = false from ?_]
        · rfl
        rw [List.all_eq_false]
        exact ⟨z0, List.mem_of_getElem? HX.out, by simp [HQ.out]⟩
      · rw [hq] at C
        have HC := Lib.hid C; clear C
        have HQ := Lib.hid hq; clear hq
        go_wp2_with ((with_reducible refine (HC.out _ (by repeat (first | with_reducible exact Below.refl _ _ | with_reducible assumption | with_reducible apply grew_ext | with_reducible apply grew_al | with_reducible apply grew_dn | with_reducible apply grew_d | (with_reducible refine grew_set ?_ (by first | omega | (repeat (first | with_reducible exact Nat.le_refl _ | with_reducible apply le_pl | with_reducible apply le_ext | with_reducible apply le_al))) _)))).mono ?_); rintro e w' ⟨rfl, g'⟩; (first | obtain ⟨y, rfl⟩ := ext_cold g' | obtain ⟨y, rfl⟩ := ext_col g' | obtain ⟨y, rfl⟩ := ext_of g'); clear g')
        go_roundw
        case rel =>
          refine ⟨k + 1, by omega, by go_num, ext_of (by repeat (first | with_reducible exact Below.refl _ _ | with_reducible assumption | with_reducible apply grew_ext | with_reducible apply grew_al | with_reducible apply grew_dn | with_reducible apply grew_d | (with_reducible refine grew_set ?_ (by first | omega | (repeat (first | with_reducible exact Nat.le_refl _ | with_reducible apply le_pl | with_reducible apply le_ext | with_reducible apply le_al))) _))), fun z hz => ?_⟩
          rw [take_get HX.out] at hz
          rcases List.mem_append.1 hz with hz | hz
          · exact HA.out z hz
          · obtain rfl := List.mem_singleton.1 hz
            exact HQ.out
        case measure => simp [intOf]; omega
    · go_wp2
      go_ret
      refine ⟨⟨-1, rfl, ?_⟩, by repeat (first | with_reducible exact Below.refl _ _ | with_reducible assumption | with_reducible apply grew_ext | with_reducible apply grew_al | with_reducible apply grew_dn | with_reducible apply grew_d | (with_reducible refine grew_set ?_ (by first | omega | (repeat (first | with_reducible exact Nat.le_refl _ | with_reducible apply le_pl | with_reducible apply le_ext | with_reducible apply le_al))) _))⟩
      rw [show zs.all (inB lo hi) = true from ?_]
      · rfl
      rw [List.all_eq_true]
      exact fun z hz => HA.out z (by rw [List.take_of_length_le (by have := HL.out; omega)]; exact hz)

theorem containsFuncHas (a : Option Addr) (n cap : Nat) (zs : List Int) (lo hi : Int) (p s : Nat) (w : World) (hr : Rd w a n 1 (ints .i64 zs)) (hn : n ≤ 9223372036854775807) (hp : w.cell? ⟨p, 0, none⟩ = some (.pointer (some ⟨s, 0, none⟩))) (h8 : w.cell? ⟨s, 8, none⟩ = some (.int .i64 lo)) (h9 : w.cell? ⟨s, 9, none⟩ = some (.int .i64 hi)) (hok : itvOkB lo hi = true) :
    Calls Try.prog 77 #[.slice a n cap, .func (.func 78) #[] #[.pointer (some ⟨p, 0, none⟩)]] w fun e w' => e = .returned (.bool (!zs.all (inB lo hi))) ∧ Grew w w' := by
  have C := Lib.hid (indexFuncHas a n cap zs lo hi p s w hr hn hp h8 h9 hok)
  clear hr hp h8 h9
  go_enter Try.func77, Try.ntmps77
  go_wp2_with fail
  refine C.out.mono ?_
  rintro e w1 ⟨⟨z, rfl, hz⟩, g1⟩
  have HZ := Lib.hid hz; clear hz
  have HG := Lib.hid g1; clear g1
  go_wp2
  go_ret
  exact ⟨by rw [← HZ.out]; rfl, HG.out⟩
end Go.Proofs.Ytnjoofpllhbccaa
