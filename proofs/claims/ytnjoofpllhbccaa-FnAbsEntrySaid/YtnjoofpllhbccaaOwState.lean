/- The laws' own comparison of states: two that are the same. No condition. -/
import Derived.Test.YtnjoofpllhbccaaState
namespace Go.Proofs.Ytnjoofpllhbccaa
open Go.RowKit
set_option linter.unusedVariables false
attribute [local go_sem] ext_cell ext_frozen ext_lt ext_le ext_le1 lt_s2 lt_s3 lt_s4 lt_s5 lt_s6 ext_lt1 ext_lt2 ext_lt3

theorem itvNeqS (lo hi : Int) (w : World) : (binOp .neq 32 (.agg #[.int .i64 lo, .int .i64 hi]) (.agg #[.int .i64 lo, .int .i64 hi])).run Try.prog w = .ok (.bool false) w := by simp [go_sem]
section
attribute [local go_sem ↓] itvNeqS
set_option maxHeartbeats 2000000 in
theorem owStateS (on : Bool) (a a' : Option Addr) (n c c' : Nat) (xs : List Itv) (lo hi : Int) (w : World) (hr : RdL EItv 2 w a n xs) (hr' : RdL EItv 2 w a' n xs) (hn : n ≤ 1000) :
    Calls Try.prog 15 #[.agg #[.bool on, .slice a n c, .int .i64 lo, .int .i64 hi], .agg #[.bool on, .slice a' n c', .int .i64 lo, .int .i64 hi]] w fun e w' => e = .returned (.bool true) ∧ Grew w w' := by
  have HR := Lib.hid hr; clear hr
  have HR' := Lib.hid hr'; clear hr'
  have hb : (on != on) = false := by simp
  go_enter Try.func15, Try.ntmps15
  go_wp2
  go_loopw [5] (fun i wr => ∃ k : Nat, k ≤ n ∧ i = .int .i64 k ∧ (∃ x, wr = ext ((w.alloc (.cells #[.bool on, .slice a n c, .int .i64 lo, .int .i64 hi] 34)).alloc (.cells #[.bool on, .slice a' n c', .int .i64 lo, .int .i64 hi] 34)) x)) (fun i _ => n - (intOf i).toNat)
  case atStart => exact ⟨0, Nat.zero_le _, rfl, ext_of (Below.refl _ _)⟩
  case round =>
    obtain ⟨k, hk, rfl, ⟨x, rfl⟩⟩ := hrel
    by_cases hlt : k < n
    · obtain ⟨b, off, ⟨l1, h1⟩, cs, rfl, hx, hl, hc, he⟩ := HR.out.at_ hlt
      obtain ⟨b', off', ⟨l2, h2⟩, cs', rfl, hx', hl', hc', he'⟩ := HR'.out.at_ hlt
      rw [hx, Option.some.injEq] at hx'
      cases hx'
      obtain rfl := he
      obtain rfl := he'
      have c0 : w.cell? ⟨b, off + k * 2, none⟩ = some (.int .i64 l1) := hc 0 _ rfl
      have c1 : w.cell? ⟨b, off + k * 2 + 1, none⟩ = some (.int .i64 h1) := hc 1 _ rfl
      have d0 : w.cell? ⟨b', off' + k * 2, none⟩ = some (.int .i64 l1) := hc' 0 _ rfl
      have d1 : w.cell? ⟨b', off' + k * 2 + 1, none⟩ = some (.int .i64 h1) := hc' 1 _ rfl
      have lb := World.block_lt_of_cell? w _ c0
      have lb' := World.block_lt_of_cell? w _ d0
      obtain ⟨q0, q1, q2⟩ := lt3 lb
      obtain ⟨r0, r1, r2⟩ := lt3 lb'
      clear hx hl hc hl' hc'
      go_wp2_with fail
      first | refine wp_region_ext2 (by kernel_rfl) (by kernel_rfl) ?_ | refine wp_region_ext (by kernel_rfl) (by kernel_rfl) ?_
      repeat (go_big_quiet_step ((first | fail)))
      refine wpQuiet_nil ?_
      intro _ hw'
      obtain ⟨y, hw''⟩ := hw'
      subst hw''
      go_wp2
      go_roundw
      case rel => exact ⟨k + 1, by omega, by go_num, ⟨_, rfl⟩⟩
      case measure => simp [intOf]; omega
    · go_wp2
      go_ret
      refine ⟨rfl, ?_⟩
      repeat (first | with_reducible exact Below.refl _ _ | with_reducible assumption | with_reducible apply grew_ext | with_reducible apply grew_al | with_reducible apply grew_dn | with_reducible apply grew_d | (with_reducible refine grew_set ?_ (by first | omega | (repeat (first | with_reducible exact Nat.le_refl _ | with_reducible apply le_pl | with_reducible apply le_ext | with_reducible apply le_al))) _))
end
end Go.Proofs.Ytnjoofpllhbccaa
