/- Lemmas and walks of this proof, some texts one behind the other. No condition. -/
import Derived.Test.YtnjoofpllhbccaaSums
import Derived.Test.YtnjoofpllhbccaaState
set_option linter.unusedSimpArgs false
set_option linter.unusedVariables false
/- Bounds searched for one that is not ok, as readState does. No condition. -/
namespace Go.Proofs.Ytnjoofpllhbccaa
open Go.RowKit
set_option linter.unusedVariables false
attribute [local go_sem] ext_cell ext_frozen ext_lt ext_le ext_le1 lt_s2 lt_s3 lt_s4 lt_s5 lt_s6 ext_lt1 ext_lt2 ext_lt3

def itvB (x : Itv) : Bool := itvOkB x.lo x.hi
theorem itvF1 (x : Itv) (w : World) : Calls Try.prog 123 #[x.v] w fun e w' => e = .returned (.bool (!itvB x)) ∧ Grew w w' := by
  obtain ⟨lo, hi⟩ := x
  have C := fun w => itvOk lo hi w
  show Calls _ _ _ _ fun e w' => e = .returned (.bool (!itvOkB lo hi)) ∧ Grew w w'
  generalize itvOkB lo hi = B at *
  have HC := Lib.hid C; clear C
  go_enter Try.func123, Try.ntmps123
  go_wp2_with ((with_reducible refine (HC.out _).mono ?_); rintro e w' ⟨rfl, g'⟩; (first | obtain ⟨y, rfl⟩ := ext_cold g' | obtain ⟨y, rfl⟩ := ext_col g' | obtain ⟨y, rfl⟩ := ext_of g'); clear g')
  go_ret
  refine ⟨rfl, ?_⟩
  repeat (first | with_reducible exact Below.refl _ _ | with_reducible assumption | with_reducible apply grew_ext | with_reducible apply grew_al | with_reducible apply grew_dn | with_reducible apply grew_d | (with_reducible refine grew_set ?_ (by first | omega | (repeat (first | with_reducible exact Nat.le_refl _ | with_reducible apply le_pl | with_reducible apply le_ext | with_reducible apply le_al))) _))

set_option maxHeartbeats 1000000 in
theorem indexFuncItv (a : Option Addr) (n cap : Nat) (xs : List Itv) (w : World) (hr : RdL EItv 2 w a n xs) (hn : n ≤ 9223372036854775807) :
    Calls Try.prog 154 #[.slice a n cap, .func (.func 123) #[] #[]] w (RetIdx (fun x => !itvB x) xs w) := by
  have HL := Lib.hid hr.len
  have HR := Lib.hid hr; clear hr
  go_enter Try.func154, Try.ntmps154
  go_wp2
  go_loopw [8] (fun i wr => ∃ k : Nat, k ≤ n ∧ i = .int .i64 k ∧ (∃ x, wr = ext w x) ∧ ∀ x, x ∈ xs.take k → itvB x = true) (fun i _ => n - (intOf i).toNat)
  case atStart => exact ⟨0, Nat.zero_le _, rfl, ext_of (Below.refl _ _), by simp⟩
  case round =>
    obtain ⟨k, hk, rfl, ⟨x, rfl⟩, hall⟩ := hrel
    have HA := Lib.hid hall; clear hall
    by_cases hlt : k < n
    · obtain ⟨b, off, lo, hi, rfl, hx, c0, c1, hb⟩ := rdItv_at (HR.out.grew staysItv (ext_grew w x)) hlt
      have HX := Lib.hid hx; clear hx
      have C := fun w => itvF1 ⟨lo, hi⟩ w
      cases hq : itvB ⟨lo, hi⟩
      · rw [hq] at C
        have HC := Lib.hid C; clear C
        have HQ := Lib.hid hq; clear hq
        go_wp2_with ((with_reducible refine (HC.out _).mono ?_); rintro e w' ⟨rfl, g'⟩; (first | obtain ⟨y, rfl⟩ := ext_cold g' | obtain ⟨y, rfl⟩ := ext_col g' | obtain ⟨y, rfl⟩ := ext_of g'); clear g')
        go_ret
        refine ⟨k, rfl, ?_, by repeat (first | with_reducible exact Below.refl _ _ | with_reducible assumption | with_reducible apply grew_ext | with_reducible apply grew_al | with_reducible apply grew_dn | with_reducible apply grew_d | (with_reducible refine grew_set ?_ (by first | omega | (repeat (first | with_reducible exact Nat.le_refl _ | with_reducible apply le_pl | with_reducible apply le_ext | with_reducible apply le_al))) _))⟩
        rw [decide_eq_true (by omega), eq_comm, List.any_eq_true]
        exact ⟨_, List.mem_of_getElem? HX.out, by simp [HQ.out]⟩
      · rw [hq] at C
        have HC := Lib.hid C; clear C
        have HQ := Lib.hid hq; clear hq
        go_wp2_with ((with_reducible refine (HC.out _).mono ?_); rintro e w' ⟨rfl, g'⟩; (first | obtain ⟨y, rfl⟩ := ext_cold g' | obtain ⟨y, rfl⟩ := ext_col g' | obtain ⟨y, rfl⟩ := ext_of g'); clear g')
        go_roundw
        case rel =>
          refine ⟨k + 1, by omega, by go_num, ext_of (by repeat (first | with_reducible exact Below.refl _ _ | with_reducible assumption | with_reducible apply grew_ext | with_reducible apply grew_al | with_reducible apply grew_dn | with_reducible apply grew_d | (with_reducible refine grew_set ?_ (by first | omega | (repeat (first | with_reducible exact Nat.le_refl _ | with_reducible apply le_pl | with_reducible apply le_ext | with_reducible apply le_al))) _))), fun z hz => ?_⟩
          rw [take_get HX.out] at hz
          rcases List.mem_append.1 hz with hz | hz
          · exact HA.out z hz
          · obtain rfl := List.mem_singleton.1 hz
            exact HQ.out
        case measure => simp [intOf]; omega
    · go_wp2
      go_ret
      refine ⟨-1, rfl, ?_, by repeat (first | with_reducible exact Below.refl _ _ | with_reducible assumption | with_reducible apply grew_ext | with_reducible apply grew_al | with_reducible apply grew_dn | with_reducible apply grew_d | (with_reducible refine grew_set ?_ (by first | omega | (repeat (first | with_reducible exact Nat.le_refl _ | with_reducible apply le_pl | with_reducible apply le_ext | with_reducible apply le_al))) _))⟩
      rw [eq_comm]
      show xs.any _ = false
      rw [List.any_eq_false]
      intro z hz
      have := HA.out z (by rw [List.take_of_length_le (by have := HL.out; omega)]; exact hz)
      simp [this]
theorem containsFuncItv (a : Option Addr) (n cap : Nat) (xs : List Itv) (w : World) (hr : RdL EItv 2 w a n xs) (hn : n ≤ 9223372036854775807) :
    Calls Try.prog 122 #[.slice a n cap, .func (.func 123) #[] #[]] w fun e w' => e = .returned (.bool (!xs.all itvB)) ∧ Grew w w' := by
  have C := Lib.hid (indexFuncItv a n cap xs w hr hn)
  clear hr
  go_enter Try.func122, Try.ntmps122
  go_wp2_with fail
  refine C.out.mono ?_
  rintro e w1 ⟨z, rfl, hz, g1⟩
  rw [any_not] at hz
  have HZ := Lib.hid hz; clear hz
  have HG := Lib.hid g1; clear g1
  go_wp2
  go_ret
  exact ⟨by rw [← HZ.out]; rfl, HG.out⟩
end Go.Proofs.Ytnjoofpllhbccaa

/- The laws' own comparison of states: two that are the same. No condition. -/
namespace Go.Proofs.Ytnjoofpllhbccaa
open Go.RowKit
set_option linter.unusedVariables false
attribute [local go_sem] ext_cell ext_frozen ext_lt ext_le ext_le1 lt_s2 lt_s3 lt_s4 lt_s5 lt_s6 ext_lt1 ext_lt2 ext_lt3

theorem itvNeqS (lo hi : Int) (w : World) : (binOp .neq 32 (.agg #[.int .i64 lo, .int .i64 hi]) (.agg #[.int .i64 lo, .int .i64 hi])).run Try.prog w = .ok (.bool false) w := by simp [go_sem]
section
attribute [local go_sem ↓] itvNeqS
set_option maxHeartbeats 2000000 in
theorem owStateS (on : Bool) (a a' : Option Addr) (n c c' : Nat) (xs : List Itv) (lo hi : Int) (w : World) (hr : RdL EItv 2 w a n xs) (hr' : RdL EItv 2 w a' n xs) (hn : n ≤ 1000) :
    Calls Try.prog 15 #[.agg #[.bool on, .slice a n c, .int .i64 lo, .int .i64 hi], .agg #[.bool on, .slice a' n c', .int .i64 lo, .int .i64 hi]] w fun e w' => e = .returned (.bool true) ∧ Grew w w' := by
  have HR := Lib.hid hr; clear hr
  have HR' := Lib.hid hr'; clear hr'
  have hb : (on != on) = false := by simp
  go_enter Try.func15, Try.ntmps15
  go_wp2
  go_loopw [5] (fun i wr => ∃ k : Nat, k ≤ n ∧ i = .int .i64 k ∧ (∃ x, wr = ext ((w.alloc (.cells #[.bool on, .slice a n c, .int .i64 lo, .int .i64 hi] 34)).alloc (.cells #[.bool on, .slice a' n c', .int .i64 lo, .int .i64 hi] 34)) x)) (fun i _ => n - (intOf i).toNat)
  case atStart => exact ⟨0, Nat.zero_le _, rfl, ext_of (Below.refl _ _)⟩
  case round =>
    obtain ⟨k, hk, rfl, ⟨x, rfl⟩⟩ := hrel
    by_cases hlt : k < n
    · obtain ⟨b, off, ⟨l1, h1⟩, cs, rfl, hx, hl, hc, he⟩ := HR.out.at_ hlt
      obtain ⟨b', off', ⟨l2, h2⟩, cs', rfl, hx', hl', hc', he'⟩ := HR'.out.at_ hlt
      rw [hx, Option.some.injEq] at hx'
      cases hx'
      obtain rfl := he
      obtain rfl := he'
      have c0 : w.cell? ⟨b, off + k * 2, none⟩ = some (.int .i64 l1) := hc 0 _ rfl
      have c1 : w.cell? ⟨b, off + k * 2 + 1, none⟩ = some (.int .i64 h1) := hc 1 _ rfl
      have d0 : w.cell? ⟨b', off' + k * 2, none⟩ = some (.int .i64 l1) := hc' 0 _ rfl
      have d1 : w.cell? ⟨b', off' + k * 2 + 1, none⟩ = some (.int .i64 h1) := hc' 1 _ rfl
      have lb := World.block_lt_of_cell? w _ c0
      have lb' := World.block_lt_of_cell? w _ d0
      obtain ⟨q0, q1, q2⟩ := lt3 lb
      obtain ⟨r0, r1, r2⟩ := lt3 lb'
      clear hx hl hc hl' hc'
      go_wp2_with fail
      first | refine wp_region_ext2 (by kernel_rfl) (by kernel_rfl) ?_ | refine wp_region_ext (by kernel_rfl) (by kernel_rfl) ?_
      repeat (go_big_quiet_step ((first | fail)))
      refine wpQuiet_nil ?_
      intro _ hw'
      obtain ⟨y, hw''⟩ := hw'
      subst hw''
      go_wp2
      go_roundw
      case rel => exact ⟨k + 1, by omega, by go_num, ⟨_, rfl⟩⟩
      case measure => simp [intOf]; omega
    · go_wp2
      go_ret
      refine ⟨rfl, ?_⟩
      repeat (first | with_reducible exact Below.refl _ _ | with_reducible assumption | with_reducible apply grew_ext | with_reducible apply grew_al | with_reducible apply grew_dn | with_reducible apply grew_d | (with_reducible refine grew_set ?_ (by first | omega | (repeat (first | with_reducible exact Nat.le_refl _ | with_reducible apply le_pl | with_reducible apply le_ext | with_reducible apply le_al))) _))
end
end Go.Proofs.Ytnjoofpllhbccaa

/- readState of a state that is on and ok. No condition. -/
namespace Go.Proofs.Ytnjoofpllhbccaa
open Go.RowKit
set_option linter.unusedVariables false
attribute [local go_sem] ext_cell ext_frozen ext_lt ext_le ext_le1 lt_s2 lt_s3 lt_s4 lt_s5 lt_s6 ext_lt1 ext_lt2 ext_lt3

set_option maxHeartbeats 2000000 in
theorem readState4 (a : Option Addr) (c : Nat) (x0 x1 x2 x3 : Itv) (lo hi : Int) (w : World) (hr : RdL EItv 2 w a 4 [x0, x1, x2, x3]) (hok : itvOkB lo hi = true) (hall : [x0, x1, x2, x3].all itvB = true) (hc : 4 ≤ c) :
    Calls Try.prog 75 #[.agg #[.bool true, .slice a 4 c, .int .i64 lo, .int .i64 hi]] w fun e w' => ∃ b, e = .returned (.tuple #[.pointer (some ⟨b, 0, none⟩), .bool true]) ∧ w.heap.size ≤ b ∧ Grew w w' ∧
      Blk w' b 104 #[.int .i64 x0.lo, .int .i64 x0.hi, .int .i64 x1.lo, .int .i64 x1.hi, .int .i64 x2.lo, .int .i64 x2.hi, .int .i64 x3.lo, .int .i64 x3.hi, .int .i64 lo, .int .i64 hi] := by
  obtain ⟨b, off, y0l, y0h, rfl, e0, c0, c1, hb⟩ := rdItv_at hr (k := 0) (by omega)
  obtain ⟨b1, off1, y1l, y1h, hb1, e1, c2, c3, -⟩ := rdItv_at hr (k := 1) (by omega)
  obtain ⟨b2, off2, y2l, y2h, hb2, e2, c4, c5, -⟩ := rdItv_at hr (k := 2) (by omega)
  obtain ⟨b3, off3, y3l, y3h, hb3, e3, c6, c7, -⟩ := rdItv_at hr (k := 3) (by omega)
  simp only [Option.some.injEq, Addr.mk.injEq, and_true] at hb1 hb2 hb3
  obtain ⟨rfl, rfl⟩ := hb1
  obtain ⟨rfl, rfl⟩ := hb2
  obtain ⟨rfl, rfl⟩ := hb3
  simp only [List.getElem?_cons_zero, List.getElem?_cons_succ, Option.some.injEq] at e0 e1 e2 e3
  subst e0 e1 e2 e3
  obtain ⟨q0, q1, q2⟩ := lt3 hb
  have C := fun w => itvOk lo hi w
  rw [hok] at C
  have D := fun W (h : Grew w W) => containsFuncItv (some ⟨b, off, none⟩) 4 c _ W (hr.grew staysItv h) (by omega)
  rw [hall] at D
  have HC := Lib.hid C; clear C
  have HD := Lib.hid D; clear D hr hall hok
  simp only [Nat.zero_mul, Nat.add_zero, Nat.one_mul, Nat.reduceMul, Nat.add_assoc, Nat.reduceAdd] at c0 c1 c2 c3 c4 c5 c6 c7
  go_enter Try.func75, Try.ntmps75
  go_wp2_with (first | ((with_reducible refine (HC.out _).mono ?_); rintro e w' ⟨rfl, g'⟩; (first | obtain ⟨y, rfl⟩ := ext_cold g' | obtain ⟨y, rfl⟩ := ext_col g' | obtain ⟨y, rfl⟩ := ext_of g'); clear g') | ((with_reducible refine (HD.out _ (by repeat (first | with_reducible exact Below.refl _ _ | with_reducible assumption | with_reducible apply grew_ext | with_reducible apply grew_al | with_reducible apply grew_dn | with_reducible apply grew_d | (with_reducible refine grew_set ?_ (by first | omega | (repeat (first | with_reducible exact Nat.le_refl _ | with_reducible apply le_pl | with_reducible apply le_ext | with_reducible apply le_al))) _)))).mono ?_); rintro e w' ⟨rfl, g'⟩; (first | obtain ⟨z, rfl⟩ := ext_cold g' | obtain ⟨z, rfl⟩ := ext_col g' | obtain ⟨z, rfl⟩ := ext_of g'); clear g'))
  have hat : ∀ W : World, (Instr.arrayAt 102 (.slice (some ⟨b, off, none⟩) 4 c)).run Try.prog W = .ok (.pointer (some ⟨b, off, none⟩)) W := fun W => by kernel_rfl
  go_region
  all_goals
    go_wp2
    go_ret2
    refine ⟨_, rfl, ?_, ?_, ?_⟩
    · have h1 := ext_size _ z
      simp only [World.size_alloc] at h1
      omega
    · repeat (first | with_reducible exact Below.refl _ _ | with_reducible assumption | with_reducible apply grew_ext | with_reducible apply grew_al | with_reducible apply grew_dn | with_reducible apply grew_d | (with_reducible refine grew_set ?_ (by first | omega | (repeat (first | with_reducible exact Nat.le_refl _ | with_reducible apply le_pl | with_reducible apply le_ext | with_reducible apply le_al))) _))
    · first | exact Blk.new _ _ _ | exact (Blk.new _ _ _).grew (grew_d (Below.refl _ _))
end Go.Proofs.Ytnjoofpllhbccaa
