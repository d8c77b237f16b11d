/- readState of a state that is on and ok. No condition. -/
import Derived.Test.YtpmfpgbpndobpaaItvS
import Derived.Test.YtpmfpgbpndobpaaOwState
namespace Go.Proofs.Ytpmfpgbpndobpaa
open Go.RowKit
set_option linter.unusedVariables false
attribute [local go_sem] ext_cell ext_frozen ext_lt ext_le ext_le1 lt_s2 lt_s3 lt_s4 lt_s5 lt_s6 ext_lt1 ext_lt2 ext_lt3

set_option maxHeartbeats 2000000 in
theorem readState4 (a : Option Addr) (c : Nat) (x0 x1 x2 x3 : Itv) (lo hi : Int) (w : World) (hr : RdL EItv 2 w a 4 [x0, x1, x2, x3]) (hok : itvOkB lo hi = true) (hall : [x0, x1, x2, x3].all itvB = true) (hc : 4 ≤ c) :
    Calls Try.prog 24 #[.agg #[.bool true, .slice a 4 c, .int .i64 lo, .int .i64 hi]] w fun e w' => ∃ b, e = .returned (.tuple #[.pointer (some ⟨b, 0, none⟩), .bool true]) ∧ w.heap.size ≤ b ∧ Grew w w' ∧
      Blk w' b 82 #[.int .i64 x0.lo, .int .i64 x0.hi, .int .i64 x1.lo, .int .i64 x1.hi, .int .i64 x2.lo, .int .i64 x2.hi, .int .i64 x3.lo, .int .i64 x3.hi, .int .i64 lo, .int .i64 hi] := by
  obtain ⟨b, off, y0l, y0h, rfl, e0, c0, c1, hb⟩ := rdItv_at hr (k := 0) (by omega)
  obtain ⟨b1, off1, y1l, y1h, hb1, e1, c2, c3, -⟩ := rdItv_at hr (k := 1) (by omega)
  obtain ⟨b2, off2, y2l, y2h, hb2, e2, c4, c5, -⟩ := rdItv_at hr (k := 2) (by omega)
  obtain ⟨b3, off3, y3l, y3h, hb3, e3, c6, c7, -⟩ := rdItv_at hr (k := 3) (by omega)
  simp only [Option.some.injEq, Addr.mk.injEq, and_true] at hb1 hb2 hb3
  obtain ⟨rfl, rfl⟩ := hb1
  obtain ⟨rfl, rfl⟩ := hb2
  obtain ⟨rfl, rfl⟩ := hb3
  simp only [List.getElem?_cons_zero, List.getElem?_cons_succ, Option.some.injEq] at e0 e1 e2 e3
  subst e0 e1 e2 e3
  obtain ⟨q0, q1, q2⟩ := lt3 hb
  have C := fun w => itvOk lo hi w
  rw [hok] at C
  have D := fun W (h : Grew w W) => containsFuncItv (some ⟨b, off, none⟩) 4 c _ W (hr.grew staysItv h) (by omega)
  rw [hall] at D
  have HC := Lib.hid C; clear C
  have HD := Lib.hid D; clear D hr hall hok
  simp only [Nat.zero_mul, Nat.add_zero, Nat.one_mul, Nat.reduceMul, Nat.add_assoc, Nat.reduceAdd] at c0 c1 c2 c3 c4 c5 c6 c7
  go_enter Try.func24, Try.ntmps24
  go_wp2_with (first | ((with_reducible refine (HC.out _).mono ?_); rintro e w' ⟨rfl, g'⟩; (first | obtain ⟨y, rfl⟩ := ext_cold g' | obtain ⟨y, rfl⟩ := ext_col g' | obtain ⟨y, rfl⟩ := ext_of g'); clear g') | ((with_reducible refine (HD.out _ (by repeat (first | with_reducible exact Below.refl _ _ | with_reducible assumption | with_reducible apply grew_ext | with_reducible apply grew_al | with_reducible apply grew_dn | with_reducible apply grew_d | (with_reducible refine grew_set ?_ (by first | omega | (repeat (first | with_reducible exact Nat.le_refl _ | with_reducible apply le_pl | with_reducible apply le_ext | with_reducible apply le_al))) _)))).mono ?_); rintro e w' ⟨rfl, g'⟩; (first | obtain ⟨z, rfl⟩ := ext_cold g' | obtain ⟨z, rfl⟩ := ext_col g' | obtain ⟨z, rfl⟩ := ext_of g'); clear g'))
  have hat : ∀ W : World, (Instr.arrayAt 80 (.slice (some ⟨b, off, none⟩) 4 c)).run Try.prog W = .ok (.pointer (some ⟨b, off, none⟩)) W := fun W => by kernel_rfl
  go_region
  all_goals
    go_wp2
    go_ret2
    refine ⟨_, rfl, ?_, ?_, ?_⟩
    · have h1 := ext_size _ z
      simp only [World.size_alloc] at h1
      omega
    · repeat (first | with_reducible exact Below.refl _ _ | with_reducible assumption | with_reducible apply grew_ext | with_reducible apply grew_al | with_reducible apply grew_dn | with_reducible apply grew_d | (with_reducible refine grew_set ?_ (by first | omega | (repeat (first | with_reducible exact Nat.le_refl _ | with_reducible apply le_pl | with_reducible apply le_ext | with_reducible apply le_al))) _))
    · first | exact Blk.new _ _ _ | exact (Blk.new _ _ _).grew (grew_d (Below.refl _ _))
end Go.Proofs.Ytpmfpgbpndobpaa
