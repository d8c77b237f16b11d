/- May an instruction fail: the program's fails. No condition. -/
import Derived.Test.YtpmfpgbpndobpaaFail
import Derived.Test.YtpmfpgbpndobpaaKinds
import Derived.Test.YtpmfpgbpndobpaaNewI
import Derived.Test.YtpmfpgbpndobpaaRegG
import Derived.Test.YtpmfpgbpndobpaaRelR
namespace Go.Proofs.Ytpmfpgbpndobpaa
open Go.RowKit
set_option linter.unusedVariables false
set_option linter.unusedSimpArgs false
attribute [local go_sem] ext_cell ext_frozen ext_lt ext_le ext_le1 lt_s2 lt_s3 lt_s4 lt_s5 lt_s6 ext_lt1 ext_lt2 ext_lt3
attribute [local go_sem] asArith asNotArith asAny asNotAny asLoad asNotLoad asStore asNotStore asIf asNotIf asJump asNotJump asCall asNotCall asAssert asNotAssert asRet asNotRet

theorem implItvNot (rel : Int) (a b : Itv) (w : World) (h : 1 ≤ rel ∧ rel ≤ 4) (ha : itvB a = true) (hb : itvB b = true) :
    Calls Try.prog 53 #[.int .i64 rel, a.v, b.v] w fun e w' => e = .returned (relV (notI rel a b)) ∧ Grew w w' := by
  rcases (show rel = 1 ∨ rel = 2 ∨ rel = 3 ∨ rel = 4 from by omega) with rfl | rfl | rfl | rfl
  · exact implItvNot1 a b w ha hb
  · exact implItvNot2 a b w ha hb
  · exact implItvNot3 a b w ha hb
  · exact implItvNot4 a b w ha hb
set_option maxHeartbeats 2000000 in
theorem implFails5 (sb : Nat) (pa : Option Addr) (pn pc : Nat) (d a b rel lo hi to : Int) (xs : List Itv) (slo shi : Int) (w : World)  :
    Calls Try.prog 27 #[.pointer (some ⟨sb, 0, none⟩), .agg #[.slice pa pn pc], Ins.v ⟨5, d, a, b, rel, lo, hi, to⟩] w fun e w' => e = .returned (.bool (false)) ∧ Grew w w' := by
  have HC : Hid (∀ W, Calls Try.prog 46 #[Ins.v ⟨5, d, a, b, rel, lo, hi, to⟩] W fun e w' => e = .returned (.iface 91 (.agg #[.int .i64 d, .int .i64 lo, .int .i64 hi])) ∧ Grew W w') := Lib.hid (fun W => codeOf ⟨5, d, a, b, rel, lo, hi, to⟩ W)
  go_enter Try.func27, Try.ntmps27
  go_wp2_with fail
  refine (HC.out _).mono ?_
  rintro e w1 ⟨rfl, g1⟩
  have hG := show Grew w w1 from grew_tr (by repeat (first | with_reducible exact Below.refl _ _ | with_reducible assumption | with_reducible apply grew_ext | with_reducible apply grew_al | with_reducible apply grew_dn | with_reducible apply grew_d | (with_reducible refine grew_set ?_ (by first | omega | (repeat (first | with_reducible exact Nat.le_refl _ | with_reducible apply le_pl | with_reducible apply le_ext | with_reducible apply le_al))) _))) g1
  have HG := Lib.hid hG
  clear g1 hG
  go_wp2
  go_ret
  refine ⟨rfl, ?_⟩
  have hg := HG.out
  repeat (first | with_reducible exact Below.refl _ _ | with_reducible assumption | with_reducible apply grew_ext | with_reducible apply grew_al | with_reducible apply grew_dn | with_reducible apply grew_d | (with_reducible refine grew_set ?_ (by first | omega | (repeat (first | with_reducible exact Nat.le_refl _ | with_reducible apply le_pl | with_reducible apply le_ext | with_reducible apply le_al))) _))
set_option maxHeartbeats 2000000 in
theorem implFails8 (sb : Nat) (pa : Option Addr) (pn pc : Nat) (d a b rel lo hi to : Int) (xs : List Itv) (slo shi : Int) (w : World)  :
    Calls Try.prog 27 #[.pointer (some ⟨sb, 0, none⟩), .agg #[.slice pa pn pc], Ins.v ⟨8, d, a, b, rel, lo, hi, to⟩] w fun e w' => e = .returned (.bool (false)) ∧ Grew w w' := by
  have HC : Hid (∀ W, Calls Try.prog 46 #[Ins.v ⟨8, d, a, b, rel, lo, hi, to⟩] W fun e w' => e = .returned (.iface 93 (.agg #[.int .i64 rel, .int .i64 a, .int .i64 b, .int .i64 to])) ∧ Grew W w') := Lib.hid (fun W => codeOf ⟨8, d, a, b, rel, lo, hi, to⟩ W)
  go_enter Try.func27, Try.ntmps27
  go_wp2_with fail
  refine (HC.out _).mono ?_
  rintro e w1 ⟨rfl, g1⟩
  have hG := show Grew w w1 from grew_tr (by repeat (first | with_reducible exact Below.refl _ _ | with_reducible assumption | with_reducible apply grew_ext | with_reducible apply grew_al | with_reducible apply grew_dn | with_reducible apply grew_d | (with_reducible refine grew_set ?_ (by first | omega | (repeat (first | with_reducible exact Nat.le_refl _ | with_reducible apply le_pl | with_reducible apply le_ext | with_reducible apply le_al))) _))) g1
  have HG := Lib.hid hG
  clear g1 hG
  go_wp2
  go_ret
  refine ⟨rfl, ?_⟩
  have hg := HG.out
  repeat (first | with_reducible exact Below.refl _ _ | with_reducible assumption | with_reducible apply grew_ext | with_reducible apply grew_al | with_reducible apply grew_dn | with_reducible apply grew_d | (with_reducible refine grew_set ?_ (by first | omega | (repeat (first | with_reducible exact Nat.le_refl _ | with_reducible apply le_pl | with_reducible apply le_ext | with_reducible apply le_al))) _))
set_option maxHeartbeats 2000000 in
theorem implFails9 (sb : Nat) (pa : Option Addr) (pn pc : Nat) (d a b rel lo hi to : Int) (xs : List Itv) (slo shi : Int) (w : World)  :
    Calls Try.prog 27 #[.pointer (some ⟨sb, 0, none⟩), .agg #[.slice pa pn pc], Ins.v ⟨9, d, a, b, rel, lo, hi, to⟩] w fun e w' => e = .returned (.bool (false)) ∧ Grew w w' := by
  have HC : Hid (∀ W, Calls Try.prog 46 #[Ins.v ⟨9, d, a, b, rel, lo, hi, to⟩] W fun e w' => e = .returned (.iface 96 (.agg #[.int .i64 to])) ∧ Grew W w') := Lib.hid (fun W => codeOf ⟨9, d, a, b, rel, lo, hi, to⟩ W)
  go_enter Try.func27, Try.ntmps27
  go_wp2_with fail
  refine (HC.out _).mono ?_
  rintro e w1 ⟨rfl, g1⟩
  have hG := show Grew w w1 from grew_tr (by repeat (first | with_reducible exact Below.refl _ _ | with_reducible assumption | with_reducible apply grew_ext | with_reducible apply grew_al | with_reducible apply grew_dn | with_reducible apply grew_d | (with_reducible refine grew_set ?_ (by first | omega | (repeat (first | with_reducible exact Nat.le_refl _ | with_reducible apply le_pl | with_reducible apply le_ext | with_reducible apply le_al))) _))) g1
  have HG := Lib.hid hG
  clear g1 hG
  go_wp2
  go_ret
  refine ⟨rfl, ?_⟩
  have hg := HG.out
  repeat (first | with_reducible exact Below.refl _ _ | with_reducible assumption | with_reducible apply grew_ext | with_reducible apply grew_al | with_reducible apply grew_dn | with_reducible apply grew_d | (with_reducible refine grew_set ?_ (by first | omega | (repeat (first | with_reducible exact Nat.le_refl _ | with_reducible apply le_pl | with_reducible apply le_ext | with_reducible apply le_al))) _))
set_option maxHeartbeats 2000000 in
theorem implFails12 (sb : Nat) (pa : Option Addr) (pn pc : Nat) (d a b rel lo hi to : Int) (xs : List Itv) (slo shi : Int) (w : World)  :
    Calls Try.prog 27 #[.pointer (some ⟨sb, 0, none⟩), .agg #[.slice pa pn pc], Ins.v ⟨12, d, a, b, rel, lo, hi, to⟩] w fun e w' => e = .returned (.bool (false)) ∧ Grew w w' := by
  have HC : Hid (∀ W, Calls Try.prog 46 #[Ins.v ⟨12, d, a, b, rel, lo, hi, to⟩] W fun e w' => e = .returned (.iface 116 (.agg #[.int .i64 a])) ∧ Grew W w') := Lib.hid (fun W => codeOf ⟨12, d, a, b, rel, lo, hi, to⟩ W)
  go_enter Try.func27, Try.ntmps27
  go_wp2_with fail
  refine (HC.out _).mono ?_
  rintro e w1 ⟨rfl, g1⟩
  have hG := show Grew w w1 from grew_tr (by repeat (first | with_reducible exact Below.refl _ _ | with_reducible assumption | with_reducible apply grew_ext | with_reducible apply grew_al | with_reducible apply grew_dn | with_reducible apply grew_d | (with_reducible refine grew_set ?_ (by first | omega | (repeat (first | with_reducible exact Nat.le_refl _ | with_reducible apply le_pl | with_reducible apply le_ext | with_reducible apply le_al))) _))) g1
  have HG := Lib.hid hG
  clear g1 hG
  go_wp2
  go_ret
  refine ⟨rfl, ?_⟩
  have hg := HG.out
  repeat (first | with_reducible exact Below.refl _ _ | with_reducible assumption | with_reducible apply grew_ext | with_reducible apply grew_al | with_reducible apply grew_dn | with_reducible apply grew_d | (with_reducible refine grew_set ?_ (by first | omega | (repeat (first | with_reducible exact Nat.le_refl _ | with_reducible apply le_pl | with_reducible apply le_ext | with_reducible apply le_al))) _))
set_option maxHeartbeats 2000000 in
theorem implFails1 (sb : Nat) (pa : Option Addr) (pn pc : Nat) (d a b rel lo hi to : Int) (xs : List Itv) (slo shi : Int) (w : World)  :
    Calls Try.prog 27 #[.pointer (some ⟨sb, 0, none⟩), .agg #[.slice pa pn pc], Ins.v ⟨1, d, a, b, rel, lo, hi, to⟩] w fun e w' => e = .returned (.bool (false)) ∧ Grew w w' := by
  have HC : Hid (∀ W, Calls Try.prog 46 #[Ins.v ⟨1, d, a, b, rel, lo, hi, to⟩] W fun e w' => e = .returned (.iface 102 (.agg #[.int .i64 (1 : Int), .int .i64 d, .int .i64 a, .int .i64 b])) ∧ Grew W w') := Lib.hid (fun W => codeOf ⟨1, d, a, b, rel, lo, hi, to⟩ W)
  go_enter Try.func27, Try.ntmps27
  go_wp2_with fail
  refine (HC.out _).mono ?_
  rintro e w1 ⟨rfl, g1⟩
  have hG := show Grew w w1 from grew_tr (by repeat (first | with_reducible exact Below.refl _ _ | with_reducible assumption | with_reducible apply grew_ext | with_reducible apply grew_al | with_reducible apply grew_dn | with_reducible apply grew_d | (with_reducible refine grew_set ?_ (by first | omega | (repeat (first | with_reducible exact Nat.le_refl _ | with_reducible apply le_pl | with_reducible apply le_ext | with_reducible apply le_al))) _))) g1
  have HG := Lib.hid hG
  clear g1 hG
  go_wp2_with fail
  first | refine wp_region_ext2 (by kernel_rfl) (by kernel_rfl) ?_ | refine wp_region_ext (by kernel_rfl) (by kernel_rfl) ?_
  repeat (go_big_quiet_step ((first | fail)))
  refine wpQuiet_nil ?_
  intro _ hw'
  obtain ⟨u, hw''⟩ := hw'
  subst hw''
  go_wp2
  go_ret
  refine ⟨by simp, ?_⟩
  have hg := HG.out
  repeat (first | with_reducible exact Below.refl _ _ | with_reducible assumption | with_reducible apply grew_ext | with_reducible apply grew_al | with_reducible apply grew_dn | with_reducible apply grew_d | (with_reducible refine grew_set ?_ (by first | omega | (repeat (first | with_reducible exact Nat.le_refl _ | with_reducible apply le_pl | with_reducible apply le_ext | with_reducible apply le_al))) _))
set_option maxHeartbeats 2000000 in
theorem implFails2 (sb : Nat) (pa : Option Addr) (pn pc : Nat) (d a b rel lo hi to : Int) (xs : List Itv) (slo shi : Int) (w : World)  :
    Calls Try.prog 27 #[.pointer (some ⟨sb, 0, none⟩), .agg #[.slice pa pn pc], Ins.v ⟨2, d, a, b, rel, lo, hi, to⟩] w fun e w' => e = .returned (.bool (false)) ∧ Grew w w' := by
  have HC : Hid (∀ W, Calls Try.prog 46 #[Ins.v ⟨2, d, a, b, rel, lo, hi, to⟩] W fun e w' => e = .returned (.iface 102 (.agg #[.int .i64 (2 : Int), .int .i64 d, .int .i64 a, .int .i64 b])) ∧ Grew W w') := Lib.hid (fun W => codeOf ⟨2, d, a, b, rel, lo, hi, to⟩ W)
  go_enter Try.func27, Try.ntmps27
  go_wp2_with fail
  refine (HC.out _).mono ?_
  rintro e w1 ⟨rfl, g1⟩
  have hG := show Grew w w1 from grew_tr (by repeat (first | with_reducible exact Below.refl _ _ | with_reducible assumption | with_reducible apply grew_ext | with_reducible apply grew_al | with_reducible apply grew_dn | with_reducible apply grew_d | (with_reducible refine grew_set ?_ (by first | omega | (repeat (first | with_reducible exact Nat.le_refl _ | with_reducible apply le_pl | with_reducible apply le_ext | with_reducible apply le_al))) _))) g1
  have HG := Lib.hid hG
  clear g1 hG
  go_wp2_with fail
  first | refine wp_region_ext2 (by kernel_rfl) (by kernel_rfl) ?_ | refine wp_region_ext (by kernel_rfl) (by kernel_rfl) ?_
  repeat (go_big_quiet_step ((first | fail)))
  refine wpQuiet_nil ?_
  intro _ hw'
  obtain ⟨u, hw''⟩ := hw'
  subst hw''
  go_wp2
  go_ret
  refine ⟨by simp, ?_⟩
  have hg := HG.out
  repeat (first | with_reducible exact Below.refl _ _ | with_reducible assumption | with_reducible apply grew_ext | with_reducible apply grew_al | with_reducible apply grew_dn | with_reducible apply grew_d | (with_reducible refine grew_set ?_ (by first | omega | (repeat (first | with_reducible exact Nat.le_refl _ | with_reducible apply le_pl | with_reducible apply le_ext | with_reducible apply le_al))) _))
set_option maxHeartbeats 2000000 in
theorem implFails3 (sb : Nat) (pa : Option Addr) (pn pc : Nat) (d a b rel lo hi to : Int) (xs : List Itv) (slo shi : Int) (w : World)  :
    Calls Try.prog 27 #[.pointer (some ⟨sb, 0, none⟩), .agg #[.slice pa pn pc], Ins.v ⟨3, d, a, b, rel, lo, hi, to⟩] w fun e w' => e = .returned (.bool (false)) ∧ Grew w w' := by
  have HC : Hid (∀ W, Calls Try.prog 46 #[Ins.v ⟨3, d, a, b, rel, lo, hi, to⟩] W fun e w' => e = .returned (.iface 102 (.agg #[.int .i64 (3 : Int), .int .i64 d, .int .i64 a, .int .i64 b])) ∧ Grew W w') := Lib.hid (fun W => codeOf ⟨3, d, a, b, rel, lo, hi, to⟩ W)
  go_enter Try.func27, Try.ntmps27
  go_wp2_with fail
  refine (HC.out _).mono ?_
  rintro e w1 ⟨rfl, g1⟩
  have hG := show Grew w w1 from grew_tr (by repeat (first | with_reducible exact Below.refl _ _ | with_reducible assumption | with_reducible apply grew_ext | with_reducible apply grew_al | with_reducible apply grew_dn | with_reducible apply grew_d | (with_reducible refine grew_set ?_ (by first | omega | (repeat (first | with_reducible exact Nat.le_refl _ | with_reducible apply le_pl | with_reducible apply le_ext | with_reducible apply le_al))) _))) g1
  have HG := Lib.hid hG
  clear g1 hG
  go_wp2_with fail
  first | refine wp_region_ext2 (by kernel_rfl) (by kernel_rfl) ?_ | refine wp_region_ext (by kernel_rfl) (by kernel_rfl) ?_
  repeat (go_big_quiet_step ((first | fail)))
  refine wpQuiet_nil ?_
  intro _ hw'
  obtain ⟨u, hw''⟩ := hw'
  subst hw''
  go_wp2
  go_ret
  refine ⟨by simp, ?_⟩
  have hg := HG.out
  repeat (first | with_reducible exact Below.refl _ _ | with_reducible assumption | with_reducible apply grew_ext | with_reducible apply grew_al | with_reducible apply grew_dn | with_reducible apply grew_d | (with_reducible refine grew_set ?_ (by first | omega | (repeat (first | with_reducible exact Nat.le_refl _ | with_reducible apply le_pl | with_reducible apply le_ext | with_reducible apply le_al))) _))
set_option maxHeartbeats 2000000 in
theorem implFails4 (sb : Nat) (pa : Option Addr) (pn pc : Nat) (d a b rel lo hi to : Int) (xs : List Itv) (slo shi : Int) (w : World) (hBk : Blk w sb 82 (stC xs slo shi)) (ho : stOkB true xs slo shi = true) (hb : varB b = true) :
    Calls Try.prog 27 #[.pointer (some ⟨sb, 0, none⟩), .agg #[.slice pa pn pc], Ins.v ⟨4, d, a, b, rel, lo, hi, to⟩] w fun e w' => e = .returned (.bool (inB (nthI xs b).lo (nthI xs b).hi 0)) ∧ Grew w w' := by
  have h4 : xs.length = 4 := by obtain ⟨_, x0, x1, x2, x3, rfl, _⟩ := st_four ho; rfl
  have bo := nthI_ok ho hb
  obtain ⟨bj, heb, hjb, hxb⟩ := nthI_get h4 hb
  obtain ⟨⟨bl, bh⟩, hXb⟩ : ∃ x, nthI xs b = x := ⟨_, rfl⟩
  rw [hXb] at bo hxb ⊢
  subst heb
  have HC : Hid (∀ W, Calls Try.prog 46 #[Ins.v ⟨4, d, a, ↑bj, rel, lo, hi, to⟩] W fun e w' => e = .returned (.iface 102 (.agg #[.int .i64 (4 : Int), .int .i64 d, .int .i64 a, .int .i64 (bj : Int)])) ∧ Grew W w') := Lib.hid (fun W => codeOf ⟨4, d, a, ↑bj, rel, lo, hi, to⟩ W)
  have HI := Lib.hid (fun W => implItvHas bl bh 0 W bo)
  rw [show inB (⟨bl, bh⟩ : Itv).lo (⟨bl, bh⟩ : Itv).hi 0 = (decide (bl ≤ 0) && decide (0 ≤ bh)) from rfl]
  obtain ⟨B, hB⟩ : ∃ B, (decide (bl ≤ 0) && decide (0 ≤ bh)) = B := ⟨_, rfl⟩
  rw [hB] at HI ⊢
  clear hB
  go_enter Try.func27, Try.ntmps27
  go_wp2_with fail
  refine (HC.out _).mono ?_
  rintro e w1 ⟨rfl, g1⟩
  have hG := show Grew w w1 from grew_tr (by repeat (first | with_reducible exact Below.refl _ _ | with_reducible assumption | with_reducible apply grew_ext | with_reducible apply grew_al | with_reducible apply grew_dn | with_reducible apply grew_d | (with_reducible refine grew_set ?_ (by first | omega | (repeat (first | with_reducible exact Nat.le_refl _ | with_reducible apply le_pl | with_reducible apply le_ext | with_reducible apply le_al))) _))) g1
  have HG := Lib.hid hG
  obtain ⟨b0, b1⟩ := st_cell (hBk.grew hG) h4 hxb
  have ls := (hBk.grew hG).lt
  clear g1 hG hBk ho h4 hxb bo hXb hb
  go_wp2_with fail
  first | refine wp_region_ext2 (by kernel_rfl) (by kernel_rfl) ?_ | refine wp_region_ext (by kernel_rfl) (by kernel_rfl) ?_
  repeat (go_big_quiet_step ((first | (with_reducible exact ext_grow (HI.out _)))))
  refine wpQuiet_nil ?_
  intro _ hw'
  obtain ⟨u, hw''⟩ := hw'
  subst hw''
  cases B
  all_goals
    go_wp2
    go_ret
    refine ⟨by simp, ?_⟩
    have hg := HG.out
    repeat (first | with_reducible exact Below.refl _ _ | with_reducible assumption | with_reducible apply grew_ext | with_reducible apply grew_al | with_reducible apply grew_dn | with_reducible apply grew_d | (with_reducible refine grew_set ?_ (by first | omega | (repeat (first | with_reducible exact Nat.le_refl _ | with_reducible apply le_pl | with_reducible apply le_ext | with_reducible apply le_al))) _))
set_option maxHeartbeats 2000000 in
theorem implFails6 (sb : Nat) (pa : Option Addr) (pn pc : Nat) (d a b rel lo hi to : Int) (xs : List Itv) (slo shi : Int) (w : World) (hBk : Blk w sb 82 (stC xs slo shi)) (ho : stOkB true xs slo shi = true) (ha : varB a = true) :
    Calls Try.prog 27 #[.pointer (some ⟨sb, 0, none⟩), .agg #[.slice pa pn pc], Ins.v ⟨6, d, a, b, rel, lo, hi, to⟩] w fun e w' => e = .returned (.bool (!inI (nthI xs a) ⟨0, 3⟩)) ∧ Grew w w' := by
  have h4 : xs.length = 4 := by obtain ⟨_, x0, x1, x2, x3, rfl, _⟩ := st_four ho; rfl
  have ao := nthI_ok ho ha
  obtain ⟨aj, hea, hja, hxa⟩ := nthI_get h4 ha
  obtain ⟨⟨al, ah⟩, hXa⟩ : ∃ x, nthI xs a = x := ⟨_, rfl⟩
  rw [hXa] at ao hxa ⊢
  subst hea
  have HC : Hid (∀ W, Calls Try.prog 46 #[Ins.v ⟨6, d, ↑aj, b, rel, lo, hi, to⟩] W fun e w' => e = .returned (.iface 104 (.agg #[.int .i64 d, .int .i64 (aj : Int)])) ∧ Grew W w') := Lib.hid (fun W => codeOf ⟨6, d, ↑aj, b, rel, lo, hi, to⟩ W)
  have HI := Lib.hid (fun W => implItvIn ⟨al, ah⟩ ⟨0, 3⟩ W ao (by decide))
  obtain ⟨B, hB⟩ : ∃ B, inI ⟨al, ah⟩ ⟨0, 3⟩ = B := ⟨_, rfl⟩
  rw [hB] at HI ⊢
  have HK := Lib.hid (fun W => implCellIndexes W)
  clear hB
  go_enter Try.func27, Try.ntmps27
  go_wp2_with fail
  refine (HC.out _).mono ?_
  rintro e w1 ⟨rfl, g1⟩
  have hG := show Grew w w1 from grew_tr (by repeat (first | with_reducible exact Below.refl _ _ | with_reducible assumption | with_reducible apply grew_ext | with_reducible apply grew_al | with_reducible apply grew_dn | with_reducible apply grew_d | (with_reducible refine grew_set ?_ (by first | omega | (repeat (first | with_reducible exact Nat.le_refl _ | with_reducible apply le_pl | with_reducible apply le_ext | with_reducible apply le_al))) _))) g1
  have HG := Lib.hid hG
  obtain ⟨a0, a1⟩ := st_cell (hBk.grew hG) h4 hxa
  have ls := (hBk.grew hG).lt
  clear g1 hG hBk ho h4 hxa ao hXa ha
  go_wp2_with fail
  first | refine wp_region_ext2 (by kernel_rfl) (by kernel_rfl) ?_ | refine wp_region_ext (by kernel_rfl) (by kernel_rfl) ?_
  repeat (go_big_quiet_step ((first | (with_reducible exact ext_grow (HI.out _)) | (with_reducible exact ext_grow (HK.out _)))))
  refine wpQuiet_nil ?_
  intro _ hw'
  obtain ⟨u, hw''⟩ := hw'
  subst hw''
  cases B
  all_goals
    go_wp2
    go_ret
    refine ⟨by simp, ?_⟩
    have hg := HG.out
    repeat (first | with_reducible exact Below.refl _ _ | with_reducible assumption | with_reducible apply grew_ext | with_reducible apply grew_al | with_reducible apply grew_dn | with_reducible apply grew_d | (with_reducible refine grew_set ?_ (by first | omega | (repeat (first | with_reducible exact Nat.le_refl _ | with_reducible apply le_pl | with_reducible apply le_ext | with_reducible apply le_al))) _))
set_option maxHeartbeats 2000000 in
theorem implFails7 (sb : Nat) (pa : Option Addr) (pn pc : Nat) (d a b rel lo hi to : Int) (xs : List Itv) (slo shi : Int) (w : World) (hBk : Blk w sb 82 (stC xs slo shi)) (ho : stOkB true xs slo shi = true) (ha : varB a = true) :
    Calls Try.prog 27 #[.pointer (some ⟨sb, 0, none⟩), .agg #[.slice pa pn pc], Ins.v ⟨7, d, a, b, rel, lo, hi, to⟩] w fun e w' => e = .returned (.bool (!inI (nthI xs a) ⟨0, 3⟩)) ∧ Grew w w' := by
  have h4 : xs.length = 4 := by obtain ⟨_, x0, x1, x2, x3, rfl, _⟩ := st_four ho; rfl
  have ao := nthI_ok ho ha
  obtain ⟨aj, hea, hja, hxa⟩ := nthI_get h4 ha
  obtain ⟨⟨al, ah⟩, hXa⟩ : ∃ x, nthI xs a = x := ⟨_, rfl⟩
  rw [hXa] at ao hxa ⊢
  subst hea
  have HC : Hid (∀ W, Calls Try.prog 46 #[Ins.v ⟨7, d, ↑aj, b, rel, lo, hi, to⟩] W fun e w' => e = .returned (.iface 106 (.agg #[.int .i64 ↑aj, .int .i64 b])) ∧ Grew W w') := Lib.hid (fun W => codeOf ⟨7, d, ↑aj, b, rel, lo, hi, to⟩ W)
  have HI := Lib.hid (fun W => implItvIn ⟨al, ah⟩ ⟨0, 3⟩ W ao (by decide))
  obtain ⟨B, hB⟩ : ∃ B, inI ⟨al, ah⟩ ⟨0, 3⟩ = B := ⟨_, rfl⟩
  rw [hB] at HI ⊢
  have HK := Lib.hid (fun W => implCellIndexes W)
  clear hB
  go_enter Try.func27, Try.ntmps27
  go_wp2_with fail
  refine (HC.out _).mono ?_
  rintro e w1 ⟨rfl, g1⟩
  have hG := show Grew w w1 from grew_tr (by repeat (first | with_reducible exact Below.refl _ _ | with_reducible assumption | with_reducible apply grew_ext | with_reducible apply grew_al | with_reducible apply grew_dn | with_reducible apply grew_d | (with_reducible refine grew_set ?_ (by first | omega | (repeat (first | with_reducible exact Nat.le_refl _ | with_reducible apply le_pl | with_reducible apply le_ext | with_reducible apply le_al))) _))) g1
  have HG := Lib.hid hG
  obtain ⟨a0, a1⟩ := st_cell (hBk.grew hG) h4 hxa
  have ls := (hBk.grew hG).lt
  clear g1 hG hBk ho h4 hxa ao hXa ha
  go_wp2_with fail
  first | refine wp_region_ext2 (by kernel_rfl) (by kernel_rfl) ?_ | refine wp_region_ext (by kernel_rfl) (by kernel_rfl) ?_
  repeat (go_big_quiet_step ((first | (with_reducible exact ext_grow (HI.out _)) | (with_reducible exact ext_grow (HK.out _)))))
  refine wpQuiet_nil ?_
  intro _ hw'
  obtain ⟨u, hw''⟩ := hw'
  subst hw''
  cases B
  all_goals
    go_wp2
    go_ret
    refine ⟨by simp, ?_⟩
    have hg := HG.out
    repeat (first | with_reducible exact Below.refl _ _ | with_reducible assumption | with_reducible apply grew_ext | with_reducible apply grew_al | with_reducible apply grew_dn | with_reducible apply grew_d | (with_reducible refine grew_set ?_ (by first | omega | (repeat (first | with_reducible exact Nat.le_refl _ | with_reducible apply le_pl | with_reducible apply le_ext | with_reducible apply le_al))) _))
set_option maxHeartbeats 2000000 in
theorem implFails10 (sb : Nat) (pa : Option Addr) (pn pc : Nat) (d a b rel lo hi to : Int) (xs : List Itv) (slo shi : Int) (w : World) (hBk : Blk w sb 82 (stC xs slo shi)) (ho : stOkB true xs slo shi = true) (ha : varB a = true) (ps : List Prc) (hr : RdP w pa pn ps) (hp : prgOkB ps = true) (h0 : 0 ≤ to) (h1 : to < pn) :
    Calls Try.prog 27 #[.pointer (some ⟨sb, 0, none⟩), .agg #[.slice pa pn pc], Ins.v ⟨10, d, a, b, rel, lo, hi, to⟩] w fun e w' => e = .returned (.bool (!inI (nthI xs a) (prcI ps to))) ∧ Grew w w' := by
  have h4 : xs.length = 4 := by obtain ⟨_, x0, x1, x2, x3, rfl, _⟩ := st_four ho; rfl
  have ao := nthI_ok ho ha
  obtain ⟨aj, hea, hja, hxa⟩ := nthI_get h4 ha
  obtain ⟨⟨al, ah⟩, hXa⟩ : ∃ x, nthI xs a = x := ⟨_, rfl⟩
  rw [hXa] at ao hxa ⊢
  subst hea
  obtain ⟨k, p, rfl, hk, hpk, he⟩ := prcI_get h0 (by rw [hr.len]; exact h1)
  have hpo := prgOk_prc hp (List.mem_of_getElem? hpk)
  rw [he]
  have HC : Hid (∀ W, Calls Try.prog 46 #[Ins.v ⟨10, d, ↑aj, b, rel, lo, hi, ↑k⟩] W fun e w' => e = .returned (.iface 98 (.agg #[.int .i64 d, .int .i64 ↑aj, .int .i64 (k : Int)])) ∧ Grew W w') := Lib.hid (fun W => codeOf ⟨10, d, ↑aj, b, rel, lo, hi, ↑k⟩ W)
  have hk' : k < pn := by omega
  have HR := Lib.hid hr
  obtain ⟨pb, off, plo, phi, is, ia, ic, rfl, hx, c0, c1, c2, hbb, hi1, hi2, hi3⟩ := rdP_at (hr.grew (Below.refl _ _)) hk'
  rw [hx] at hpk
  cases hpk
  have HI := Lib.hid (fun W => implItvIn ⟨al, ah⟩ ⟨plo, phi⟩ W ao hpo)
  simp only at HI ⊢
  obtain ⟨B, hB⟩ : ∃ B, inI ⟨al, ah⟩ ⟨plo, phi⟩ = B := ⟨_, rfl⟩
  rw [hB] at HI ⊢
  have HK := Lib.hid (fun v W => prcItv plo phi v W)
  have HCE := Lib.hid (fun W (g : Grew w W) => (⟨(g.cell (p := ⟨pb, off + k * 3, none⟩) hbb).trans c0, (g.cell (p := ⟨pb, off + k * 3 + 1, none⟩) hbb).trans c1, (g.cell (p := ⟨pb, off + k * 3 + 2, none⟩) hbb).trans c2⟩ : W.cell? ⟨pb, off + k * 3, none⟩ = some (.int .i64 plo) ∧ W.cell? ⟨pb, off + k * 3 + 1, none⟩ = some (.int .i64 phi) ∧ W.cell? ⟨pb, off + k * 3 + 2, none⟩ = some (.slice ia is.length ic)))
  clear hB c0 c1 c2 hi1 hi2 hi3 he hr hp hpo h0 h1
  go_enter Try.func27, Try.ntmps27
  go_wp2_with fail
  refine (HC.out _).mono ?_
  rintro e w1 ⟨rfl, g1⟩
  have hG := show Grew w w1 from grew_tr (by repeat (first | with_reducible exact Below.refl _ _ | with_reducible assumption | with_reducible apply grew_ext | with_reducible apply grew_al | with_reducible apply grew_dn | with_reducible apply grew_d | (with_reducible refine grew_set ?_ (by first | omega | (repeat (first | with_reducible exact Nat.le_refl _ | with_reducible apply le_pl | with_reducible apply le_ext | with_reducible apply le_al))) _))) g1
  have HG := Lib.hid hG
  obtain ⟨a0, a1⟩ := st_cell (hBk.grew hG) h4 hxa
  have ls := (hBk.grew hG).lt
  obtain ⟨c0, c1, c2⟩ := HCE.out _ hG
  have lb := Nat.lt_of_lt_of_le hbb hG.size
  have p0 : w1.cell? ⟨w.heap.size, 0, none⟩ = some (.slice (some ⟨pb, off, none⟩) pn pc) := (g1.cell (p := ⟨w.heap.size, 0, none⟩) (by simp only [World.size_alloc]; omega)).trans (by simp [go_sem])
  have lw : w.heap.size < w1.heap.size := by have := g1.size; simp only [World.size_alloc] at this; omega
  clear g1 hG hBk ho h4 hxa ao hXa ha
  go_wp2_with fail
  first | refine wp_region_ext2 (by kernel_rfl) (by kernel_rfl) ?_ | refine wp_region_ext (by kernel_rfl) (by kernel_rfl) ?_
  repeat (go_big_quiet_step ((first | (with_reducible exact ext_grow (HI.out _)) | (with_reducible exact ext_grow (HK.out _ _)))))
  refine wpQuiet_nil ?_
  intro _ hw'
  obtain ⟨u, hw''⟩ := hw'
  subst hw''
  cases B
  all_goals
    go_wp2
    go_ret
    refine ⟨by simp, ?_⟩
    have hg := HG.out
    repeat (first | with_reducible exact Below.refl _ _ | with_reducible assumption | with_reducible apply grew_ext | with_reducible apply grew_al | with_reducible apply grew_dn | with_reducible apply grew_d | (with_reducible refine grew_set ?_ (by first | omega | (repeat (first | with_reducible exact Nat.le_refl _ | with_reducible apply le_pl | with_reducible apply le_ext | with_reducible apply le_al))) _))
set_option maxRecDepth 100000 in
set_option maxHeartbeats 4000000 in
theorem implFails11 (sb : Nat) (pa : Option Addr) (pn pc : Nat) (d a b rel lo hi to : Int) (xs : List Itv) (slo shi : Int) (w : World) (hBk : Blk w sb 82 (stC xs slo shi)) (ho : stOkB true xs slo shi = true) (ha : varB a = true) (hb : varB b = true) (hrel : 1 ≤ rel ∧ rel ≤ 4) :
    Calls Try.prog 27 #[.pointer (some ⟨sb, 0, none⟩), .agg #[.slice pa pn pc], Ins.v ⟨11, d, a, b, rel, lo, hi, to⟩] w fun e w' => e = .returned (.bool ((notI rel (nthI xs a) (nthI xs b)).isSome)) ∧ Grew w w' := by
  have h4 : xs.length = 4 := by obtain ⟨_, x0, x1, x2, x3, rfl, _⟩ := st_four ho; rfl
  have ao := nthI_ok ho ha
  obtain ⟨aj, hea, hja, hxa⟩ := nthI_get h4 ha
  obtain ⟨⟨al, ah⟩, hXa⟩ : ∃ x, nthI xs a = x := ⟨_, rfl⟩
  rw [hXa] at ao hxa ⊢
  have bo := nthI_ok ho hb
  obtain ⟨bj, heb, hjb, hxb⟩ := nthI_get h4 hb
  obtain ⟨⟨bl, bh⟩, hXb⟩ : ∃ x, nthI xs b = x := ⟨_, rfl⟩
  rw [hXb] at bo hxb ⊢
  subst hea heb
  have HC : Hid (∀ W, Calls Try.prog 46 #[Ins.v ⟨11, d, ↑aj, ↑bj, rel, lo, hi, to⟩] W fun e w' => e = .returned (.iface 100 (.agg #[.int .i64 rel, .int .i64 ↑aj, .int .i64 (bj : Int)])) ∧ Grew W w') := Lib.hid (fun W => codeOf ⟨11, d, ↑aj, ↑bj, rel, lo, hi, to⟩ W)
  have HI := Lib.hid (fun W => implItvNot rel ⟨al, ah⟩ ⟨bl, bh⟩ W hrel ao bo)
  rw [relV_eq] at HI
  obtain ⟨O, hO⟩ : ∃ O, notI rel ⟨al, ah⟩ ⟨bl, bh⟩ = O := ⟨_, rfl⟩
  rw [hO] at HI ⊢
  obtain ⟨⟨xl, xh⟩, hx⟩ : ∃ x, rA O = x := ⟨_, rfl⟩
  obtain ⟨⟨yl, yh⟩, hy⟩ : ∃ x, rB O = x := ⟨_, rfl⟩
  obtain ⟨B, hB⟩ : ∃ x, O.isSome = x := ⟨_, rfl⟩
  rw [hx, hy, hB] at HI
  rw [hB]
  clear hO hx hy hB
  go_enter Try.func27, Try.ntmps27
  go_wp2_with fail
  refine (HC.out _).mono ?_
  rintro e w1 ⟨rfl, g1⟩
  have hG := show Grew w w1 from grew_tr (by repeat (first | with_reducible exact Below.refl _ _ | with_reducible assumption | with_reducible apply grew_ext | with_reducible apply grew_al | with_reducible apply grew_dn | with_reducible apply grew_d | (with_reducible refine grew_set ?_ (by first | omega | (repeat (first | with_reducible exact Nat.le_refl _ | with_reducible apply le_pl | with_reducible apply le_ext | with_reducible apply le_al))) _))) g1
  have HG := Lib.hid hG
  obtain ⟨a0, a1⟩ := st_cell (hBk.grew hG) h4 hxa
  obtain ⟨b0, b1⟩ := st_cell (hBk.grew hG) h4 hxb
  have ls := (hBk.grew hG).lt
  clear g1 hG hBk hb ho h4 hxa hxb ao bo hXa hXb ha
  go_upto_region 16 with fail
  refine wp_letH ?_
  intro E hE
  have q0 : E.cell? ⟨w1.heap.size, 0, none⟩ = some (.int .i64 rel) := by rw [hE]; simp [go_sem]
  have q1 : E.cell? ⟨w1.heap.size, 1, none⟩ = some (.int .i64 (aj : Int)) := by rw [hE]; simp [go_sem]
  have q2 : E.cell? ⟨w1.heap.size, 2, none⟩ = some (.int .i64 (bj : Int)) := by rw [hE]; simp [go_sem]
  have q3 : E.cell? ⟨sb, aj * 2, none⟩ = some (.int .i64 al) := by rw [hE]; simp [go_sem, a0, ls]
  have q4 : E.cell? ⟨sb, aj * 2 + 1, none⟩ = some (.int .i64 ah) := by rw [hE]; simp [go_sem, a1, ls]
  have q5 : E.cell? ⟨sb, bj * 2, none⟩ = some (.int .i64 bl) := by rw [hE]; simp [go_sem, b0, ls]
  have q6 : E.cell? ⟨sb, bj * 2 + 1, none⟩ = some (.int .i64 bh) := by rw [hE]; simp [go_sem, b1, ls]
  have GE : Grew w1 E := by rw [hE]; repeat (first | with_reducible exact Below.refl _ _ | with_reducible assumption | with_reducible apply grew_ext | with_reducible apply grew_al | with_reducible apply grew_dn | with_reducible apply grew_d | (with_reducible refine grew_set ?_ (by first | omega | (repeat (first | with_reducible exact Nat.le_refl _ | with_reducible apply le_pl | with_reducible apply le_ext | with_reducible apply le_al))) _))
  have haq : ¬ (4 : Int) ≤ (aj : Int) := by omega
  have hbq : ¬ (4 : Int) ≤ (bj : Int) := by omega
  clear hE a0 a1 b0 b1
  refine region_box 103 [⟨some 21, 0, 23, 42, #[.int .i64 0, .int .i64 0], #[.int .i64 xl, .int .i64 xh]⟩, ⟨some 22, 0, 24, 42, #[.int .i64 0, .int .i64 0], #[.int .i64 yl, .int .i64 yh]⟩] (fun i => ([.pointer (some ⟨w1.heap.size, 0, none⟩), .int .i64 rel, .pointer (some ⟨sb, 0, none⟩), .pointer (some ⟨w1.heap.size, 1, none⟩), .int .i64 (aj : Int), .pointer (some ⟨sb, 0, none⟩), .pointer (some ⟨sb, 0, none⟩), .pointer (some ⟨sb, aj * 2, none⟩), .agg #[.int .i64 al, .int .i64 ah], .pointer (some ⟨sb, 0, none⟩), .pointer (some ⟨w1.heap.size, 2, none⟩), .int .i64 (bj : Int), .pointer (some ⟨sb, 0, none⟩), .pointer (some ⟨sb, 0, none⟩), .pointer (some ⟨sb, bj * 2, none⟩), .agg #[.int .i64 bl, .int .i64 bh], .tuple #[.agg #[.int .i64 xl, .int .i64 xh], .agg #[.int .i64 yl, .int .i64 yh], .bool B], .tuple #[.agg #[.int .i64 xl, .int .i64 xh], .agg #[.int .i64 yl, .int .i64 yh], .bool B], .agg #[.int .i64 xl, .int .i64 xh], .agg #[.int .i64 yl, .int .i64 yh], .bool B, undef, undef, undef, undef, .bool B] : List Value).getD i undef) (by kernel_rfl) rfl (by kernel_rfl) rfl (by intro b hb ha; simp only [List.mem_cons, List.not_mem_nil, or_false] at hb; rcases hb with rfl | rfl <;> first | (cases ha; done) | assumption) (by intro j k b c hjk hj hk hb hc; rcases j with _ | _ | j <;> rcases k with _ | _ | k <;> simp at hj hk hjk <;> (try subst hj) <;> (try subst hk) <;> first | (cases hb; done) | (cases hc; done) | (simp only; omega)) ⟨?_, ?_, ?_, ?_, ?_, ?_, ?_, ?_, ?_, ?_, ?_, ?_, ?_, ?_, ?_, ?_, ?_, ?_, ?_, ?_, ?_, ?_, ?_, ?_, ?_, ?_, trivial⟩ ?_
  · exact b_val rfl rfl (fun gm a W h => by have e11 : a.eval (.tmp 11) = .pointer (some ⟨w1.heap.size, 0, none⟩) := (h.slot 11 (by kernel_rfl)).trans rfl; simp only [execOp, e11]; first | (simp [go_sem, haq, hbq]; done) | (simp [go_sem, haq, hbq]; exact wrapIn (by omega) (by omega)) | (simp [go_sem, haq, hbq]; rfl) | kernel_rfl)
  · exact b_val rfl rfl (fun gm a W h => by have e82 : a.eval (.tmp 82) = .pointer (some ⟨w1.heap.size, 0, none⟩) := (h.val (k := 0) (d := 82) ⟨⟨⟨0, .data⟩, by simp, rfl, by kernel_rfl⟩, by kernel_rfl⟩).trans rfl; have kq0 := h.cell q0 (by rintro ⟨b, hb, ha, e⟩; simp only [List.mem_cons, List.not_mem_nil, or_false] at hb; rcases hb with rfl | rfl <;> first | (cases ha; done) | (simp only at e; omega)); have kq1 := h.cell q1 (by rintro ⟨b, hb, ha, e⟩; simp only [List.mem_cons, List.not_mem_nil, or_false] at hb; rcases hb with rfl | rfl <;> first | (cases ha; done) | (simp only at e; omega)); have kq2 := h.cell q2 (by rintro ⟨b, hb, ha, e⟩; simp only [List.mem_cons, List.not_mem_nil, or_false] at hb; rcases hb with rfl | rfl <;> first | (cases ha; done) | (simp only at e; omega)); have kq3 := h.cell q3 (by rintro ⟨b, hb, ha, e⟩; simp only [List.mem_cons, List.not_mem_nil, or_false] at hb; rcases hb with rfl | rfl <;> first | (cases ha; done) | (simp only at e; omega)); have kq4 := h.cell q4 (by rintro ⟨b, hb, ha, e⟩; simp only [List.mem_cons, List.not_mem_nil, or_false] at hb; rcases hb with rfl | rfl <;> first | (cases ha; done) | (simp only at e; omega)); have kq5 := h.cell q5 (by rintro ⟨b, hb, ha, e⟩; simp only [List.mem_cons, List.not_mem_nil, or_false] at hb; rcases hb with rfl | rfl <;> first | (cases ha; done) | (simp only at e; omega)); have kq6 := h.cell q6 (by rintro ⟨b, hb, ha, e⟩; simp only [List.mem_cons, List.not_mem_nil, or_false] at hb; rcases hb with rfl | rfl <;> first | (cases ha; done) | (simp only at e; omega)); simp only [execOp, e82]; first | (simp [go_sem, kq0, kq1, kq2, kq3, kq4, kq5, kq6, haq, hbq]; done) | (simp [go_sem, kq0, kq1, kq2, kq3, kq4, kq5, kq6, haq, hbq]; exact wrapIn (by omega) (by omega)) | (simp [go_sem, kq0, kq1, kq2, kq3, kq4, kq5, kq6, haq, hbq]; rfl) | kernel_rfl)
  · exact b_val rfl rfl (fun gm a W h => by have e0 : a.eval (.tmp 0) = .pointer (some ⟨sb, 0, none⟩) := (h.slot 0 (by kernel_rfl)).trans rfl; simp only [execOp, e0]; first | (simp [go_sem, haq, hbq]; done) | (simp [go_sem, haq, hbq]; exact wrapIn (by omega) (by omega)) | (simp [go_sem, haq, hbq]; rfl) | kernel_rfl)
  · exact b_val rfl rfl (fun gm a W h => by have e11 : a.eval (.tmp 11) = .pointer (some ⟨w1.heap.size, 0, none⟩) := (h.slot 11 (by kernel_rfl)).trans rfl; simp only [execOp, e11]; first | (simp [go_sem, haq, hbq]; done) | (simp [go_sem, haq, hbq]; exact wrapIn (by omega) (by omega)) | (simp [go_sem, haq, hbq]; rfl) | kernel_rfl)
  · exact b_val rfl rfl (fun gm a W h => by have e85 : a.eval (.tmp 85) = .pointer (some ⟨w1.heap.size, 1, none⟩) := (h.val (k := 3) (d := 85) ⟨⟨⟨3, .data⟩, by simp, rfl, by kernel_rfl⟩, by kernel_rfl⟩).trans rfl; have kq0 := h.cell q0 (by rintro ⟨b, hb, ha, e⟩; simp only [List.mem_cons, List.not_mem_nil, or_false] at hb; rcases hb with rfl | rfl <;> first | (cases ha; done) | (simp only at e; omega)); have kq1 := h.cell q1 (by rintro ⟨b, hb, ha, e⟩; simp only [List.mem_cons, List.not_mem_nil, or_false] at hb; rcases hb with rfl | rfl <;> first | (cases ha; done) | (simp only at e; omega)); have kq2 := h.cell q2 (by rintro ⟨b, hb, ha, e⟩; simp only [List.mem_cons, List.not_mem_nil, or_false] at hb; rcases hb with rfl | rfl <;> first | (cases ha; done) | (simp only at e; omega)); have kq3 := h.cell q3 (by rintro ⟨b, hb, ha, e⟩; simp only [List.mem_cons, List.not_mem_nil, or_false] at hb; rcases hb with rfl | rfl <;> first | (cases ha; done) | (simp only at e; omega)); have kq4 := h.cell q4 (by rintro ⟨b, hb, ha, e⟩; simp only [List.mem_cons, List.not_mem_nil, or_false] at hb; rcases hb with rfl | rfl <;> first | (cases ha; done) | (simp only at e; omega)); have kq5 := h.cell q5 (by rintro ⟨b, hb, ha, e⟩; simp only [List.mem_cons, List.not_mem_nil, or_false] at hb; rcases hb with rfl | rfl <;> first | (cases ha; done) | (simp only at e; omega)); have kq6 := h.cell q6 (by rintro ⟨b, hb, ha, e⟩; simp only [List.mem_cons, List.not_mem_nil, or_false] at hb; rcases hb with rfl | rfl <;> first | (cases ha; done) | (simp only at e; omega)); simp only [execOp, e85]; first | (simp [go_sem, kq0, kq1, kq2, kq3, kq4, kq5, kq6, haq, hbq]; done) | (simp [go_sem, kq0, kq1, kq2, kq3, kq4, kq5, kq6, haq, hbq]; exact wrapIn (by omega) (by omega)) | (simp [go_sem, kq0, kq1, kq2, kq3, kq4, kq5, kq6, haq, hbq]; rfl) | kernel_rfl)
  · exact b_val rfl rfl (fun gm a W h => by have e84 : a.eval (.tmp 84) = .pointer (some ⟨sb, 0, none⟩) := (h.val (k := 2) (d := 84) ⟨⟨⟨2, .data⟩, by simp, rfl, by kernel_rfl⟩, by kernel_rfl⟩).trans rfl; simp only [execOp, e84]; first | (simp [go_sem, haq, hbq]; done) | (simp [go_sem, haq, hbq]; exact wrapIn (by omega) (by omega)) | (simp [go_sem, haq, hbq]; rfl) | kernel_rfl)
  · exact b_val rfl rfl (fun gm a W h => by have e87 : a.eval (.tmp 87) = .pointer (some ⟨sb, 0, none⟩) := (h.val (k := 5) (d := 87) ⟨⟨⟨5, .data⟩, by simp, rfl, by kernel_rfl⟩, by kernel_rfl⟩).trans rfl; simp only [execOp, e87]; first | (simp [go_sem, haq, hbq]; done) | (simp [go_sem, haq, hbq]; exact wrapIn (by omega) (by omega)) | (simp [go_sem, haq, hbq]; rfl) | kernel_rfl)
  · exact b_val rfl rfl (fun gm a W h => by have e88 : a.eval (.tmp 88) = .pointer (some ⟨sb, 0, none⟩) := (h.val (k := 6) (d := 88) ⟨⟨⟨6, .data⟩, by simp, rfl, by kernel_rfl⟩, by kernel_rfl⟩).trans rfl; have e86 : a.eval (.tmp 86) = .int .i64 (aj : Int) := (h.val (k := 4) (d := 86) ⟨⟨⟨4, .data⟩, by simp, rfl, by kernel_rfl⟩, by kernel_rfl⟩).trans rfl; simp only [execOp, e88, e86]; first | (simp [go_sem, haq, hbq]; done) | (simp [go_sem, haq, hbq]; exact wrapIn (by omega) (by omega)) | (simp [go_sem, haq, hbq]; rfl) | kernel_rfl)
  · exact b_val rfl rfl (fun gm a W h => by have e89 : a.eval (.tmp 89) = .pointer (some ⟨sb, aj * 2, none⟩) := (h.val (k := 7) (d := 89) ⟨⟨⟨7, .data⟩, by simp, rfl, by kernel_rfl⟩, by kernel_rfl⟩).trans rfl; have kq0 := h.cell q0 (by rintro ⟨b, hb, ha, e⟩; simp only [List.mem_cons, List.not_mem_nil, or_false] at hb; rcases hb with rfl | rfl <;> first | (cases ha; done) | (simp only at e; omega)); have kq1 := h.cell q1 (by rintro ⟨b, hb, ha, e⟩; simp only [List.mem_cons, List.not_mem_nil, or_false] at hb; rcases hb with rfl | rfl <;> first | (cases ha; done) | (simp only at e; omega)); have kq2 := h.cell q2 (by rintro ⟨b, hb, ha, e⟩; simp only [List.mem_cons, List.not_mem_nil, or_false] at hb; rcases hb with rfl | rfl <;> first | (cases ha; done) | (simp only at e; omega)); have kq3 := h.cell q3 (by rintro ⟨b, hb, ha, e⟩; simp only [List.mem_cons, List.not_mem_nil, or_false] at hb; rcases hb with rfl | rfl <;> first | (cases ha; done) | (simp only at e; omega)); have kq4 := h.cell q4 (by rintro ⟨b, hb, ha, e⟩; simp only [List.mem_cons, List.not_mem_nil, or_false] at hb; rcases hb with rfl | rfl <;> first | (cases ha; done) | (simp only at e; omega)); have kq5 := h.cell q5 (by rintro ⟨b, hb, ha, e⟩; simp only [List.mem_cons, List.not_mem_nil, or_false] at hb; rcases hb with rfl | rfl <;> first | (cases ha; done) | (simp only at e; omega)); have kq6 := h.cell q6 (by rintro ⟨b, hb, ha, e⟩; simp only [List.mem_cons, List.not_mem_nil, or_false] at hb; rcases hb with rfl | rfl <;> first | (cases ha; done) | (simp only at e; omega)); simp only [execOp, e89]; first | (simp [go_sem, kq0, kq1, kq2, kq3, kq4, kq5, kq6, haq, hbq]; done) | (simp [go_sem, kq0, kq1, kq2, kq3, kq4, kq5, kq6, haq, hbq]; exact wrapIn (by omega) (by omega)) | (simp [go_sem, kq0, kq1, kq2, kq3, kq4, kq5, kq6, haq, hbq]; rfl) | kernel_rfl)
  · exact b_val rfl rfl (fun gm a W h => by have e0 : a.eval (.tmp 0) = .pointer (some ⟨sb, 0, none⟩) := (h.slot 0 (by kernel_rfl)).trans rfl; simp only [execOp, e0]; first | (simp [go_sem, haq, hbq]; done) | (simp [go_sem, haq, hbq]; exact wrapIn (by omega) (by omega)) | (simp [go_sem, haq, hbq]; rfl) | kernel_rfl)
  · exact b_val rfl rfl (fun gm a W h => by have e11 : a.eval (.tmp 11) = .pointer (some ⟨w1.heap.size, 0, none⟩) := (h.slot 11 (by kernel_rfl)).trans rfl; simp only [execOp, e11]; first | (simp [go_sem, haq, hbq]; done) | (simp [go_sem, haq, hbq]; exact wrapIn (by omega) (by omega)) | (simp [go_sem, haq, hbq]; rfl) | kernel_rfl)
  · exact b_val rfl rfl (fun gm a W h => by have e92 : a.eval (.tmp 92) = .pointer (some ⟨w1.heap.size, 2, none⟩) := (h.val (k := 10) (d := 92) ⟨⟨⟨10, .data⟩, by simp, rfl, by kernel_rfl⟩, by kernel_rfl⟩).trans rfl; have kq0 := h.cell q0 (by rintro ⟨b, hb, ha, e⟩; simp only [List.mem_cons, List.not_mem_nil, or_false] at hb; rcases hb with rfl | rfl <;> first | (cases ha; done) | (simp only at e; omega)); have kq1 := h.cell q1 (by rintro ⟨b, hb, ha, e⟩; simp only [List.mem_cons, List.not_mem_nil, or_false] at hb; rcases hb with rfl | rfl <;> first | (cases ha; done) | (simp only at e; omega)); have kq2 := h.cell q2 (by rintro ⟨b, hb, ha, e⟩; simp only [List.mem_cons, List.not_mem_nil, or_false] at hb; rcases hb with rfl | rfl <;> first | (cases ha; done) | (simp only at e; omega)); have kq3 := h.cell q3 (by rintro ⟨b, hb, ha, e⟩; simp only [List.mem_cons, List.not_mem_nil, or_false] at hb; rcases hb with rfl | rfl <;> first | (cases ha; done) | (simp only at e; omega)); have kq4 := h.cell q4 (by rintro ⟨b, hb, ha, e⟩; simp only [List.mem_cons, List.not_mem_nil, or_false] at hb; rcases hb with rfl | rfl <;> first | (cases ha; done) | (simp only at e; omega)); have kq5 := h.cell q5 (by rintro ⟨b, hb, ha, e⟩; simp only [List.mem_cons, List.not_mem_nil, or_false] at hb; rcases hb with rfl | rfl <;> first | (cases ha; done) | (simp only at e; omega)); have kq6 := h.cell q6 (by rintro ⟨b, hb, ha, e⟩; simp only [List.mem_cons, List.not_mem_nil, or_false] at hb; rcases hb with rfl | rfl <;> first | (cases ha; done) | (simp only at e; omega)); simp only [execOp, e92]; first | (simp [go_sem, kq0, kq1, kq2, kq3, kq4, kq5, kq6, haq, hbq]; done) | (simp [go_sem, kq0, kq1, kq2, kq3, kq4, kq5, kq6, haq, hbq]; exact wrapIn (by omega) (by omega)) | (simp [go_sem, kq0, kq1, kq2, kq3, kq4, kq5, kq6, haq, hbq]; rfl) | kernel_rfl)
  · exact b_val rfl rfl (fun gm a W h => by have e91 : a.eval (.tmp 91) = .pointer (some ⟨sb, 0, none⟩) := (h.val (k := 9) (d := 91) ⟨⟨⟨9, .data⟩, by simp, rfl, by kernel_rfl⟩, by kernel_rfl⟩).trans rfl; simp only [execOp, e91]; first | (simp [go_sem, haq, hbq]; done) | (simp [go_sem, haq, hbq]; exact wrapIn (by omega) (by omega)) | (simp [go_sem, haq, hbq]; rfl) | kernel_rfl)
  · exact b_val rfl rfl (fun gm a W h => by have e94 : a.eval (.tmp 94) = .pointer (some ⟨sb, 0, none⟩) := (h.val (k := 12) (d := 94) ⟨⟨⟨12, .data⟩, by simp, rfl, by kernel_rfl⟩, by kernel_rfl⟩).trans rfl; simp only [execOp, e94]; first | (simp [go_sem, haq, hbq]; done) | (simp [go_sem, haq, hbq]; exact wrapIn (by omega) (by omega)) | (simp [go_sem, haq, hbq]; rfl) | kernel_rfl)
  · exact b_val rfl rfl (fun gm a W h => by have e95 : a.eval (.tmp 95) = .pointer (some ⟨sb, 0, none⟩) := (h.val (k := 13) (d := 95) ⟨⟨⟨13, .data⟩, by simp, rfl, by kernel_rfl⟩, by kernel_rfl⟩).trans rfl; have e93 : a.eval (.tmp 93) = .int .i64 (bj : Int) := (h.val (k := 11) (d := 93) ⟨⟨⟨11, .data⟩, by simp, rfl, by kernel_rfl⟩, by kernel_rfl⟩).trans rfl; simp only [execOp, e95, e93]; first | (simp [go_sem, haq, hbq]; done) | (simp [go_sem, haq, hbq]; exact wrapIn (by omega) (by omega)) | (simp [go_sem, haq, hbq]; rfl) | kernel_rfl)
  · exact b_val rfl rfl (fun gm a W h => by have e96 : a.eval (.tmp 96) = .pointer (some ⟨sb, bj * 2, none⟩) := (h.val (k := 14) (d := 96) ⟨⟨⟨14, .data⟩, by simp, rfl, by kernel_rfl⟩, by kernel_rfl⟩).trans rfl; have kq0 := h.cell q0 (by rintro ⟨b, hb, ha, e⟩; simp only [List.mem_cons, List.not_mem_nil, or_false] at hb; rcases hb with rfl | rfl <;> first | (cases ha; done) | (simp only at e; omega)); have kq1 := h.cell q1 (by rintro ⟨b, hb, ha, e⟩; simp only [List.mem_cons, List.not_mem_nil, or_false] at hb; rcases hb with rfl | rfl <;> first | (cases ha; done) | (simp only at e; omega)); have kq2 := h.cell q2 (by rintro ⟨b, hb, ha, e⟩; simp only [List.mem_cons, List.not_mem_nil, or_false] at hb; rcases hb with rfl | rfl <;> first | (cases ha; done) | (simp only at e; omega)); have kq3 := h.cell q3 (by rintro ⟨b, hb, ha, e⟩; simp only [List.mem_cons, List.not_mem_nil, or_false] at hb; rcases hb with rfl | rfl <;> first | (cases ha; done) | (simp only at e; omega)); have kq4 := h.cell q4 (by rintro ⟨b, hb, ha, e⟩; simp only [List.mem_cons, List.not_mem_nil, or_false] at hb; rcases hb with rfl | rfl <;> first | (cases ha; done) | (simp only at e; omega)); have kq5 := h.cell q5 (by rintro ⟨b, hb, ha, e⟩; simp only [List.mem_cons, List.not_mem_nil, or_false] at hb; rcases hb with rfl | rfl <;> first | (cases ha; done) | (simp only at e; omega)); have kq6 := h.cell q6 (by rintro ⟨b, hb, ha, e⟩; simp only [List.mem_cons, List.not_mem_nil, or_false] at hb; rcases hb with rfl | rfl <;> first | (cases ha; done) | (simp only at e; omega)); simp only [execOp, e96]; first | (simp [go_sem, kq0, kq1, kq2, kq3, kq4, kq5, kq6, haq, hbq]; done) | (simp [go_sem, kq0, kq1, kq2, kq3, kq4, kq5, kq6, haq, hbq]; exact wrapIn (by omega) (by omega)) | (simp [go_sem, kq0, kq1, kq2, kq3, kq4, kq5, kq6, haq, hbq]; rfl) | kernel_rfl)
  · exact b_call rfl rfl (fun gm a W h => by
      have e83 : a.eval (.tmp 83) = .int .i64 rel := (h.val (k := 1) (d := 83) ⟨⟨⟨1, .data⟩, by simp, rfl, by kernel_rfl⟩, by kernel_rfl⟩).trans rfl
      have e90 : a.eval (.tmp 90) = .agg #[.int .i64 al, .int .i64 ah] := (h.val (k := 8) (d := 90) ⟨⟨⟨8, .data⟩, by simp, rfl, by kernel_rfl⟩, by kernel_rfl⟩).trans rfl
      have e97 : a.eval (.tmp 97) = .agg #[.int .i64 bl, .int .i64 bh] := (h.val (k := 15) (d := 97) ⟨⟨⟨15, .data⟩, by simp, rfl, by kernel_rfl⟩, by kernel_rfl⟩).trans rfl
      refine Eq.trans (b := .ok (.enter 53 #[a.eval (.tmp 83), a.eval (.tmp 90), a.eval (.tmp 97)]) W) (by kernel_rfl) ?_
      rw [e83, e90, e97]) (fun W => HI.out W)
  · exact b_val rfl rfl (fun gm a W h => by have e98 : a.eval (.tmp 98) = .tuple #[.agg #[.int .i64 xl, .int .i64 xh], .agg #[.int .i64 yl, .int .i64 yh], .bool B] := (h.val (k := 16) (d := 98) ⟨⟨⟨16, .data⟩, by simp, rfl, by kernel_rfl⟩, by kernel_rfl⟩).trans rfl; simp only [execOp, e98]; first | (simp [go_sem, haq, hbq]; done) | (simp [go_sem, haq, hbq]; exact wrapIn (by omega) (by omega)) | (simp [go_sem, haq, hbq]; rfl) | kernel_rfl)
  · exact b_val rfl rfl (fun gm a W h => by have e81 : a.eval (.tmp 81) = .tuple #[.agg #[.int .i64 xl, .int .i64 xh], .agg #[.int .i64 yl, .int .i64 yh], .bool B] := (h.val (k := 17) (d := 81) ⟨⟨⟨17, .data⟩, by simp, rfl, by kernel_rfl⟩, by kernel_rfl⟩).trans rfl; simp only [execOp, e81]; first | (simp [go_sem, haq, hbq]; done) | (simp [go_sem, haq, hbq]; exact wrapIn (by omega) (by omega)) | (simp [go_sem, haq, hbq]; rfl) | kernel_rfl)
  · exact b_val rfl rfl (fun gm a W h => by have e81 : a.eval (.tmp 81) = .tuple #[.agg #[.int .i64 xl, .int .i64 xh], .agg #[.int .i64 yl, .int .i64 yh], .bool B] := (h.val (k := 17) (d := 81) ⟨⟨⟨17, .data⟩, by simp, rfl, by kernel_rfl⟩, by kernel_rfl⟩).trans rfl; simp only [execOp, e81]; first | (simp [go_sem, haq, hbq]; done) | (simp [go_sem, haq, hbq]; exact wrapIn (by omega) (by omega)) | (simp [go_sem, haq, hbq]; rfl) | kernel_rfl)
  · exact b_val rfl rfl (fun gm a W h => by have e81 : a.eval (.tmp 81) = .tuple #[.agg #[.int .i64 xl, .int .i64 xh], .agg #[.int .i64 yl, .int .i64 yh], .bool B] := (h.val (k := 17) (d := 81) ⟨⟨⟨17, .data⟩, by simp, rfl, by kernel_rfl⟩, by kernel_rfl⟩).trans rfl; simp only [execOp, e81]; first | (simp [go_sem, haq, hbq]; done) | (simp [go_sem, haq, hbq]; exact wrapIn (by omega) (by omega)) | (simp [go_sem, haq, hbq]; rfl) | kernel_rfl)
  · exact b_alloc 0 _ rfl rfl rfl (by kernel_rfl) rfl (fun gm a W h => by kernel_rfl)
  · exact b_alloc 1 _ rfl rfl rfl (by kernel_rfl) rfl (fun gm a W h => by kernel_rfl)
  · refine b_store 0 _ rfl rfl rfl rfl (fun j hj => by cases hj; exact ⟨12, ⟨⟨⟨21, .data⟩, by simp, rfl, by kernel_rfl⟩, by kernel_rfl⟩⟩) rfl (fun gm a W h hold hb => ?_)
    have e12 : a.eval (.tmp 12) = .pointer (some ⟨gm 0, 0, none⟩) := (h.val (k := 21) (d := 12) ⟨⟨⟨21, .data⟩, by simp, rfl, by kernel_rfl⟩, by kernel_rfl⟩).trans rfl
    have e99 : a.eval (.tmp 99) = .agg #[.int .i64 xl, .int .i64 xh] := (h.val (k := 18) (d := 99) ⟨⟨⟨18, .data⟩, by simp, rfl, by kernel_rfl⟩, by kernel_rfl⟩).trans rfl
    simp only at hb
    have hf := fun j => hb.frozen j
    have c0 := hb.cell 0
    have c1 := hb.cell 1
    refine ⟨_, by (simp only [execOp, e12, e99]; simp [go_sem, hf, c0, c1, haq, hbq]; try rfl), (hb.set_ 0 _).set_ 1 _, chgs2 _ _ _ _ _ _⟩
  · refine b_store 1 _ rfl rfl rfl rfl (fun j hj => by cases hj; exact ⟨13, ⟨⟨⟨22, .data⟩, by simp, rfl, by kernel_rfl⟩, by kernel_rfl⟩⟩) rfl (fun gm a W h hold hb => ?_)
    have e13 : a.eval (.tmp 13) = .pointer (some ⟨gm 1, 0, none⟩) := (h.val (k := 22) (d := 13) ⟨⟨⟨22, .data⟩, by simp, rfl, by kernel_rfl⟩, by kernel_rfl⟩).trans rfl
    have e100 : a.eval (.tmp 100) = .agg #[.int .i64 yl, .int .i64 yh] := (h.val (k := 19) (d := 100) ⟨⟨⟨19, .data⟩, by simp, rfl, by kernel_rfl⟩, by kernel_rfl⟩).trans rfl
    simp only at hb
    have hf := fun j => hb.frozen j
    have c0 := hb.cell 0
    have c1 := hb.cell 1
    refine ⟨_, by (simp only [execOp, e13, e100]; simp [go_sem, hf, c0, c1, haq, hbq]; try rfl), (hb.set_ 0 _).set_ 1 _, chgs2 _ _ _ _ _ _⟩
  · exact b_val rfl rfl (fun gm a W h => by have e101 : a.eval (.tmp 101) = .bool B := (h.val (k := 20) (d := 101) ⟨⟨⟨20, .data⟩, by simp, rfl, by kernel_rfl⟩, by kernel_rfl⟩).trans rfl; simp only [execOp, e101]; first | (simp [go_sem, haq, hbq]; done) | (simp [go_sem, haq, hbq]; exact wrapIn (by omega) (by omega)) | (simp [go_sem, haq, hbq]; rfl) | kernel_rfl)
  intro gm vs w9 hc9 hb9 hold9 hge9 hv9
  have x0 : vs 0 = .pointer (some ⟨w1.heap.size, 0, none⟩) := (hv9 0 82 (by kernel_rfl)).trans rfl
  have x1 : vs 1 = .int .i64 rel := (hv9 1 83 (by kernel_rfl)).trans rfl
  have x2 : vs 2 = .pointer (some ⟨sb, 0, none⟩) := (hv9 2 84 (by kernel_rfl)).trans rfl
  have x3 : vs 3 = .pointer (some ⟨w1.heap.size, 1, none⟩) := (hv9 3 85 (by kernel_rfl)).trans rfl
  have x4 : vs 4 = .int .i64 (aj : Int) := (hv9 4 86 (by kernel_rfl)).trans rfl
  have x5 : vs 5 = .pointer (some ⟨sb, 0, none⟩) := (hv9 5 87 (by kernel_rfl)).trans rfl
  have x6 : vs 6 = .pointer (some ⟨sb, 0, none⟩) := (hv9 6 88 (by kernel_rfl)).trans rfl
  have x7 : vs 7 = .pointer (some ⟨sb, aj * 2, none⟩) := (hv9 7 89 (by kernel_rfl)).trans rfl
  have x8 : vs 8 = .agg #[.int .i64 al, .int .i64 ah] := (hv9 8 90 (by kernel_rfl)).trans rfl
  have x9 : vs 9 = .pointer (some ⟨sb, 0, none⟩) := (hv9 9 91 (by kernel_rfl)).trans rfl
  have x10 : vs 10 = .pointer (some ⟨w1.heap.size, 2, none⟩) := (hv9 10 92 (by kernel_rfl)).trans rfl
  have x11 : vs 11 = .int .i64 (bj : Int) := (hv9 11 93 (by kernel_rfl)).trans rfl
  have x12 : vs 12 = .pointer (some ⟨sb, 0, none⟩) := (hv9 12 94 (by kernel_rfl)).trans rfl
  have x13 : vs 13 = .pointer (some ⟨sb, 0, none⟩) := (hv9 13 95 (by kernel_rfl)).trans rfl
  have x14 : vs 14 = .pointer (some ⟨sb, bj * 2, none⟩) := (hv9 14 96 (by kernel_rfl)).trans rfl
  have x15 : vs 15 = .agg #[.int .i64 bl, .int .i64 bh] := (hv9 15 97 (by kernel_rfl)).trans rfl
  have x16 : vs 16 = .tuple #[.agg #[.int .i64 xl, .int .i64 xh], .agg #[.int .i64 yl, .int .i64 yh], .bool B] := (hv9 16 98 (by kernel_rfl)).trans rfl
  have x17 : vs 17 = .tuple #[.agg #[.int .i64 xl, .int .i64 xh], .agg #[.int .i64 yl, .int .i64 yh], .bool B] := (hv9 17 81 (by kernel_rfl)).trans rfl
  have x18 : vs 18 = .agg #[.int .i64 xl, .int .i64 xh] := (hv9 18 99 (by kernel_rfl)).trans rfl
  have x19 : vs 19 = .agg #[.int .i64 yl, .int .i64 yh] := (hv9 19 100 (by kernel_rfl)).trans rfl
  have x20 : vs 20 = .bool B := (hv9 20 101 (by kernel_rfl)).trans rfl
  have x21 : vs 21 = .pointer (some ⟨gm 0, 0, none⟩) := (hv9 21 12 (by kernel_rfl)).trans rfl
  have x22 : vs 22 = .pointer (some ⟨gm 1, 0, none⟩) := (hv9 22 13 (by kernel_rfl)).trans rfl
  have x25 : vs 25 = .bool B := (hv9 25 14 (by kernel_rfl)).trans rfl
  have y0 := hb9 0 _ rfl
  have g0 := hge9 0 _ 21 rfl rfl
  simp only at y0
  have y1 := hb9 1 _ rfl
  have g1 := hge9 1 _ 22 rfl rfl
  simp only at y1
  simp only [putAll, Act.put, List.setIfInBounds_toArray, List.set_cons_zero, List.set_cons_succ, Nat.zero_add, Nat.reduceAdd, x0, x1, x2, x3, x4, x5, x6, x7, x8, x9, x10, x11, x12, x13, x14, x15, x16, x17, x18, x19, x20, x21, x22, x25]
  clear hb9 hold9 hge9 hv9 x0 x1 x2 x3 x4 x5 x6 x7 x8 x9 x10 x11 x12 x13 x14 x15 x16 x17 x18 x19 x20 x21 x22 x25
  clear y0 y1
  have HG2 := Lib.hid (grew_tr HG.out (GE.trans (hc9.belowB GE.size (fun k hk => by obtain ⟨b, hb, ha, rfl⟩ := hk; simp only [List.mem_cons, List.not_mem_nil, or_false] at hb; rcases hb with rfl | rfl <;> cases ha))))
  clear hc9 GE q0 q1 q2 q3 q4 q5 q6
  go_wp2
  go_ret
  exact ⟨rfl, HG2.out⟩
end Go.Proofs.Ytpmfpgbpndobpaa
