/- May an instruction fail: the program's fails. No condition. -/
import Derived.Test.YtdddhnepanjmfaaGreatOr
import Derived.Test.YtdddhnepanjmfaaGreatKinds
import Derived.Test.YtdddhnepanjmfaaGreatStN
import Derived.Test.YtdddhnepanjmfaaGreatRegG
import Derived.Test.YtdddhnepanjmfaaGreatRelR
namespace Go.Proofs.YtdddhnepanjmfaaGreat
open Go.RowKit
set_option linter.unusedVariables false
set_option linter.unusedSimpArgs false
attribute [local go_sem] ext_cell ext_frozen ext_lt ext_le ext_le1 lt_s2 lt_s3 lt_s4 lt_s5 lt_s6 ext_lt1 ext_lt2 ext_lt3
attribute [local go_sem] asArith asNotArith asAny asNotAny asLoad asNotLoad asStore asNotStore asIf asNotIf asJump asNotJump asCall asNotCall asAssert asNotAssert asRet asNotRet

theorem implItvNot (rel : Int) (a b : Itv) (w : World) (h : 1 ≤ rel ∧ rel ≤ 4) (ha : itvB a = true) (hb : itvB b = true) :
    Calls Tryz.prog 131 #[.int .i64 rel, a.v, b.v] w fun e w' => e = .returned (relV (notI rel a b)) ∧ Grew w w' := by
  rcases (show rel = 1 ∨ rel = 2 ∨ rel = 3 ∨ rel = 4 from by omega) with rfl | rfl | rfl | rfl
  · exact implItvNot1 a b w ha hb
  · exact implItvNot2 a b w ha hb
  · exact implItvNot3 a b w ha hb
  · exact implItvNot4 a b w ha hb
set_option maxHeartbeats 2000000 in
theorem implFails5 (sb : Nat) (pa : Option Addr) (pn pc : Nat) (d a b rel lo hi to : Int) (xs : List Itv) (slo shi : Int) (w : World)  :
    Calls Tryz.prog 101 #[.pointer (some ⟨sb, 0, none⟩), .agg #[.slice pa pn pc], Ins.v ⟨5, d, a, b, rel, lo, hi, to⟩] w fun e w' => e = .returned (.bool (false)) ∧ Grew w w' := by
  have HC : Hid (∀ W, Calls Tryz.prog 120 #[Ins.v ⟨5, d, a, b, rel, lo, hi, to⟩] W fun e w' => e = .returned (.iface 192 (.agg #[.int .i64 d, .int .i64 lo, .int .i64 hi])) ∧ Grew W w') := Lib.hid (fun W => codeOf ⟨5, d, a, b, rel, lo, hi, to⟩ W)
  go_enter Tryz.func101, Tryz.ntmps101
  go_wp2_with fail
  refine (HC.out _).mono ?_
  rintro e w1 ⟨rfl, g1⟩
  have hG := show Grew w w1 from grew_tr (gr) g1
  have HG := Lib.hid hG
  clear g1 hG
  go_wp2
  go_ret
  refine ⟨rfl, ?_⟩
  have hg := HG.out
  exact gr
set_option maxHeartbeats 2000000 in
theorem implFails8 (sb : Nat) (pa : Option Addr) (pn pc : Nat) (d a b rel lo hi to : Int) (xs : List Itv) (slo shi : Int) (w : World)  :
    Calls Tryz.prog 101 #[.pointer (some ⟨sb, 0, none⟩), .agg #[.slice pa pn pc], Ins.v ⟨8, d, a, b, rel, lo, hi, to⟩] w fun e w' => e = .returned (.bool (false)) ∧ Grew w w' := by
  have HC : Hid (∀ W, Calls Tryz.prog 120 #[Ins.v ⟨8, d, a, b, rel, lo, hi, to⟩] W fun e w' => e = .returned (.iface 194 (.agg #[.int .i64 rel, .int .i64 a, .int .i64 b, .int .i64 to])) ∧ Grew W w') := Lib.hid (fun W => codeOf ⟨8, d, a, b, rel, lo, hi, to⟩ W)
  go_enter Tryz.func101, Tryz.ntmps101
  go_wp2_with fail
  refine (HC.out _).mono ?_
  rintro e w1 ⟨rfl, g1⟩
  have hG := show Grew w w1 from grew_tr (gr) g1
  have HG := Lib.hid hG
  clear g1 hG
  go_wp2
  go_ret
  refine ⟨rfl, ?_⟩
  have hg := HG.out
  exact gr
set_option maxHeartbeats 2000000 in
theorem implFails9 (sb : Nat) (pa : Option Addr) (pn pc : Nat) (d a b rel lo hi to : Int) (xs : List Itv) (slo shi : Int) (w : World)  :
    Calls Tryz.prog 101 #[.pointer (some ⟨sb, 0, none⟩), .agg #[.slice pa pn pc], Ins.v ⟨9, d, a, b, rel, lo, hi, to⟩] w fun e w' => e = .returned (.bool (false)) ∧ Grew w w' := by
  have HC : Hid (∀ W, Calls Tryz.prog 120 #[Ins.v ⟨9, d, a, b, rel, lo, hi, to⟩] W fun e w' => e = .returned (.iface 196 (.agg #[.int .i64 to])) ∧ Grew W w') := Lib.hid (fun W => codeOf ⟨9, d, a, b, rel, lo, hi, to⟩ W)
  go_enter Tryz.func101, Tryz.ntmps101
  go_wp2_with fail
  refine (HC.out _).mono ?_
  rintro e w1 ⟨rfl, g1⟩
  have hG := show Grew w w1 from grew_tr (gr) g1
  have HG := Lib.hid hG
  clear g1 hG
  go_wp2
  go_ret
  refine ⟨rfl, ?_⟩
  have hg := HG.out
  exact gr
set_option maxHeartbeats 2000000 in
theorem implFails12 (sb : Nat) (pa : Option Addr) (pn pc : Nat) (d a b rel lo hi to : Int) (xs : List Itv) (slo shi : Int) (w : World)  :
    Calls Tryz.prog 101 #[.pointer (some ⟨sb, 0, none⟩), .agg #[.slice pa pn pc], Ins.v ⟨12, d, a, b, rel, lo, hi, to⟩] w fun e w' => e = .returned (.bool (false)) ∧ Grew w w' := by
  have HC : Hid (∀ W, Calls Tryz.prog 120 #[Ins.v ⟨12, d, a, b, rel, lo, hi, to⟩] W fun e w' => e = .returned (.iface 229 (.agg #[.int .i64 a])) ∧ Grew W w') := Lib.hid (fun W => codeOf ⟨12, d, a, b, rel, lo, hi, to⟩ W)
  go_enter Tryz.func101, Tryz.ntmps101
  go_wp2_with fail
  refine (HC.out _).mono ?_
  rintro e w1 ⟨rfl, g1⟩
  have hG := show Grew w w1 from grew_tr (gr) g1
  have HG := Lib.hid hG
  clear g1 hG
  go_wp2
  go_ret
  refine ⟨rfl, ?_⟩
  have hg := HG.out
  exact gr
set_option maxHeartbeats 2000000 in
theorem implFails1 (sb : Nat) (pa : Option Addr) (pn pc : Nat) (d a b rel lo hi to : Int) (xs : List Itv) (slo shi : Int) (w : World)  :
    Calls Tryz.prog 101 #[.pointer (some ⟨sb, 0, none⟩), .agg #[.slice pa pn pc], Ins.v ⟨1, d, a, b, rel, lo, hi, to⟩] w fun e w' => e = .returned (.bool (false)) ∧ Grew w w' := by
  have HC : Hid (∀ W, Calls Tryz.prog 120 #[Ins.v ⟨1, d, a, b, rel, lo, hi, to⟩] W fun e w' => e = .returned (.iface 205 (.agg #[.int .i64 (1 : Int), .int .i64 d, .int .i64 a, .int .i64 b])) ∧ Grew W w') := Lib.hid (fun W => codeOf ⟨1, d, a, b, rel, lo, hi, to⟩ W)
  go_enter Tryz.func101, Tryz.ntmps101
  go_wp2_with fail
  refine (HC.out _).mono ?_
  rintro e w1 ⟨rfl, g1⟩
  have hG := show Grew w w1 from grew_tr (gr) g1
  have HG := Lib.hid hG
  clear g1 hG
  go_wp2_with fail
  first | refine wp_region_ext2 (by kernel_rfl) (by kernel_rfl) ?_ | refine wp_region_ext (by kernel_rfl) (by kernel_rfl) ?_
  repeat (go_big_quiet_step ((first | fail)))
  refine wpQuiet_nil ?_
  intro _ hw'
  obtain ⟨u, hw''⟩ := hw'
  subst hw''
  go_wp2
  go_ret
  refine ⟨by simp, ?_⟩
  have hg := HG.out
  exact gr
set_option maxHeartbeats 2000000 in
theorem implFails2 (sb : Nat) (pa : Option Addr) (pn pc : Nat) (d a b rel lo hi to : Int) (xs : List Itv) (slo shi : Int) (w : World)  :
    Calls Tryz.prog 101 #[.pointer (some ⟨sb, 0, none⟩), .agg #[.slice pa pn pc], Ins.v ⟨2, d, a, b, rel, lo, hi, to⟩] w fun e w' => e = .returned (.bool (false)) ∧ Grew w w' := by
  have HC : Hid (∀ W, Calls Tryz.prog 120 #[Ins.v ⟨2, d, a, b, rel, lo, hi, to⟩] W fun e w' => e = .returned (.iface 205 (.agg #[.int .i64 (2 : Int), .int .i64 d, .int .i64 a, .int .i64 b])) ∧ Grew W w') := Lib.hid (fun W => codeOf ⟨2, d, a, b, rel, lo, hi, to⟩ W)
  go_enter Tryz.func101, Tryz.ntmps101
  go_wp2_with fail
  refine (HC.out _).mono ?_
  rintro e w1 ⟨rfl, g1⟩
  have hG := show Grew w w1 from grew_tr (gr) g1
  have HG := Lib.hid hG
  clear g1 hG
  go_wp2_with fail
  first | refine wp_region_ext2 (by kernel_rfl) (by kernel_rfl) ?_ | refine wp_region_ext (by kernel_rfl) (by kernel_rfl) ?_
  repeat (go_big_quiet_step ((first | fail)))
  refine wpQuiet_nil ?_
  intro _ hw'
  obtain ⟨u, hw''⟩ := hw'
  subst hw''
  go_wp2
  go_ret
  refine ⟨by simp, ?_⟩
  have hg := HG.out
  exact gr
set_option maxHeartbeats 2000000 in
theorem implFails3 (sb : Nat) (pa : Option Addr) (pn pc : Nat) (d a b rel lo hi to : Int) (xs : List Itv) (slo shi : Int) (w : World)  :
    Calls Tryz.prog 101 #[.pointer (some ⟨sb, 0, none⟩), .agg #[.slice pa pn pc], Ins.v ⟨3, d, a, b, rel, lo, hi, to⟩] w fun e w' => e = .returned (.bool (false)) ∧ Grew w w' := by
  have HC : Hid (∀ W, Calls Tryz.prog 120 #[Ins.v ⟨3, d, a, b, rel, lo, hi, to⟩] W fun e w' => e = .returned (.iface 205 (.agg #[.int .i64 (3 : Int), .int .i64 d, .int .i64 a, .int .i64 b])) ∧ Grew W w') := Lib.hid (fun W => codeOf ⟨3, d, a, b, rel, lo, hi, to⟩ W)
  go_enter Tryz.func101, Tryz.ntmps101
  go_wp2_with fail
  refine (HC.out _).mono ?_
  rintro e w1 ⟨rfl, g1⟩
  have hG := show Grew w w1 from grew_tr (gr) g1
  have HG := Lib.hid hG
  clear g1 hG
  go_wp2_with fail
  first | refine wp_region_ext2 (by kernel_rfl) (by kernel_rfl) ?_ | refine wp_region_ext (by kernel_rfl) (by kernel_rfl) ?_
  repeat (go_big_quiet_step ((first | fail)))
  refine wpQuiet_nil ?_
  intro _ hw'
  obtain ⟨u, hw''⟩ := hw'
  subst hw''
  go_wp2
  go_ret
  refine ⟨by simp, ?_⟩
  have hg := HG.out
  exact gr
set_option maxHeartbeats 2000000 in
theorem implFails4 (sb : Nat) (pa : Option Addr) (pn pc : Nat) (d a b rel lo hi to : Int) (xs : List Itv) (slo shi : Int) (w : World) (hBk : Blk w sb 165 (stC xs slo shi)) (ho : stOkB true xs slo shi = true) (hb : varB b = true) :
    Calls Tryz.prog 101 #[.pointer (some ⟨sb, 0, none⟩), .agg #[.slice pa pn pc], Ins.v ⟨4, d, a, b, rel, lo, hi, to⟩] w fun e w' => e = .returned (.bool (inB (nthI xs b).lo (nthI xs b).hi 0)) ∧ Grew w w' := by
  have h4 : xs.length = 4 := by obtain ⟨_, x0, x1, x2, x3, rfl, _⟩ := st_four ho; rfl
  have bo := nthI_ok ho hb
  obtain ⟨bj, heb, hjb, hxb⟩ := nthI_get h4 hb
  obtain ⟨⟨bl, bh⟩, hXb⟩ : ∃ x, nthI xs b = x := ⟨_, rfl⟩
  rw [hXb] at bo hxb ⊢
  subst heb
  have HC : Hid (∀ W, Calls Tryz.prog 120 #[Ins.v ⟨4, d, a, ↑bj, rel, lo, hi, to⟩] W fun e w' => e = .returned (.iface 205 (.agg #[.int .i64 (4 : Int), .int .i64 d, .int .i64 a, .int .i64 (bj : Int)])) ∧ Grew W w') := Lib.hid (fun W => codeOf ⟨4, d, a, ↑bj, rel, lo, hi, to⟩ W)
  have HI := Lib.hid (fun W => implItvHas bl bh 0 W bo)
  rw [show inB (⟨bl, bh⟩ : Itv).lo (⟨bl, bh⟩ : Itv).hi 0 = (decide (bl ≤ 0) && decide (0 ≤ bh)) from rfl]
  obtain ⟨B, hB⟩ : ∃ B, (decide (bl ≤ 0) && decide (0 ≤ bh)) = B := ⟨_, rfl⟩
  rw [hB] at HI ⊢
  clear hB
  go_enter Tryz.func101, Tryz.ntmps101
  go_wp2_with fail
  refine (HC.out _).mono ?_
  rintro e w1 ⟨rfl, g1⟩
  have hG := show Grew w w1 from grew_tr (gr) g1
  have HG := Lib.hid hG
  obtain ⟨b0, b1⟩ := st_cell (hBk.grew hG) h4 hxb
  have ls := (hBk.grew hG).lt
  clear g1 hG hBk ho h4 hxb bo hXb hb
  go_wp2_with fail
  first | refine wp_region_ext2 (by kernel_rfl) (by kernel_rfl) ?_ | refine wp_region_ext (by kernel_rfl) (by kernel_rfl) ?_
  repeat (go_big_quiet_step ((first | (with_reducible exact ext_grow (HI.out _)))))
  refine wpQuiet_nil ?_
  intro _ hw'
  obtain ⟨u, hw''⟩ := hw'
  subst hw''
  cases B
  all_goals
    go_wp2
    go_ret
    refine ⟨by simp, ?_⟩
    have hg := HG.out
    exact gr
set_option maxHeartbeats 2000000 in
theorem implFails6 (sb : Nat) (pa : Option Addr) (pn pc : Nat) (d a b rel lo hi to : Int) (xs : List Itv) (slo shi : Int) (w : World) (hBk : Blk w sb 165 (stC xs slo shi)) (ho : stOkB true xs slo shi = true) (ha : varB a = true) :
    Calls Tryz.prog 101 #[.pointer (some ⟨sb, 0, none⟩), .agg #[.slice pa pn pc], Ins.v ⟨6, d, a, b, rel, lo, hi, to⟩] w fun e w' => e = .returned (.bool (!inI (nthI xs a) ⟨0, 3⟩)) ∧ Grew w w' := by
  have h4 : xs.length = 4 := by obtain ⟨_, x0, x1, x2, x3, rfl, _⟩ := st_four ho; rfl
  have ao := nthI_ok ho ha
  obtain ⟨aj, hea, hja, hxa⟩ := nthI_get h4 ha
  obtain ⟨⟨al, ah⟩, hXa⟩ : ∃ x, nthI xs a = x := ⟨_, rfl⟩
  rw [hXa] at ao hxa ⊢
  subst hea
  have HC : Hid (∀ W, Calls Tryz.prog 120 #[Ins.v ⟨6, d, ↑aj, b, rel, lo, hi, to⟩] W fun e w' => e = .returned (.iface 207 (.agg #[.int .i64 d, .int .i64 (aj : Int)])) ∧ Grew W w') := Lib.hid (fun W => codeOf ⟨6, d, ↑aj, b, rel, lo, hi, to⟩ W)
  have HI := Lib.hid (fun W => implItvIn ⟨al, ah⟩ ⟨0, 3⟩ W ao (by decide))
  obtain ⟨B, hB⟩ : ∃ B, inI ⟨al, ah⟩ ⟨0, 3⟩ = B := ⟨_, rfl⟩
  rw [hB] at HI ⊢
  have HK := Lib.hid (fun W => implCellIndexes W)
  clear hB
  go_enter Tryz.func101, Tryz.ntmps101
  go_wp2_with fail
  refine (HC.out _).mono ?_
  rintro e w1 ⟨rfl, g1⟩
  have hG := show Grew w w1 from grew_tr (gr) g1
  have HG := Lib.hid hG
  obtain ⟨a0, a1⟩ := st_cell (hBk.grew hG) h4 hxa
  have ls := (hBk.grew hG).lt
  clear g1 hG hBk ho h4 hxa ao hXa ha
  go_wp2_with fail
  first | refine wp_region_ext2 (by kernel_rfl) (by kernel_rfl) ?_ | refine wp_region_ext (by kernel_rfl) (by kernel_rfl) ?_
  repeat (go_big_quiet_step ((first | (with_reducible exact ext_grow (HI.out _)) | (with_reducible exact ext_grow (HK.out _)))))
  refine wpQuiet_nil ?_
  intro _ hw'
  obtain ⟨u, hw''⟩ := hw'
  subst hw''
  cases B
  all_goals
    go_wp2
    go_ret
    refine ⟨by simp, ?_⟩
    have hg := HG.out
    exact gr
set_option maxHeartbeats 2000000 in
theorem implFails7 (sb : Nat) (pa : Option Addr) (pn pc : Nat) (d a b rel lo hi to : Int) (xs : List Itv) (slo shi : Int) (w : World) (hBk : Blk w sb 165 (stC xs slo shi)) (ho : stOkB true xs slo shi = true) (ha : varB a = true) :
    Calls Tryz.prog 101 #[.pointer (some ⟨sb, 0, none⟩), .agg #[.slice pa pn pc], Ins.v ⟨7, d, a, b, rel, lo, hi, to⟩] w fun e w' => e = .returned (.bool (!inI (nthI xs a) ⟨0, 3⟩)) ∧ Grew w w' := by
  have h4 : xs.length = 4 := by obtain ⟨_, x0, x1, x2, x3, rfl, _⟩ := st_four ho; rfl
  have ao := nthI_ok ho ha
  obtain ⟨aj, hea, hja, hxa⟩ := nthI_get h4 ha
  obtain ⟨⟨al, ah⟩, hXa⟩ : ∃ x, nthI xs a = x := ⟨_, rfl⟩
  rw [hXa] at ao hxa ⊢
  subst hea
  have HC : Hid (∀ W, Calls Tryz.prog 120 #[Ins.v ⟨7, d, ↑aj, b, rel, lo, hi, to⟩] W fun e w' => e = .returned (.iface 209 (.agg #[.int .i64 ↑aj, .int .i64 b])) ∧ Grew W w') := Lib.hid (fun W => codeOf ⟨7, d, ↑aj, b, rel, lo, hi, to⟩ W)
  have HI := Lib.hid (fun W => implItvIn ⟨al, ah⟩ ⟨0, 3⟩ W ao (by decide))
  obtain ⟨B, hB⟩ : ∃ B, inI ⟨al, ah⟩ ⟨0, 3⟩ = B := ⟨_, rfl⟩
  rw [hB] at HI ⊢
  have HK := Lib.hid (fun W => implCellIndexes W)
  clear hB
  go_enter Tryz.func101, Tryz.ntmps101
  go_wp2_with fail
  refine (HC.out _).mono ?_
  rintro e w1 ⟨rfl, g1⟩
  have hG := show Grew w w1 from grew_tr (gr) g1
  have HG := Lib.hid hG
  obtain ⟨a0, a1⟩ := st_cell (hBk.grew hG) h4 hxa
  have ls := (hBk.grew hG).lt
  clear g1 hG hBk ho h4 hxa ao hXa ha
  go_wp2_with fail
  first | refine wp_region_ext2 (by kernel_rfl) (by kernel_rfl) ?_ | refine wp_region_ext (by kernel_rfl) (by kernel_rfl) ?_
  repeat (go_big_quiet_step ((first | (with_reducible exact ext_grow (HI.out _)) | (with_reducible exact ext_grow (HK.out _)))))
  refine wpQuiet_nil ?_
  intro _ hw'
  obtain ⟨u, hw''⟩ := hw'
  subst hw''
  cases B
  all_goals
    go_wp2
    go_ret
    refine ⟨by simp, ?_⟩
    have hg := HG.out
    exact gr
set_option maxHeartbeats 2000000 in
theorem implFails10 (sb : Nat) (pa : Option Addr) (pn pc : Nat) (d a b rel lo hi to : Int) (xs : List Itv) (slo shi : Int) (w : World) (hBk : Blk w sb 165 (stC xs slo shi)) (ho : stOkB true xs slo shi = true) (ha : varB a = true) (ps : List Prc) (hr : RdP w pa pn ps) (hp : prgOkB ps = true) (h0 : 0 ≤ to) (h1 : to < pn) :
    Calls Tryz.prog 101 #[.pointer (some ⟨sb, 0, none⟩), .agg #[.slice pa pn pc], Ins.v ⟨10, d, a, b, rel, lo, hi, to⟩] w fun e w' => e = .returned (.bool (!inI (nthI xs a) (prcI ps to))) ∧ Grew w w' := by
  have h4 : xs.length = 4 := by obtain ⟨_, x0, x1, x2, x3, rfl, _⟩ := st_four ho; rfl
  have ao := nthI_ok ho ha
  obtain ⟨aj, hea, hja, hxa⟩ := nthI_get h4 ha
  obtain ⟨⟨al, ah⟩, hXa⟩ : ∃ x, nthI xs a = x := ⟨_, rfl⟩
  rw [hXa] at ao hxa ⊢
  subst hea
  obtain ⟨k, p, rfl, hk, hpk, he⟩ := prcI_get h0 (by rw [hr.len]; exact h1)
  have hpo := prgOk_prc hp (List.mem_of_getElem? hpk)
  rw [he]
  have HC : Hid (∀ W, Calls Tryz.prog 120 #[Ins.v ⟨10, d, ↑aj, b, rel, lo, hi, ↑k⟩] W fun e w' => e = .returned (.iface 198 (.agg #[.int .i64 d, .int .i64 ↑aj, .int .i64 (k : Int)])) ∧ Grew W w') := Lib.hid (fun W => codeOf ⟨10, d, ↑aj, b, rel, lo, hi, ↑k⟩ W)
  have hk' : k < pn := by omega
  have HR := Lib.hid hr
  obtain ⟨pb, off, plo, phi, is, ia, ic, rfl, hx, c0, c1, c2, hbb, hi1, hi2, hi3⟩ := rdP_at (hr.grew (Below.refl _ _)) hk'
  rw [hx] at hpk
  cases hpk
  have HI := Lib.hid (fun W => implItvIn ⟨al, ah⟩ ⟨plo, phi⟩ W ao hpo)
  simp only at HI ⊢
  obtain ⟨B, hB⟩ : ∃ B, inI ⟨al, ah⟩ ⟨plo, phi⟩ = B := ⟨_, rfl⟩
  rw [hB] at HI ⊢
  have HK := Lib.hid (fun v W => prcItv plo phi v W)
  have HCE := Lib.hid (fun W (g : Grew w W) => (⟨(g.cell (p := ⟨pb, off + k * 3, none⟩) hbb).trans c0, (g.cell (p := ⟨pb, off + k * 3 + 1, none⟩) hbb).trans c1, (g.cell (p := ⟨pb, off + k * 3 + 2, none⟩) hbb).trans c2⟩ : W.cell? ⟨pb, off + k * 3, none⟩ = some (.int .i64 plo) ∧ W.cell? ⟨pb, off + k * 3 + 1, none⟩ = some (.int .i64 phi) ∧ W.cell? ⟨pb, off + k * 3 + 2, none⟩ = some (.slice ia is.length ic)))
  clear hB c0 c1 c2 hi1 hi2 hi3 he hr hp hpo h0 h1
  go_enter Tryz.func101, Tryz.ntmps101
  go_wp2_with fail
  refine (HC.out _).mono ?_
  rintro e w1 ⟨rfl, g1⟩
  have hG := show Grew w w1 from grew_tr (gr) g1
  have HG := Lib.hid hG
  obtain ⟨a0, a1⟩ := st_cell (hBk.grew hG) h4 hxa
  have ls := (hBk.grew hG).lt
  obtain ⟨c0, c1, c2⟩ := HCE.out _ hG
  have lb := Nat.lt_of_lt_of_le hbb hG.size
  have p0 : w1.cell? ⟨w.heap.size, 0, none⟩ = some (.slice (some ⟨pb, off, none⟩) pn pc) := (g1.cell (p := ⟨w.heap.size, 0, none⟩) (by simp only [World.size_alloc]; omega)).trans (by simp [go_sem])
  have lw : w.heap.size < w1.heap.size := by have := g1.size; simp only [World.size_alloc] at this; omega
  clear g1 hG hBk ho h4 hxa ao hXa ha
  go_wp2_with fail
  first | refine wp_region_ext2 (by kernel_rfl) (by kernel_rfl) ?_ | refine wp_region_ext (by kernel_rfl) (by kernel_rfl) ?_
  repeat (go_big_quiet_step ((first | (with_reducible exact ext_grow (HI.out _)) | (with_reducible exact ext_grow (HK.out _ _)))))
  refine wpQuiet_nil ?_
  intro _ hw'
  obtain ⟨u, hw''⟩ := hw'
  subst hw''
  cases B
  all_goals
    go_wp2
    go_ret
    refine ⟨by simp, ?_⟩
    have hg := HG.out
    exact gr
set_option maxRecDepth 100000 in
set_option maxHeartbeats 4000000 in
theorem implFails11 (sb : Nat) (pa : Option Addr) (pn pc : Nat) (d a b rel lo hi to : Int) (xs : List Itv) (slo shi : Int) (w : World) (hBk : Blk w sb 165 (stC xs slo shi)) (ho : stOkB true xs slo shi = true) (ha : varB a = true) (hb : varB b = true) (hrel : 1 ≤ rel ∧ rel ≤ 4) :
    Calls Tryz.prog 101 #[.pointer (some ⟨sb, 0, none⟩), .agg #[.slice pa pn pc], Ins.v ⟨11, d, a, b, rel, lo, hi, to⟩] w fun e w' => e = .returned (.bool ((notI rel (nthI xs a) (nthI xs b)).isSome)) ∧ Grew w w' := by
  have h4 : xs.length = 4 := by obtain ⟨_, x0, x1, x2, x3, rfl, _⟩ := st_four ho; rfl
  have ao := nthI_ok ho ha
  obtain ⟨aj, hea, hja, hxa⟩ := nthI_get h4 ha
  obtain ⟨⟨al, ah⟩, hXa⟩ : ∃ x, nthI xs a = x := ⟨_, rfl⟩
  rw [hXa] at ao hxa ⊢
  have bo := nthI_ok ho hb
  obtain ⟨bj, heb, hjb, hxb⟩ := nthI_get h4 hb
  obtain ⟨⟨bl, bh⟩, hXb⟩ : ∃ x, nthI xs b = x := ⟨_, rfl⟩
  rw [hXb] at bo hxb ⊢
  subst hea heb
  have HC : Hid (∀ W, Calls Tryz.prog 120 #[Ins.v ⟨11, d, ↑aj, ↑bj, rel, lo, hi, to⟩] W fun e w' => e = .returned (.iface 200 (.agg #[.int .i64 rel, .int .i64 ↑aj, .int .i64 (bj : Int)])) ∧ Grew W w') := Lib.hid (fun W => codeOf ⟨11, d, ↑aj, ↑bj, rel, lo, hi, to⟩ W)
  have HI := Lib.hid (fun W => implItvNot rel ⟨al, ah⟩ ⟨bl, bh⟩ W hrel ao bo)
  rw [relV_eq] at HI
  obtain ⟨O, hO⟩ : ∃ O, notI rel ⟨al, ah⟩ ⟨bl, bh⟩ = O := ⟨_, rfl⟩
  rw [hO] at HI ⊢
  obtain ⟨⟨xl, xh⟩, hx⟩ : ∃ x, rA O = x := ⟨_, rfl⟩
  obtain ⟨⟨yl, yh⟩, hy⟩ : ∃ x, rB O = x := ⟨_, rfl⟩
  obtain ⟨B, hB⟩ : ∃ x, O.isSome = x := ⟨_, rfl⟩
  rw [hx, hy, hB] at HI
  rw [hB]
  clear hO hx hy hB
  go_enter Tryz.func101, Tryz.ntmps101
  go_wp2_with fail
  refine (HC.out _).mono ?_
  rintro e w1 ⟨rfl, g1⟩
  have hG := show Grew w w1 from grew_tr (gr) g1
  have HG := Lib.hid hG
  obtain ⟨a0, a1⟩ := st_cell (hBk.grew hG) h4 hxa
  obtain ⟨b0, b1⟩ := st_cell (hBk.grew hG) h4 hxb
  have ls := (hBk.grew hG).lt
  clear g1 hG hBk hb ho h4 hxa hxb ao bo hXa hXb ha
  go_upto_region 16 with fail
  refine wp_letH ?_
  intro E hE
  have q0 : E.cell? ⟨w1.heap.size, 0, none⟩ = some (.int .i64 rel) := by rw [hE]; simp [go_sem]
  have q1 : E.cell? ⟨w1.heap.size, 1, none⟩ = some (.int .i64 (aj : Int)) := by rw [hE]; simp [go_sem]
  have q2 : E.cell? ⟨w1.heap.size, 2, none⟩ = some (.int .i64 (bj : Int)) := by rw [hE]; simp [go_sem]
  have q3 : E.cell? ⟨sb, aj * 2, none⟩ = some (.int .i64 al) := by rw [hE]; simp [go_sem, a0, ls]
  have q4 : E.cell? ⟨sb, aj * 2 + 1, none⟩ = some (.int .i64 ah) := by rw [hE]; simp [go_sem, a1, ls]
  have q5 : E.cell? ⟨sb, bj * 2, none⟩ = some (.int .i64 bl) := by rw [hE]; simp [go_sem, b0, ls]
  have q6 : E.cell? ⟨sb, bj * 2 + 1, none⟩ = some (.int .i64 bh) := by rw [hE]; simp [go_sem, b1, ls]
  have GE : Grew w1 E := by rw [hE]; exact gr
  have haq : ¬ (4 : Int) ≤ (aj : Int) := by omega
  have hbq : ¬ (4 : Int) ≤ (bj : Int) := by omega
  clear hE a0 a1 b0 b1
  obtain ⟨VV, v0, v1, v2, v3, v4, v5, v6, v7, v8, v9, v10, v11, v12, v13, v14, v15, v16, v17, v18, v19, v20, v21, v22, v23, v24, v25, -⟩ := vl [.pointer (some ⟨w1.heap.size, 0, none⟩), .int .i64 rel, .pointer (some ⟨sb, 0, none⟩), .pointer (some ⟨w1.heap.size, 1, none⟩), .int .i64 (aj : Int), .pointer (some ⟨sb, 0, none⟩), .pointer (some ⟨sb, 0, none⟩), .pointer (some ⟨sb, aj * 2, none⟩), .agg #[.int .i64 al, .int .i64 ah], .pointer (some ⟨sb, 0, none⟩), .pointer (some ⟨w1.heap.size, 2, none⟩), .int .i64 (bj : Int), .pointer (some ⟨sb, 0, none⟩), .pointer (some ⟨sb, 0, none⟩), .pointer (some ⟨sb, bj * 2, none⟩), .agg #[.int .i64 bl, .int .i64 bh], .tuple #[.agg #[.int .i64 xl, .int .i64 xh], .agg #[.int .i64 yl, .int .i64 yh], .bool B], .tuple #[.agg #[.int .i64 xl, .int .i64 xh], .agg #[.int .i64 yl, .int .i64 yh], .bool B], .agg #[.int .i64 xl, .int .i64 xh], .agg #[.int .i64 yl, .int .i64 yh], .bool B, undef, undef, undef, undef, .bool B]
  have HK := fun W (c : Chg (preB [⟨some 21, 0, 23, 98, #[.int .i64 0, .int .i64 0], #[.int .i64 xl, .int .i64 xh]⟩, ⟨some 22, 0, 24, 98, #[.int .i64 0, .int .i64 0], #[.int .i64 yl, .int .i64 yh]⟩]) _ W) => And.intro (ck c q0) (And.intro (ck c q1) (And.intro (ck c q2) (And.intro (ck c q3) (And.intro (ck c q4) (And.intro (ck c q5) (ck c q6))))))
  refine region_box 103 [⟨some 21, 0, 23, 98, #[.int .i64 0, .int .i64 0], #[.int .i64 xl, .int .i64 xh]⟩, ⟨some 22, 0, 24, 98, #[.int .i64 0, .int .i64 0], #[.int .i64 yl, .int .i64 yh]⟩] VV (by kernel_rfl) rfl (by kernel_rfl) rfl (by intro b hb ha; simp only [List.mem_cons, List.not_mem_nil, or_false] at hb; rcases hb with rfl | rfl <;> first | (cases ha; done) | assumption) (by intro j k b c hjk hj hk hb hc; rcases j with _ | _ | j <;> rcases k with _ | _ | k <;> simp at hj hk hjk <;> (try subst hj) <;> (try subst hk) <;> first | (cases hb; done) | (cases hc; done) | (simp only; omega)) ⟨?_, ?_, ?_, ?_, ?_, ?_, ?_, ?_, ?_, ?_, ?_, ?_, ?_, ?_, ?_, ?_, ?_, ?_, ?_, ?_, ?_, ?_, ?_, ?_, ?_, ?_, trivial⟩ ?_
  · exact b_vx v0 rfl rfl (fun gm a W h => by have e11 : a.eval (.tmp 11) = .pointer (some ⟨w1.heap.size, 0, none⟩) := (h.slot 11 (by kernel_rfl)).trans rfl; simp only [execOp, e11]; first | (simp [go_sem, haq, hbq] <;> first | exact wrapIn | rfl) | kernel_rfl)
  · exact b_vx v1 rfl rfl (fun gm a W h => by have e82 := (h.vb 0 82).trans v0; obtain ⟨kq0, kq1, kq2, kq3, kq4, kq5, kq6⟩ := HK W h.chg; simp only [execOp, e82]; first | (simp [go_sem, kq0, kq1, kq2, kq3, kq4, kq5, kq6, haq, hbq] <;> first | exact wrapIn | rfl) | kernel_rfl)
  · exact b_vx v2 rfl rfl (fun gm a W h => by have e0 : a.eval (.tmp 0) = .pointer (some ⟨sb, 0, none⟩) := (h.slot 0 (by kernel_rfl)).trans rfl; simp only [execOp, e0]; first | (simp [go_sem, haq, hbq] <;> first | exact wrapIn | rfl) | kernel_rfl)
  · exact b_vx v3 rfl rfl (fun gm a W h => by have e11 : a.eval (.tmp 11) = .pointer (some ⟨w1.heap.size, 0, none⟩) := (h.slot 11 (by kernel_rfl)).trans rfl; simp only [execOp, e11]; first | (simp [go_sem, haq, hbq] <;> first | exact wrapIn | rfl) | kernel_rfl)
  · exact b_vx v4 rfl rfl (fun gm a W h => by have e85 := (h.vb 3 85).trans v3; obtain ⟨kq0, kq1, kq2, kq3, kq4, kq5, kq6⟩ := HK W h.chg; simp only [execOp, e85]; first | (simp [go_sem, kq0, kq1, kq2, kq3, kq4, kq5, kq6, haq, hbq] <;> first | exact wrapIn | rfl) | kernel_rfl)
  · exact b_vx v5 rfl rfl (fun gm a W h => by have e84 := (h.vb 2 84).trans v2; simp only [execOp, e84]; first | (simp [go_sem, haq, hbq] <;> first | exact wrapIn | rfl) | kernel_rfl)
  · exact b_vx v6 rfl rfl (fun gm a W h => by have e87 := (h.vb 5 87).trans v5; simp only [execOp, e87]; first | (simp [go_sem, haq, hbq] <;> first | exact wrapIn | rfl) | kernel_rfl)
  · exact b_vx v7 rfl rfl (fun gm a W h => by have e88 := (h.vb 6 88).trans v6; have e86 := (h.vb 4 86).trans v4; simp only [execOp, e88, e86]; first | (simp [go_sem, haq, hbq] <;> first | exact wrapIn | rfl) | kernel_rfl)
  · exact b_vx v8 rfl rfl (fun gm a W h => by have e89 := (h.vb 7 89).trans v7; obtain ⟨kq0, kq1, kq2, kq3, kq4, kq5, kq6⟩ := HK W h.chg; simp only [execOp, e89]; first | (simp [go_sem, kq0, kq1, kq2, kq3, kq4, kq5, kq6, haq, hbq] <;> first | exact wrapIn | rfl) | kernel_rfl)
  · exact b_vx v9 rfl rfl (fun gm a W h => by have e0 : a.eval (.tmp 0) = .pointer (some ⟨sb, 0, none⟩) := (h.slot 0 (by kernel_rfl)).trans rfl; simp only [execOp, e0]; first | (simp [go_sem, haq, hbq] <;> first | exact wrapIn | rfl) | kernel_rfl)
  · exact b_vx v10 rfl rfl (fun gm a W h => by have e11 : a.eval (.tmp 11) = .pointer (some ⟨w1.heap.size, 0, none⟩) := (h.slot 11 (by kernel_rfl)).trans rfl; simp only [execOp, e11]; first | (simp [go_sem, haq, hbq] <;> first | exact wrapIn | rfl) | kernel_rfl)
  · exact b_vx v11 rfl rfl (fun gm a W h => by have e92 := (h.vb 10 92).trans v10; obtain ⟨kq0, kq1, kq2, kq3, kq4, kq5, kq6⟩ := HK W h.chg; simp only [execOp, e92]; first | (simp [go_sem, kq0, kq1, kq2, kq3, kq4, kq5, kq6, haq, hbq] <;> first | exact wrapIn | rfl) | kernel_rfl)
  · exact b_vx v12 rfl rfl (fun gm a W h => by have e91 := (h.vb 9 91).trans v9; simp only [execOp, e91]; first | (simp [go_sem, haq, hbq] <;> first | exact wrapIn | rfl) | kernel_rfl)
  · exact b_vx v13 rfl rfl (fun gm a W h => by have e94 := (h.vb 12 94).trans v12; simp only [execOp, e94]; first | (simp [go_sem, haq, hbq] <;> first | exact wrapIn | rfl) | kernel_rfl)
  · exact b_vx v14 rfl rfl (fun gm a W h => by have e95 := (h.vb 13 95).trans v13; have e93 := (h.vb 11 93).trans v11; simp only [execOp, e95, e93]; first | (simp [go_sem, haq, hbq] <;> first | exact wrapIn | rfl) | kernel_rfl)
  · exact b_vx v15 rfl rfl (fun gm a W h => by have e96 := (h.vb 14 96).trans v14; obtain ⟨kq0, kq1, kq2, kq3, kq4, kq5, kq6⟩ := HK W h.chg; simp only [execOp, e96]; first | (simp [go_sem, kq0, kq1, kq2, kq3, kq4, kq5, kq6, haq, hbq] <;> first | exact wrapIn | rfl) | kernel_rfl)
  · exact b_cx v16 rfl rfl (fun gm a W h => by
      have e83 := (h.vb 1 83).trans v1
      have e90 := (h.vb 8 90).trans v8
      have e97 := (h.vb 15 97).trans v15
      refine Eq.trans (b := .ok (.enter 131 #[a.eval (.tmp 83), a.eval (.tmp 90), a.eval (.tmp 97)]) W) (by kernel_rfl) ?_
      rw [e83, e90, e97]) (fun W => HI.out W)
  · exact b_vx v17 rfl rfl (fun gm a W h => by have e98 := (h.vb 16 98).trans v16; simp only [execOp, e98]; first | (simp [go_sem, haq, hbq] <;> first | exact wrapIn | rfl) | kernel_rfl)
  · exact b_vx v18 rfl rfl (fun gm a W h => by have e81 := (h.vb 17 81).trans v17; simp only [execOp, e81]; first | (simp [go_sem, haq, hbq] <;> first | exact wrapIn | rfl) | kernel_rfl)
  · exact b_vx v19 rfl rfl (fun gm a W h => by have e81 := (h.vb 17 81).trans v17; simp only [execOp, e81]; first | (simp [go_sem, haq, hbq] <;> first | exact wrapIn | rfl) | kernel_rfl)
  · exact b_vx v20 rfl rfl (fun gm a W h => by have e81 := (h.vb 17 81).trans v17; simp only [execOp, e81]; first | (simp [go_sem, haq, hbq] <;> first | exact wrapIn | rfl) | kernel_rfl)
  · exact b_alloc 0 _ rfl rfl rfl (by kernel_rfl) rfl (fun gm a W h => by kernel_rfl)
  · exact b_alloc 1 _ rfl rfl rfl (by kernel_rfl) rfl (fun gm a W h => by kernel_rfl)
  · refine b_store 0 _ rfl rfl rfl v23 (fun j hj => by cases hj; exact ⟨12, ⟨⟨⟨21, .data⟩, by simp, rfl, by kernel_rfl⟩, by kernel_rfl⟩⟩) rfl (fun gm a W h hold hb => ?_)
    have e12 : a.eval (.tmp 12) = .pointer (some ⟨gm 0, 0, none⟩) := (h.vb 21 12).trans rfl
    have e99 := (h.vb 18 99).trans v18
    simp only at hb
    have hf := fun j => hb.frozen j
    have c0 := hb.cell 0
    have c1 := hb.cell 1
    refine ⟨_, by (simp only [execOp, e12, e99]; simp [go_sem, hf, c0, c1, haq, hbq]; try rfl), (hb.set_ 0 _).set_ 1 _, chgs2 _ _ _ _ _ _⟩
  · refine b_store 1 _ rfl rfl rfl v24 (fun j hj => by cases hj; exact ⟨13, ⟨⟨⟨22, .data⟩, by simp, rfl, by kernel_rfl⟩, by kernel_rfl⟩⟩) rfl (fun gm a W h hold hb => ?_)
    have e13 : a.eval (.tmp 13) = .pointer (some ⟨gm 1, 0, none⟩) := (h.vb 22 13).trans rfl
    have e100 := (h.vb 19 100).trans v19
    simp only at hb
    have hf := fun j => hb.frozen j
    have c0 := hb.cell 0
    have c1 := hb.cell 1
    refine ⟨_, by (simp only [execOp, e13, e100]; simp [go_sem, hf, c0, c1, haq, hbq]; try rfl), (hb.set_ 0 _).set_ 1 _, chgs2 _ _ _ _ _ _⟩
  · exact b_vx v25 rfl rfl (fun gm a W h => by have e101 := (h.vb 20 101).trans v20; simp only [execOp, e101]; first | (simp [go_sem, haq, hbq] <;> first | exact wrapIn | rfl) | kernel_rfl)
  intro gm vs w9 hc9 hb9 hold9 hge9 hv9
  have x0 := (hv9 0 82 (by kernel_rfl)).trans v0
  have x1 := (hv9 1 83 (by kernel_rfl)).trans v1
  have x2 := (hv9 2 84 (by kernel_rfl)).trans v2
  have x3 := (hv9 3 85 (by kernel_rfl)).trans v3
  have x4 := (hv9 4 86 (by kernel_rfl)).trans v4
  have x5 := (hv9 5 87 (by kernel_rfl)).trans v5
  have x6 := (hv9 6 88 (by kernel_rfl)).trans v6
  have x7 := (hv9 7 89 (by kernel_rfl)).trans v7
  have x8 := (hv9 8 90 (by kernel_rfl)).trans v8
  have x9 := (hv9 9 91 (by kernel_rfl)).trans v9
  have x10 := (hv9 10 92 (by kernel_rfl)).trans v10
  have x11 := (hv9 11 93 (by kernel_rfl)).trans v11
  have x12 := (hv9 12 94 (by kernel_rfl)).trans v12
  have x13 := (hv9 13 95 (by kernel_rfl)).trans v13
  have x14 := (hv9 14 96 (by kernel_rfl)).trans v14
  have x15 := (hv9 15 97 (by kernel_rfl)).trans v15
  have x16 := (hv9 16 98 (by kernel_rfl)).trans v16
  have x17 := (hv9 17 81 (by kernel_rfl)).trans v17
  have x18 := (hv9 18 99 (by kernel_rfl)).trans v18
  have x19 := (hv9 19 100 (by kernel_rfl)).trans v19
  have x20 := (hv9 20 101 (by kernel_rfl)).trans v20
  have x21 : vs 21 = .pointer (some ⟨gm 0, 0, none⟩) := (hv9 21 12 (by kernel_rfl)).trans rfl
  have x22 : vs 22 = .pointer (some ⟨gm 1, 0, none⟩) := (hv9 22 13 (by kernel_rfl)).trans rfl
  have x25 := (hv9 25 14 (by kernel_rfl)).trans v25
  have y0 := hb9 0 _ rfl
  have g0 := hge9 0 _ 21 rfl rfl
  simp only at y0
  have y1 := hb9 1 _ rfl
  have g1 := hge9 1 _ 22 rfl rfl
  simp only at y1
  simp only [putAll, Act.put, List.setIfInBounds_toArray, List.set_cons_zero, List.set_cons_succ, Nat.zero_add, Nat.reduceAdd, x0, x1, x2, x3, x4, x5, x6, x7, x8, x9, x10, x11, x12, x13, x14, x15, x16, x17, x18, x19, x20, x21, x22, x25]
  clear hb9 hold9 hge9 hv9 x0 x1 x2 x3 x4 x5 x6 x7 x8 x9 x10 x11 x12 x13 x14 x15 x16 x17 x18 x19 x20 x21 x22 x25 v0 v1 v2 v3 v4 v5 v6 v7 v8 v9 v10 v11 v12 v13 v14 v15 v16 v17 v18 v19 v20 v21 v22 v23 v24 v25 HK VV
  clear y0 y1
  have HG2 := Lib.hid (grew_tr HG.out (GE.trans (hc9.belowB GE.size (fun k hk => by obtain ⟨b, hb, ha, rfl⟩ := hk; simp only [List.mem_cons, List.not_mem_nil, or_false] at hb; rcases hb with rfl | rfl <;> cases ha))))
  clear hc9 GE q0 q1 q2 q3 q4 q5 q6
  go_wp2
  go_ret
  exact ⟨rfl, HG2.out⟩
end Go.Proofs.YtdddhnepanjmfaaGreat
