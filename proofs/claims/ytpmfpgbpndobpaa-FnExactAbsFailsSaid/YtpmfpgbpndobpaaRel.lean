/- What a relation leaves of two bounds: the program's side. No condition. -/
import Derived.Test.YtpmfpgbpndobpaaItvM
import Derived.WideMake
import Derived.Test.YtpmfpgbpndobpaaRegG
import Derived.Test.YtpmfpgbpndobpaaSt
namespace Go.Proofs.Ytpmfpgbpndobpaa
open Go.RowKit
set_option linter.unusedVariables false
set_option linter.unusedSimpArgs false
attribute [local go_sem] ext_cell ext_frozen ext_lt ext_le ext_le1 lt_s2 lt_s3 lt_s4 lt_s5 lt_s6 ext_lt1 ext_lt2 ext_lt3

theorem implCutItv (x : Itv) (lo hi : Int) (w : World) : Calls Try.prog 71 #[x.v, .int .i64 lo, .int .i64 hi] w fun e w' => e = .returned (cutI x lo hi).v ∧ Grew w w' := by
  obtain ⟨a, b⟩ := x
  go_enter Try.func71, Try.ntmps71
  go_wp2
  all_goals
    go_returns
    refine ⟨by (simp [cutI]; try omega), ?_⟩
    repeat (first | with_reducible exact Below.refl _ _ | with_reducible assumption | with_reducible apply grew_ext | with_reducible apply grew_al | with_reducible apply grew_dn | with_reducible apply grew_d | (with_reducible refine grew_set ?_ (by first | omega | (repeat (first | with_reducible exact Nat.le_refl _ | with_reducible apply le_pl | with_reducible apply le_ext | with_reducible apply le_al))) _))
theorem implWithout (x y : Itv) (w : World) (hx : itvB x = true) (hy : itvB y = true) : Calls Try.prog 103 #[x.v, y.v] w fun e w' => e = .returned (woI x y).v ∧ Grew w w' := by
  obtain ⟨a, b⟩ := x
  obtain ⟨c, d⟩ := y
  rw [itvB_iff] at hx hy
  simp only at hx hy
  by_cases h1 : c = d
  · subst h1
    by_cases h2 : a = c
    · go_enter Try.func103, Try.ntmps103
      go_wp2
      go_returns
      refine ⟨by simp [woI, h2], ?_⟩
      repeat (first | with_reducible exact Below.refl _ _ | with_reducible assumption | with_reducible apply grew_ext | with_reducible apply grew_al | with_reducible apply grew_dn | with_reducible apply grew_d | (with_reducible refine grew_set ?_ (by first | omega | (repeat (first | with_reducible exact Nat.le_refl _ | with_reducible apply le_pl | with_reducible apply le_ext | with_reducible apply le_al))) _))
    · by_cases h3 : b = c
      · go_enter Try.func103, Try.ntmps103
        go_wp2
        go_returns
        refine ⟨by simp [woI, h2, h3], ?_⟩
        repeat (first | with_reducible exact Below.refl _ _ | with_reducible assumption | with_reducible apply grew_ext | with_reducible apply grew_al | with_reducible apply grew_dn | with_reducible apply grew_d | (with_reducible refine grew_set ?_ (by first | omega | (repeat (first | with_reducible exact Nat.le_refl _ | with_reducible apply le_pl | with_reducible apply le_ext | with_reducible apply le_al))) _))
      · go_enter Try.func103, Try.ntmps103
        go_wp2
        go_returns
        refine ⟨by simp [woI, h2, h3], ?_⟩
        repeat (first | with_reducible exact Below.refl _ _ | with_reducible assumption | with_reducible apply grew_ext | with_reducible apply grew_al | with_reducible apply grew_dn | with_reducible apply grew_d | (with_reducible refine grew_set ?_ (by first | omega | (repeat (first | with_reducible exact Nat.le_refl _ | with_reducible apply le_pl | with_reducible apply le_ext | with_reducible apply le_al))) _))
  · go_enter Try.func103, Try.ntmps103
    go_wp2
    go_returns
    refine ⟨by simp [woI, h1], ?_⟩
    repeat (first | with_reducible exact Below.refl _ _ | with_reducible assumption | with_reducible apply grew_ext | with_reducible apply grew_al | with_reducible apply grew_dn | with_reducible apply grew_d | (with_reducible refine grew_set ?_ (by first | omega | (repeat (first | with_reducible exact Nat.le_refl _ | with_reducible apply le_pl | with_reducible apply le_ext | with_reducible apply le_al))) _))
theorem bothOkG (a b : Itv) (w : World) :
    Calls Try.prog 66 #[a.v, b.v] w fun e w' => e = .returned (.bool (itvB a && itvB b)) ∧ Grew w w' := by
  obtain ⟨a1, a2⟩ := a
  obtain ⟨b1, b2⟩ := b
  show Calls _ _ _ _ fun e w' => e = .returned (.bool (itvOkB a1 a2 && itvOkB b1 b2)) ∧ Grew w w'
  have C := fun w => itvOk a1 a2 w
  have D := fun w => itvOk b1 b2 w
  generalize itvOkB b1 b2 = B at *
  cases h1 : itvOkB a1 a2
  · rw [h1] at C
    have HC := Lib.hid C
    clear C D h1
    go_enter Try.func66, Try.ntmps66
    go_wp2_with ((with_reducible refine (HC.out _).mono ?_); rintro e w' ⟨rfl, g'⟩; (first | obtain ⟨y, rfl⟩ := ext_cold g' | obtain ⟨y, rfl⟩ := ext_col g' | obtain ⟨y, rfl⟩ := ext_of g'); clear g')
    go_ret
    refine ⟨rfl, ?_⟩
    repeat (first | with_reducible exact Below.refl _ _ | with_reducible assumption | with_reducible apply grew_ext | with_reducible apply grew_al | with_reducible apply grew_dn | with_reducible apply grew_d | (with_reducible refine grew_set ?_ (by first | omega | (repeat (first | with_reducible exact Nat.le_refl _ | with_reducible apply le_pl | with_reducible apply le_ext | with_reducible apply le_al))) _))
  · rw [h1] at C
    have HC := Lib.hid C
    have HD := Lib.hid D
    clear C D h1
    go_enter Try.func66, Try.ntmps66
    go_wp2_with (first | ((with_reducible refine (HC.out _).mono ?_); rintro e w' ⟨rfl, g'⟩; (first | obtain ⟨y, rfl⟩ := ext_cold g' | obtain ⟨y, rfl⟩ := ext_col g' | obtain ⟨y, rfl⟩ := ext_of g'); clear g') | ((with_reducible refine (HD.out _).mono ?_); rintro e w' ⟨rfl, g'⟩; (first | obtain ⟨z, rfl⟩ := ext_cold g' | obtain ⟨z, rfl⟩ := ext_col g' | obtain ⟨z, rfl⟩ := ext_of g'); clear g'))
    go_ret
    refine ⟨by simp, ?_⟩
    repeat (first | with_reducible exact Below.refl _ _ | with_reducible assumption | with_reducible apply grew_ext | with_reducible apply grew_al | with_reducible apply grew_dn | with_reducible apply grew_d | (with_reducible refine grew_set ?_ (by first | omega | (repeat (first | with_reducible exact Nat.le_refl _ | with_reducible apply le_pl | with_reducible apply le_ext | with_reducible apply le_al))) _))
theorem mapSet (w : World) (o o' : Obj) : ({ w.alloc o with heap := (w.alloc o).heap.setIfInBounds w.heap.size o' } : World) = w.alloc o' := by
  have e : (w.heap.push o).setIfInBounds w.heap.size o' = w.heap.push o' := by
    apply Array.ext_getElem?
    intro i
    simp only [Array.getElem?_setIfInBounds, Array.getElem?_push, Array.size_push]
    by_cases h : w.heap.size = i
    · subst h
      simp
    · rw [if_neg h]
      by_cases h2 : i = w.heap.size
      · omega
      · simp [h2]
  simp only [World.alloc, e]
theorem mapPut {P : Program} (w : World) (mty kt et clock : Nat) (k : Int) (es : Array MapEntry) (val : Value) (hm : P.underlying mty = some (.map kt et)) (hk : P.underlying kt = some (.int .i64)) (hf : Instr.findNow (.int .i64) (.int .i64 k) es.toList 0 = some none) :
    (Instr.mapUpdate mty (.map (some w.heap.size)) (.int .i64 k) val).run P (w.alloc (.map es clock)) = .ok () (w.alloc (.map (es.push { key := .int .i64 k, val := val, born := clock }) (clock + 1))) := by
  have hb : (w.alloc (.map es clock)).heap[w.heap.size]? = some (.map es clock) := heap_alloc_new w _
  have hc : (Instr.checkKey false 10000 kt (.int .i64 k)).run P (w.alloc (.map es clock)) = .ok () (w.alloc (.map es clock)) := MapKept.run_checkKey (k := .int .i64 k) hk (by simp [MapKept.IsKey]) false 9999
  simp [Instr.mapUpdate, run_underlying hm, MapKept.run_getObj_map hb, hc, MapKept.run_findKey hk hf, MapKept.run_setObj_map _ hb, Result.andThen]
  exact mapSet w _ _
def entR (k : Int) (t : TypeId) (b : Nat) : MapEntry := { key := .int .i64 k, val := .iface t (.agg #[]), born := b }
def relMap : Obj := .map #[entR 1 132 0, entR 2 133 1, entR 3 126 2, entR 4 134 3] 4
theorem implRelations (w : World) : Calls Try.prog 70 #[] w fun e w' => e = .returned (.map (some w.heap.size)) ∧ w' = w.alloc relMap := by
  have hmm := run_makeMap (P := Try.prog) 123 w
  have p1 := mapPut (P := Try.prog) w 123 3 121 0 1 #[] (.iface 132 (.agg #[])) (by kernel_rfl) (by kernel_rfl) rfl
  have p2 := mapPut (P := Try.prog) w 123 3 121 1 2 (#[entR 1 132 0]) (.iface 133 (.agg #[])) (by kernel_rfl) (by kernel_rfl) rfl
  have p3 := mapPut (P := Try.prog) w 123 3 121 2 3 (#[entR 1 132 0, entR 2 133 1]) (.iface 126 (.agg #[])) (by kernel_rfl) (by kernel_rfl) rfl
  have p4 := mapPut (P := Try.prog) w 123 3 121 3 4 (#[entR 1 132 0, entR 2 133 1, entR 3 126 2]) (.iface 134 (.agg #[])) (by kernel_rfl) (by kernel_rfl) rfl
  obtain ⟨w1, h1⟩ : ∃ x, w.alloc (.map #[] 0) = x := ⟨_, rfl⟩
  obtain ⟨w2, h2⟩ : ∃ x, w.alloc (.map #[entR 1 132 0] 1) = x := ⟨_, rfl⟩
  obtain ⟨w3, h3⟩ : ∃ x, w.alloc (.map #[entR 1 132 0, entR 2 133 1] 2) = x := ⟨_, rfl⟩
  obtain ⟨w4, h4⟩ : ∃ x, w.alloc (.map #[entR 1 132 0, entR 2 133 1, entR 3 126 2] 3) = x := ⟨_, rfl⟩
  obtain ⟨w5, h5⟩ : ∃ x, w.alloc relMap = x := ⟨_, rfl⟩
  have q1 : (Instr.mapUpdate 123 (.map (some w.heap.size)) (.int .i64 1) (.iface 132 (.agg #[]))).run Try.prog w1 = .ok () w2 := by rw [← h1, ← h2]; exact p1
  have q2 : (Instr.mapUpdate 123 (.map (some w.heap.size)) (.int .i64 2) (.iface 133 (.agg #[]))).run Try.prog w2 = .ok () w3 := by rw [← h2, ← h3]; exact p2
  have q3 : (Instr.mapUpdate 123 (.map (some w.heap.size)) (.int .i64 3) (.iface 126 (.agg #[]))).run Try.prog w3 = .ok () w4 := by rw [← h3, ← h4]; exact p3
  have q4 : (Instr.mapUpdate 123 (.map (some w.heap.size)) (.int .i64 4) (.iface 134 (.agg #[]))).run Try.prog w4 = .ok () w5 := by rw [← h4, ← h5]; exact p4
  rw [h1] at hmm
  clear p1 p2 p3 p4 h1 h2 h3 h4
  have H5 := Lib.hid h5
  clear h5
  generalize hg : w.heap.size = g at *
  clear hg
  go_enter Try.func70, Try.ntmps70
  go_wp2
  go_ret
  exact ⟨rfl, H5.out.symm⟩
end Go.Proofs.Ytpmfpgbpndobpaa
