/- Lemmas and walks of this proof, some texts one behind the other. No condition. -/
import Derived.Test.YtpmfpgbpndobpaaGreatItvM
import Derived.WideMake
import Derived.Test.YtpmfpgbpndobpaaGreatRegG
import Derived.Test.YtpmfpgbpndobpaaGreatStN
import Derived.Test.YtpmfpgbpndobpaaGreatItvD
import Derived.Test.YtpmfpgbpndobpaaGreatHas
set_option linter.unusedSimpArgs false
set_option linter.unusedVariables false
/- What a relation leaves of two bounds: the program's side. No condition. -/
namespace Go.Proofs.YtpmfpgbpndobpaaGreat
open Go.RowKit
set_option linter.unusedVariables false
set_option linter.unusedSimpArgs false
attribute [local go_sem] ext_cell ext_frozen ext_lt ext_le ext_le1 lt_s2 lt_s3 lt_s4 lt_s5 lt_s6 ext_lt1 ext_lt2 ext_lt3

theorem implCutItv (x : Itv) (lo hi : Int) (w : World) : Calls Tryz.prog 131 #[x.v, .int .i64 lo, .int .i64 hi] w fun e w' => e = .returned (cutI x lo hi).v ∧ Grew w w' := by
  obtain ⟨a, b⟩ := x
  go_enter Tryz.func131, Tryz.ntmps131
  go_wp2
  all_goals
    go_returns
    refine ⟨by (simp [cutI]; try omega), ?_⟩
    exact gr
theorem implWithout (x y : Itv) (w : World) (hx : itvB x = true) (hy : itvB y = true) : Calls Tryz.prog 133 #[x.v, y.v] w fun e w' => e = .returned (woI x y).v ∧ Grew w w' := by
  obtain ⟨a, b⟩ := x
  obtain ⟨c, d⟩ := y
  rw [itvB_iff] at hx hy
  simp only at hx hy
  by_cases h1 : c = d
  · subst h1
    by_cases h2 : a = c
    · go_enter Tryz.func133, Tryz.ntmps133
      go_wp2
      go_returns
      refine ⟨by simp [woI, h2], ?_⟩
      exact gr
    · by_cases h3 : b = c
      · go_enter Tryz.func133, Tryz.ntmps133
        go_wp2
        go_returns
        refine ⟨by simp [woI, h2, h3], ?_⟩
        exact gr
      · go_enter Tryz.func133, Tryz.ntmps133
        go_wp2
        go_returns
        refine ⟨by simp [woI, h2, h3], ?_⟩
        exact gr
  · go_enter Tryz.func133, Tryz.ntmps133
    go_wp2
    go_returns
    refine ⟨by simp [woI, h1], ?_⟩
    exact gr
theorem bothOkG (a b : Itv) (w : World) :
    Calls Tryz.prog 130 #[a.v, b.v] w fun e w' => e = .returned (.bool (itvB a && itvB b)) ∧ Grew w w' := by
  obtain ⟨a1, a2⟩ := a
  obtain ⟨b1, b2⟩ := b
  show Calls _ _ _ _ fun e w' => e = .returned (.bool (itvOkB a1 a2 && itvOkB b1 b2)) ∧ Grew w w'
  have C := fun w => itvOk a1 a2 w
  have D := fun w => itvOk b1 b2 w
  generalize itvOkB b1 b2 = B at *
  cases h1 : itvOkB a1 a2
  · rw [h1] at C
    have HC := Lib.hid C
    clear C D h1
    go_enter Tryz.func130, Tryz.ntmps130
    go_wp2_with ((with_reducible refine (HC.out _).mono ?_); rintro e w' ⟨rfl, g'⟩; (first | obtain ⟨y, rfl⟩ := ext_cold g' | obtain ⟨y, rfl⟩ := ext_col g' | obtain ⟨y, rfl⟩ := ext_of g'); clear g')
    go_ret
    refine ⟨rfl, ?_⟩
    exact gr
  · rw [h1] at C
    have HC := Lib.hid C
    have HD := Lib.hid D
    clear C D h1
    go_enter Tryz.func130, Tryz.ntmps130
    go_wp2_with (first | ((with_reducible refine (HC.out _).mono ?_); rintro e w' ⟨rfl, g'⟩; (first | obtain ⟨y, rfl⟩ := ext_cold g' | obtain ⟨y, rfl⟩ := ext_col g' | obtain ⟨y, rfl⟩ := ext_of g'); clear g') | ((with_reducible refine (HD.out _).mono ?_); rintro e w' ⟨rfl, g'⟩; (first | obtain ⟨z, rfl⟩ := ext_cold g' | obtain ⟨z, rfl⟩ := ext_col g' | obtain ⟨z, rfl⟩ := ext_of g'); clear g'))
    go_ret
    refine ⟨by simp, ?_⟩
    exact gr
theorem mapSet (w : World) (o o' : Obj) : ({ w.alloc o with heap := (w.alloc o).heap.setIfInBounds w.heap.size o' } : World) = w.alloc o' := by
  have e : (w.heap.push o).setIfInBounds w.heap.size o' = w.heap.push o' := by
    apply Array.ext_getElem?
    intro i
    simp only [Array.getElem?_setIfInBounds, Array.getElem?_push, Array.size_push]
    by_cases h : w.heap.size = i
    · subst h
      simp
    · rw [if_neg h]
      by_cases h2 : i = w.heap.size
      · omega
      · simp [h2]
  simp only [World.alloc, e]
theorem mapPut {P : Program} (w : World) (mty kt et clock : Nat) (k : Int) (es : Array MapEntry) (val : Value) (hm : P.underlying mty = some (.map kt et)) (hk : P.underlying kt = some (.int .i64)) (hf : Instr.findNow (.int .i64) (.int .i64 k) es.toList 0 = some none) :
    (Instr.mapUpdate mty (.map (some w.heap.size)) (.int .i64 k) val).run P (w.alloc (.map es clock)) = .ok () (w.alloc (.map (es.push { key := .int .i64 k, val := val, born := clock }) (clock + 1))) := by
  have hb : (w.alloc (.map es clock)).heap[w.heap.size]? = some (.map es clock) := heap_alloc_new w _
  have hc : (Instr.checkKey false 10000 kt (.int .i64 k)).run P (w.alloc (.map es clock)) = .ok () (w.alloc (.map es clock)) := MapKept.run_checkKey (k := .int .i64 k) hk (by simp [MapKept.IsKey]) false 9999
  simp [Instr.mapUpdate, run_underlying hm, MapKept.run_getObj_map hb, hc, MapKept.run_findKey hk hf, MapKept.run_setObj_map _ hb, Result.andThen]
  exact mapSet w _ _
def entR (k : Int) (t : TypeId) (b : Nat) : MapEntry := { key := .int .i64 k, val := .iface t (.agg #[]), born := b }
def relMap : Obj := .map #[entR 1 217 0, entR 2 218 1, entR 3 197 2, entR 4 219 3] 4
theorem implRelations (w : World) : Calls Tryz.prog 129 #[] w fun e w' => e = .returned (.map (some w.heap.size)) ∧ w' = w.alloc relMap := by
  have hmm := run_makeMap (P := Tryz.prog) 194 w
  have p1 := mapPut (P := Tryz.prog) w 194 3 192 0 1 #[] (.iface 217 (.agg #[])) (by kernel_rfl) (by kernel_rfl) rfl
  have p2 := mapPut (P := Tryz.prog) w 194 3 192 1 2 (#[entR 1 217 0]) (.iface 218 (.agg #[])) (by kernel_rfl) (by kernel_rfl) rfl
  have p3 := mapPut (P := Tryz.prog) w 194 3 192 2 3 (#[entR 1 217 0, entR 2 218 1]) (.iface 197 (.agg #[])) (by kernel_rfl) (by kernel_rfl) rfl
  have p4 := mapPut (P := Tryz.prog) w 194 3 192 3 4 (#[entR 1 217 0, entR 2 218 1, entR 3 197 2]) (.iface 219 (.agg #[])) (by kernel_rfl) (by kernel_rfl) rfl
  obtain ⟨w1, h1⟩ : ∃ x, w.alloc (.map #[] 0) = x := ⟨_, rfl⟩
  obtain ⟨w2, h2⟩ : ∃ x, w.alloc (.map #[entR 1 217 0] 1) = x := ⟨_, rfl⟩
  obtain ⟨w3, h3⟩ : ∃ x, w.alloc (.map #[entR 1 217 0, entR 2 218 1] 2) = x := ⟨_, rfl⟩
  obtain ⟨w4, h4⟩ : ∃ x, w.alloc (.map #[entR 1 217 0, entR 2 218 1, entR 3 197 2] 3) = x := ⟨_, rfl⟩
  obtain ⟨w5, h5⟩ : ∃ x, w.alloc relMap = x := ⟨_, rfl⟩
  have q1 : (Instr.mapUpdate 194 (.map (some w.heap.size)) (.int .i64 1) (.iface 217 (.agg #[]))).run Tryz.prog w1 = .ok () w2 := by rw [← h1, ← h2]; exact p1
  have q2 : (Instr.mapUpdate 194 (.map (some w.heap.size)) (.int .i64 2) (.iface 218 (.agg #[]))).run Tryz.prog w2 = .ok () w3 := by rw [← h2, ← h3]; exact p2
  have q3 : (Instr.mapUpdate 194 (.map (some w.heap.size)) (.int .i64 3) (.iface 197 (.agg #[]))).run Tryz.prog w3 = .ok () w4 := by rw [← h3, ← h4]; exact p3
  have q4 : (Instr.mapUpdate 194 (.map (some w.heap.size)) (.int .i64 4) (.iface 219 (.agg #[]))).run Tryz.prog w4 = .ok () w5 := by rw [← h4, ← h5]; exact p4
  rw [h1] at hmm
  clear p1 p2 p3 p4 h1 h2 h3 h4
  have H5 := Lib.hid h5
  clear h5
  generalize hg : w.heap.size = g at *
  clear hg
  go_enter Tryz.func129, Tryz.ntmps129
  go_wp2
  go_ret
  exact ⟨rfl, H5.out.symm⟩
end Go.Proofs.YtpmfpgbpndobpaaGreat

/- What an operation makes of numbers: the program's small functions. No condition. -/
namespace Go.Proofs.YtpmfpgbpndobpaaGreat
open Go.RowKit
set_option linter.unusedVariables false
set_option linter.unusedSimpArgs false
attribute [local go_sem] ext_cell ext_frozen ext_lt ext_le ext_le1 lt_s2 lt_s3 lt_s4 lt_s5 lt_s6 ext_lt1 ext_lt2 ext_lt3

theorem i64in {n : Int} (h1 : -9223372036854775808 ≤ n) (h2 : n ≤ 9223372036854775807) : IntKind.i64.wrap n = n := by
  simp [IntKind.wrap, IntKind.bits, IntKind.signed]
  split <;> omega
theorem implNumWrap (n : Int) (w : World) : Calls Tryz.prog 168 #[.int .i64 n] w fun e w' => e = .returned (.int .i64 (w16 n)) ∧ w = w' := by
  have e : IntKind.i64.wrap (IntKind.i16.wrap n) = w16 n := by
    rw [w16_wrap]
    have := w16_le n
    exact i64in (by omega) (by omega)
  go_enter Tryz.func168, Tryz.ntmps168
  go_wp2
  go_ret
  exact ⟨by first | (rw [← e]; done) | (simp [← e]; done), rfl⟩
theorem implItvAll (w : World) : Calls Tryz.prog 169 #[] w fun e w' => e = .returned (.agg #[.int .i64 (-32768), .int .i64 32767]) ∧ Grew w w' := by
  go_enter Tryz.func169, Tryz.ntmps169
  go_wp2
  go_returns
  exact ⟨rfl, by unfold Grew; go_grown⟩
theorem implSingle (n : Int) (w : World) : Calls Tryz.prog 134 #[.int .i64 n] w fun e w' => e = .returned (.agg #[.int .i64 n, .int .i64 n]) ∧ Grew w w' := by
  go_enter Tryz.func134, Tryz.ntmps134
  go_wp2
  go_returns
  exact ⟨rfl, by unfold Grew; go_grown⟩
set_option maxHeartbeats 1000000 in
theorem implItvFold (lo hi : Int) (w : World) (h1 : lo ≤ hi) (h2 : -2147483648 ≤ lo) (h3 : hi ≤ 2147483648) :
    Calls Tryz.prog 155 #[.int .i64 lo, .int .i64 hi] w fun e w' => e = .returned (foldI lo hi).v ∧ Grew w w' := by
  have HL := Lib.hid (fun W => implNumWrap lo W)
  have HH := Lib.hid (fun W => implNumWrap hi W)
  have HA := Lib.hid (fun W => implItvAll W)
  have b1 := w16_le lo
  have b2 := w16_le hi
  rw [foldI]
  obtain ⟨p, hp⟩ : ∃ p, w16 lo = p := ⟨_, rfl⟩
  obtain ⟨q, hq⟩ : ∃ p, w16 hi = p := ⟨_, rfl⟩
  rw [hp] at HL b1 ⊢
  rw [hq] at HH b2 ⊢
  clear hp hq
  have a1 : ¬ hi < lo := by omega
  have a2 : ¬ lo < -1099511627776 := by omega
  have a3 : ¬ 1099511627776 < hi := by omega
  by_cases h : lo - p = hi - q
  · rw [if_pos h]
    have hb : (lo - p != hi - q) = false := by simp [h]
    clear h
    go_enter Tryz.func155, Tryz.ntmps155
    go_wp2_with (first | ((with_reducible refine (HL.out _).mono ?_); rintro e w' ⟨rfl, rfl⟩) | ((with_reducible refine (HH.out _).mono ?_); rintro e w' ⟨rfl, rfl⟩))
    go_returns
    exact ⟨rfl, gr⟩
  · rw [if_neg h]
    have hb : (lo - p != hi - q) = true := by simp [h]
    clear h
    go_enter Tryz.func155, Tryz.ntmps155
    go_wp2_with (first | ((with_reducible refine (HL.out _).mono ?_); rintro e w' ⟨rfl, rfl⟩) | ((with_reducible refine (HH.out _).mono ?_); rintro e w' ⟨rfl, rfl⟩) | ((with_reducible refine (HA.out _).mono ?_); rintro e w' ⟨rfl, g'⟩; (first | obtain ⟨z, rfl⟩ := ext_cold g' | obtain ⟨z, rfl⟩ := ext_col g' | obtain ⟨z, rfl⟩ := ext_of g'); clear g'))
    refine bodyPost_ret (by simp [results, Tryz.results155, go_sem]; try rfl) rfl ?_
    exact ⟨rfl, gr⟩
theorem implAdd (a b : Int) (w : World) (h : -9223372036854775808 ≤ a + b ∧ a + b ≤ 9223372036854775807) : Calls Tryz.prog 174 #[.int .i64 a, .int .i64 b] w fun e w' => e = .returned (.int .i64 (a + b)) ∧ Grew w w' := by
  have e := i64in h.1 h.2
  go_enter Tryz.func174, Tryz.ntmps174
  go_wp2
  go_ret
  exact ⟨by simp [e], gr⟩
theorem implSub (a b : Int) (w : World) (h : -9223372036854775808 ≤ a - b ∧ a - b ≤ 9223372036854775807) : Calls Tryz.prog 175 #[.int .i64 a, .int .i64 b] w fun e w' => e = .returned (.int .i64 (a - b)) ∧ Grew w w' := by
  have e := i64in h.1 h.2
  go_enter Tryz.func175, Tryz.ntmps175
  go_wp2
  go_ret
  exact ⟨by simp [e], gr⟩
theorem implMul (a b : Int) (w : World) (h : -9223372036854775808 ≤ a * b ∧ a * b ≤ 9223372036854775807) : Calls Tryz.prog 176 #[.int .i64 a, .int .i64 b] w fun e w' => e = .returned (.int .i64 (a * b)) ∧ Grew w w' := by
  have e := i64in h.1 h.2
  go_enter Tryz.func176, Tryz.ntmps176
  go_wp2
  go_ret
  exact ⟨by simp [e], gr⟩
theorem implDiv (a b : Int) (w : World) (h : -9223372036854775808 ≤ a.tdiv b ∧ a.tdiv b ≤ 9223372036854775807) (hb : ¬ b = 0) : Calls Tryz.prog 177 #[.int .i64 a, .int .i64 b] w fun e w' => e = .returned (.int .i64 (a.tdiv b)) ∧ Grew w w' := by
  have e := i64in h.1 h.2
  go_enter Tryz.func177, Tryz.ntmps177
  go_wp2
  go_ret
  exact ⟨by simp [e], gr⟩
/-- The operations of a number. -/
theorem implOps (a : Int) (w : World) : Calls Tryz.prog 167 #[.int .i64 a] w fun e w' => ∃ g, e = .returned (.slice (some ⟨g, 0, none⟩) 4 4) ∧
    (w'.cell? ⟨g, 0, none⟩ = some (.func (.func 174) #[.int .i64 a] #[]) ∧ w'.cell? ⟨g, 1, none⟩ = some (.func (.func 175) #[.int .i64 a] #[]) ∧
      w'.cell? ⟨g, 2, none⟩ = some (.func (.func 176) #[.int .i64 a] #[]) ∧ w'.cell? ⟨g, 3, none⟩ = some (.func (.func 177) #[.int .i64 a] #[])) ∧ g < w'.heap.size ∧ Grew w w' := by
  go_enter Tryz.func167, Tryz.ntmps167
  go_wp2
  go_ret
  exact ⟨_, rfl, by simp [go_sem], by simp, gr⟩
end Go.Proofs.YtpmfpgbpndobpaaGreat
