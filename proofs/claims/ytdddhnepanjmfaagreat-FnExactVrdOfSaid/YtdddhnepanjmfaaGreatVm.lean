/- Lemmas and walks of this proof, some texts one behind the other. No condition. -/
import Derived.Test.YtdddhnepanjmfaaGreatItvM
import Derived.WideMake
import Derived.Test.YtdddhnepanjmfaaGreatRegG
import Derived.Test.YtdddhnepanjmfaaGreatSt
import Derived.Test.YtdddhnepanjmfaaGreatVs
set_option linter.unusedSimpArgs false
set_option linter.unusedVariables false
/- What a relation leaves of two bounds: the program's side. No condition. -/
namespace Go.Proofs.YtdddhnepanjmfaaGreat
open Go.RowKit
set_option linter.unusedVariables false
set_option linter.unusedSimpArgs false
attribute [local go_sem] ext_cell ext_frozen ext_lt ext_le ext_le1 lt_s2 lt_s3 lt_s4 lt_s5 lt_s6 ext_lt1 ext_lt2 ext_lt3

theorem implCutItv (x : Itv) (lo hi : Int) (w : World) : Calls Tryz.prog 174 #[x.v, .int .i64 lo, .int .i64 hi] w fun e w' => e = .returned (cutI x lo hi).v ∧ Grew w w' := by
  obtain ⟨a, b⟩ := x
  go_enter Tryz.func174, Tryz.ntmps174
  go_wp2
  all_goals
    go_returns
    refine ⟨by (simp [cutI]; try omega), ?_⟩
    exact gr
theorem implWithout (x y : Itv) (w : World) (hx : itvB x = true) (hy : itvB y = true) : Calls Tryz.prog 208 #[x.v, y.v] w fun e w' => e = .returned (woI x y).v ∧ Grew w w' := by
  obtain ⟨a, b⟩ := x
  obtain ⟨c, d⟩ := y
  rw [itvB_iff] at hx hy
  simp only at hx hy
  by_cases h1 : c = d
  · subst h1
    by_cases h2 : a = c
    · go_enter Tryz.func208, Tryz.ntmps208
      go_wp2
      go_returns
      refine ⟨by simp [woI, h2], ?_⟩
      exact gr
    · by_cases h3 : b = c
      · go_enter Tryz.func208, Tryz.ntmps208
        go_wp2
        go_returns
        refine ⟨by simp [woI, h2, h3], ?_⟩
        exact gr
      · go_enter Tryz.func208, Tryz.ntmps208
        go_wp2
        go_returns
        refine ⟨by simp [woI, h2, h3], ?_⟩
        exact gr
  · go_enter Tryz.func208, Tryz.ntmps208
    go_wp2
    go_returns
    refine ⟨by simp [woI, h1], ?_⟩
    exact gr
theorem bothOkG (a b : Itv) (w : World) :
    Calls Tryz.prog 161 #[a.v, b.v] w fun e w' => e = .returned (.bool (itvB a && itvB b)) ∧ Grew w w' := by
  obtain ⟨a1, a2⟩ := a
  obtain ⟨b1, b2⟩ := b
  show Calls _ _ _ _ fun e w' => e = .returned (.bool (itvOkB a1 a2 && itvOkB b1 b2)) ∧ Grew w w'
  have C := fun w => itvOk a1 a2 w
  have D := fun w => itvOk b1 b2 w
  generalize itvOkB b1 b2 = B at *
  cases h1 : itvOkB a1 a2
  · rw [h1] at C
    have HC := Lib.hid C
    clear C D h1
    go_enter Tryz.func161, Tryz.ntmps161
    go_wp2_with ((with_reducible refine (HC.out _).mono ?_); rintro e w' ⟨rfl, g'⟩; (first | obtain ⟨y, rfl⟩ := ext_cold g' | obtain ⟨y, rfl⟩ := ext_col g' | obtain ⟨y, rfl⟩ := ext_of g'); clear g')
    go_ret
    refine ⟨rfl, ?_⟩
    exact gr
  · rw [h1] at C
    have HC := Lib.hid C
    have HD := Lib.hid D
    clear C D h1
    go_enter Tryz.func161, Tryz.ntmps161
    go_wp2_with (first | ((with_reducible refine (HC.out _).mono ?_); rintro e w' ⟨rfl, g'⟩; (first | obtain ⟨y, rfl⟩ := ext_cold g' | obtain ⟨y, rfl⟩ := ext_col g' | obtain ⟨y, rfl⟩ := ext_of g'); clear g') | ((with_reducible refine (HD.out _).mono ?_); rintro e w' ⟨rfl, g'⟩; (first | obtain ⟨z, rfl⟩ := ext_cold g' | obtain ⟨z, rfl⟩ := ext_col g' | obtain ⟨z, rfl⟩ := ext_of g'); clear g'))
    go_ret
    refine ⟨by simp, ?_⟩
    exact gr
theorem mapSet (w : World) (o o' : Obj) : ({ w.alloc o with heap := (w.alloc o).heap.setIfInBounds w.heap.size o' } : World) = w.alloc o' := by
  have e : (w.heap.push o).setIfInBounds w.heap.size o' = w.heap.push o' := by
    apply Array.ext_getElem?
    intro i
    simp only [Array.getElem?_setIfInBounds, Array.getElem?_push, Array.size_push]
    by_cases h : w.heap.size = i
    · subst h
      simp
    · rw [if_neg h]
      by_cases h2 : i = w.heap.size
      · omega
      · simp [h2]
  simp only [World.alloc, e]
theorem mapPut {P : Program} (w : World) (mty kt et clock : Nat) (k : Int) (es : Array MapEntry) (val : Value) (hm : P.underlying mty = some (.map kt et)) (hk : P.underlying kt = some (.int .i64)) (hf : Instr.findNow (.int .i64) (.int .i64 k) es.toList 0 = some none) :
    (Instr.mapUpdate mty (.map (some w.heap.size)) (.int .i64 k) val).run P (w.alloc (.map es clock)) = .ok () (w.alloc (.map (es.push { key := .int .i64 k, val := val, born := clock }) (clock + 1))) := by
  have hb : (w.alloc (.map es clock)).heap[w.heap.size]? = some (.map es clock) := heap_alloc_new w _
  have hc : (Instr.checkKey false 10000 kt (.int .i64 k)).run P (w.alloc (.map es clock)) = .ok () (w.alloc (.map es clock)) := MapKept.run_checkKey (k := .int .i64 k) hk (by simp [MapKept.IsKey]) false 9999
  simp [Instr.mapUpdate, run_underlying hm, MapKept.run_getObj_map hb, hc, MapKept.run_findKey hk hf, MapKept.run_setObj_map _ hb, Result.andThen]
  exact mapSet w _ _
def entR (k : Int) (t : TypeId) (b : Nat) : MapEntry := { key := .int .i64 k, val := .iface t (.agg #[]), born := b }
def relMap : Obj := .map #[entR 1 262 0, entR 2 263 1, entR 3 253 2, entR 4 264 3] 4
theorem implRelations (w : World) : Calls Tryz.prog 173 #[] w fun e w' => e = .returned (.map (some w.heap.size)) ∧ w' = w.alloc relMap := by
  have hmm := run_makeMap (P := Tryz.prog) 250 w
  have p1 := mapPut (P := Tryz.prog) w 250 3 248 0 1 #[] (.iface 262 (.agg #[])) (by kernel_rfl) (by kernel_rfl) rfl
  have p2 := mapPut (P := Tryz.prog) w 250 3 248 1 2 (#[entR 1 262 0]) (.iface 263 (.agg #[])) (by kernel_rfl) (by kernel_rfl) rfl
  have p3 := mapPut (P := Tryz.prog) w 250 3 248 2 3 (#[entR 1 262 0, entR 2 263 1]) (.iface 253 (.agg #[])) (by kernel_rfl) (by kernel_rfl) rfl
  have p4 := mapPut (P := Tryz.prog) w 250 3 248 3 4 (#[entR 1 262 0, entR 2 263 1, entR 3 253 2]) (.iface 264 (.agg #[])) (by kernel_rfl) (by kernel_rfl) rfl
  obtain ⟨w1, h1⟩ : ∃ x, w.alloc (.map #[] 0) = x := ⟨_, rfl⟩
  obtain ⟨w2, h2⟩ : ∃ x, w.alloc (.map #[entR 1 262 0] 1) = x := ⟨_, rfl⟩
  obtain ⟨w3, h3⟩ : ∃ x, w.alloc (.map #[entR 1 262 0, entR 2 263 1] 2) = x := ⟨_, rfl⟩
  obtain ⟨w4, h4⟩ : ∃ x, w.alloc (.map #[entR 1 262 0, entR 2 263 1, entR 3 253 2] 3) = x := ⟨_, rfl⟩
  obtain ⟨w5, h5⟩ : ∃ x, w.alloc relMap = x := ⟨_, rfl⟩
  have q1 : (Instr.mapUpdate 250 (.map (some w.heap.size)) (.int .i64 1) (.iface 262 (.agg #[]))).run Tryz.prog w1 = .ok () w2 := by rw [← h1, ← h2]; exact p1
  have q2 : (Instr.mapUpdate 250 (.map (some w.heap.size)) (.int .i64 2) (.iface 263 (.agg #[]))).run Tryz.prog w2 = .ok () w3 := by rw [← h2, ← h3]; exact p2
  have q3 : (Instr.mapUpdate 250 (.map (some w.heap.size)) (.int .i64 3) (.iface 253 (.agg #[]))).run Tryz.prog w3 = .ok () w4 := by rw [← h3, ← h4]; exact p3
  have q4 : (Instr.mapUpdate 250 (.map (some w.heap.size)) (.int .i64 4) (.iface 264 (.agg #[]))).run Tryz.prog w4 = .ok () w5 := by rw [← h4, ← h5]; exact p4
  rw [h1] at hmm
  clear p1 p2 p3 p4 h1 h2 h3 h4
  have H5 := Lib.hid h5
  clear h5
  generalize hg : w.heap.size = g at *
  clear hg
  go_enter Tryz.func173, Tryz.ntmps173
  go_wp2
  go_ret
  exact ⟨rfl, H5.out.symm⟩
end Go.Proofs.YtdddhnepanjmfaaGreat

/- Maps by places: from a place to a pointer; put and looked up. No condition. -/
namespace Go.Proofs.YtdddhnepanjmfaaGreat
open Go.RowKit
set_option linter.unusedVariables false
set_option linter.unusedSimpArgs false
attribute [local go_sem] ext_cell ext_frozen ext_lt ext_le ext_le1 lt_s2 lt_s3 lt_s4 lt_s5 lt_s6 ext_lt1 ext_lt2 ext_lt3

theorem siteEq (a b : Site) (w : World) : (Op.equal 62 (.agg (sitC a).toArray) (.agg (sitC b).toArray)).run Tryz.prog w = .ok (decide (a = b)) w := by
  obtain ⟨p, q⟩ := a
  obtain ⟨r, s⟩ := b
  simp only [sitC]
  unfold Op.equal Op.maxDepth
  by_cases h1 : p = r
  · by_cases h2 : q = s <;> simp [go_sem, h1, h2]
  · simp [go_sem, h1]
theorem siteKey (a : Site) (e : Bool) (w : World) : (Instr.checkKey e 10000 62 (.agg (sitC a).toArray)).run Tryz.prog w = .ok () w := by
  obtain ⟨p, q⟩ := a
  simp only [sitC]
  kernel_rfl
/-- What stands at a place in a list of places with values. -/
def lookV : List (Site × Value) → Site → Option Value
  | [], _ => none
  | (k, v) :: r, s => if s = k then some v else lookV r s
theorem siteAsk (w : World) (s : Site) : ∀ (es : List MapEntry) (ks : List (Site × Value)) (i : Nat), es.map (fun e => (e.key, e.val)) = ks.map (fun k => (Value.agg (sitC k.1).toArray, k.2)) →
    ∃ r, (Instr.findAsking 62 (.agg (sitC s).toArray) es i).run Tryz.prog w = .ok r w ∧ r.map (·.2) = lookV ks s
  | [], [], i, _ => ⟨none, by simp [Instr.findAsking], rfl⟩
  | [], k :: ks, i, h => by simp at h
  | e :: es, [], i, h => by simp at h
  | e :: es, (k, v) :: ks, i, h => by
    simp only [List.map_cons, List.cons.injEq, Prod.mk.injEq] at h
    obtain ⟨⟨h1, h2⟩, h3⟩ := h
    by_cases hs : s = k
    · refine ⟨some (i, e.val), ?_, by simp [lookV, hs, h2]⟩
      simp [Instr.findAsking, h1, siteEq, hs, Result.andThen]
    · obtain ⟨r, hr1, hr2⟩ := siteAsk w s es ks (i + 1) h3
      refine ⟨r, ?_, by rw [hr2, lookV, if_neg hs]⟩
      simp [Instr.findAsking, h1, siteEq, hs, Result.andThen, hr1]
theorem siteFind (w : World) (s : Site) (es : List MapEntry) (ks : List (Site × Value)) (h : es.map (fun e => (e.key, e.val)) = ks.map (fun k => (Value.agg (sitC k.1).toArray, k.2))) :
    ∃ r, (Instr.findKey 62 (.agg (sitC s).toArray) es).run Tryz.prog w = .ok r w ∧ r.map (·.2) = lookV ks s := by
  have hu : ∃ d, Tryz.prog.underlying 62 = some (.struct d) := ⟨_, Tryz.underlying62⟩
  obtain ⟨d, hu⟩ := hu
  unfold Instr.findKey
  simp only [Sem.run_bind, run_underlying hu, Result.andThen_ok]
  cases es with
  | nil =>
    cases ks with
    | nil => exact ⟨none, by simp [Instr.findNow], rfl⟩
    | cons k ks => simp at h
  | cons e es =>
    have hn : Instr.findNow (.struct d) (.agg (sitC s).toArray) (e :: es) 0 = none := by simp [Instr.findNow, Instr.sameNow]
    rw [hn]
    exact siteAsk w s (e :: es) ks 0 h
/-- Block g is a map: these places, with these values. -/
def MapS (g : Nat) (ks : List (Site × Value)) (w : World) : Prop := ∃ es clock, w.heap[g]? = some (.map es clock) ∧ es.toList.map (fun e => (e.key, e.val)) = ks.map (fun k => (Value.agg (sitC k.1).toArray, k.2))
theorem MapS.lt {g : Nat} {ks : List (Site × Value)} {w : World} (h : MapS g ks w) : g < w.heap.size := by
  obtain ⟨es, clock, h1, -⟩ := h
  exact (Array.getElem?_eq_some_iff.1 h1).1
theorem MapS.chg {F : Nat → Prop} {g : Nat} {ks : List (Site × Value)} {w w' : World} (h : MapS g ks w) (c : Chg F w w') (hF : ¬ F g) : MapS g ks w' := by
  have hl := h.lt
  obtain ⟨es, clock, h1, h2⟩ := h
  exact ⟨es, clock, (c.block g hl hF).trans h1, h2⟩
theorem MapS.grew {g : Nat} {ks : List (Site × Value)} {w w' : World} (h : MapS g ks w) (c : Grew w w') : MapS g ks w' := h.chg (Chg.of_below (F := fun _ => False) c) (fun e => e)
theorem MapS.look {g : Nat} {ks : List (Site × Value)} {w : World} (h : MapS g ks w) (s : Site) : (Instr.lookup 118 (.map (some g)) (.agg (sitC s).toArray) false).run Tryz.prog w = .ok ((lookV ks s).getD (.pointer none)) w := by
  obtain ⟨es, clock, h1, h2⟩ := h
  have hm : Tryz.prog.underlying 118 = some (.map 62 115) := by kernel_rfl
  have hz : (zeroValue 115).run Tryz.prog w = .ok (.pointer none) w := by kernel_rfl
  obtain ⟨r, hr1, hr2⟩ := siteFind w s es.toList ks h2
  rw [← hr2]
  cases r with
  | none => simp [Instr.lookup, run_underlying hm, MapKept.run_getObj_map h1, siteKey, hr1, hz, Result.andThen]
  | some r => simp [Instr.lookup, run_underlying hm, MapKept.run_getObj_map h1, siteKey, hr1, Result.andThen]
theorem MapS.put {g : Nat} {ks : List (Site × Value)} {w : World} (h : MapS g ks w) (s : Site) (v : Value) (hs : lookV ks s = none) :
    ∃ w', (Instr.mapUpdate 118 (.map (some g)) (.agg (sitC s).toArray) v).run Tryz.prog w = .ok () w' ∧ MapS g (ks ++ [(s, v)]) w' ∧ Chg (fun b => b = g) w w' := by
  have hl := h.lt
  obtain ⟨es, clock, h1, h2⟩ := h
  have hm : Tryz.prog.underlying 118 = some (.map 62 115) := by kernel_rfl
  obtain ⟨r, hr1, hr2⟩ := siteFind w s es.toList ks h2
  rw [hs] at hr2
  obtain rfl : r = none := by cases r <;> simp_all
  refine ⟨{ w with heap := w.heap.setIfInBounds g (.map (es.push { key := .agg (sitC s).toArray, val := v, born := clock }) (clock + 1)) }, ?_, ⟨_, _, (MapKept.heap_set h1).1, by simp [h2]⟩, ⟨rfl, rfl, rfl, by simp, fun k hk hn => (MapKept.heap_set h1).2 k hn⟩⟩
  simp [Instr.mapUpdate, run_underlying hm, MapKept.run_getObj_map h1, siteKey, hr1, MapKept.run_setObj_map _ h1, Result.andThen]
theorem MapS.made (w : World) : MapS w.heap.size [] (w.alloc (.map #[] 0)) := ⟨#[], 0, heap_alloc_new w _, rfl⟩
/-- Block g is a map with these numbers as its keys. -/
def MapO (g : Nat) (ks : List Int) (w : World) : Prop := ∃ es clock, w.heap[g]? = some (.map es clock) ∧ es.toList.map (fun e => e.key) = ks.map (fun k => Value.int .i64 k)
theorem MapO.lt {g : Nat} {ks : List Int} {w : World} (h : MapO g ks w) : g < w.heap.size := by
  obtain ⟨es, clock, h1, -⟩ := h
  exact (Array.getElem?_eq_some_iff.1 h1).1
theorem MapO.chg {F : Nat → Prop} {g : Nat} {ks : List Int} {w w' : World} (h : MapO g ks w) (c : Chg F w w') (hF : ¬ F g) : MapO g ks w' := by
  have hl := h.lt
  obtain ⟨es, clock, h1, h2⟩ := h
  exact ⟨es, clock, (c.block g hl hF).trans h1, h2⟩
theorem MapO.grew {g : Nat} {ks : List Int} {w w' : World} (h : MapO g ks w) (c : Grew w w') : MapO g ks w' := h.chg (Chg.of_below (F := fun _ => False) c) (fun e => e)
theorem findNew (k : Int) : ∀ (es : List MapEntry) (ks : List Int) (i : Nat), es.map (fun e => e.key) = ks.map (fun k => Value.int .i64 k) → k ∉ ks → Instr.findNow (.int .i64) (.int .i64 k) es i = some none
  | [], _, _, _, _ => rfl
  | e :: es, [], _, h, _ => by simp at h
  | e :: es, x :: ks, i, h, hk => by
    simp only [List.map_cons, List.cons.injEq] at h
    simp only [List.mem_cons, not_or] at hk
    have hx : (k == x) = false := by simpa using hk.1
    unfold Instr.findNow
    rw [h.1]
    simp only [Instr.sameNow, if_true, hx]
    exact findNew k es ks (i + 1) h.2 hk.2
theorem MapO.put {g : Nat} {ks : List Int} {w : World} (h : MapO g ks w) (k : Int) (v : Value) (hs : k ∉ ks) :
    ∃ w', (Instr.mapUpdate 119 (.map (some g)) (.int .i64 k) v).run Tryz.prog w = .ok () w' ∧ MapO g (ks ++ [k]) w' ∧ Chg (fun b => b = g) w w' := by
  obtain ⟨es, clock, h1, h2⟩ := h
  have hm : Tryz.prog.underlying 119 = some (.map 3 122) := by kernel_rfl
  have hk : Tryz.prog.underlying 3 = some (.int .i64) := by kernel_rfl
  have hc : (Instr.checkKey false 10000 3 (.int .i64 k)).run Tryz.prog w = .ok () w := MapKept.run_checkKey (k := .int .i64 k) hk (by simp [MapKept.IsKey]) false 9999
  have hf := findNew k es.toList ks 0 h2 hs
  refine ⟨{ w with heap := w.heap.setIfInBounds g (.map (es.push { key := .int .i64 k, val := v, born := clock }) (clock + 1)) }, ?_, ⟨_, _, (MapKept.heap_set h1).1, by simp [h2]⟩, ⟨rfl, rfl, rfl, by simp, fun k hk hn => (MapKept.heap_set h1).2 k hn⟩⟩
  simp [Instr.mapUpdate, run_underlying hm, MapKept.run_getObj_map h1, hc, MapKept.run_findKey hk hf, MapKept.run_setObj_map _ h1, Result.andThen]
theorem MapO.made (w : World) : MapO w.heap.size [] (w.alloc (.map #[] 0)) := ⟨#[], 0, heap_alloc_new w _, rfl⟩
end Go.Proofs.YtdddhnepanjmfaaGreat
