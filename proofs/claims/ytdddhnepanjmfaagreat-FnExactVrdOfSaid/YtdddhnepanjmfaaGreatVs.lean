/- Places sorted by the program: slices.SortFunc with cmpSite. No condition. -/
import Derived.Test.YtdddhnepanjmfaaGreatBase
import Derived.Test.YtdddhnepanjmfaaGreatBlk
import Derived.Test.YtdddhnepanjmfaaGreatRgw
import Derived.Sort.OwnSorted
namespace Go.Proofs.YtdddhnepanjmfaaGreat
open Go.RowKit Go.Sort
set_option linter.unusedVariables false
set_option linter.unusedSimpArgs false
attribute [local go_sem] ext_cell ext_frozen ext_lt ext_le ext_le1 lt_s2 lt_s3 lt_s4 lt_s5 lt_s6 ext_lt1 ext_lt2 ext_lt3

def sitC (s : Site) : List Value := [.int .i64 s.proc, .int .i64 s.pc]
theorem sit_len (s : Site) : (sitC s).length = 2 := rfl
def cfS (a b : Site) : Int := if Lib.compareInt a.proc b.proc = 0 then Lib.compareInt a.pc b.pc else Lib.compareInt a.proc b.proc
theorem ltS (a b : Site) : ltOf cfS a b = lessB a b := by
  unfold ltOf cfS Lib.compareInt lessB
  rcases Int.lt_trichotomy a.proc b.proc with h | h | h
  · simp [h]
  · rcases Int.lt_trichotomy a.pc b.pc with h2 | h2 | h2
    · simp [h, h2]
    · simp [h, h2]
    · have : ¬ a.pc < b.pc := by omega
      simp [h, h2, this]
  · have h1 : ¬ a.proc < b.proc := by omega
    have h2 : ¬ a.proc = b.proc := by omega
    simp [h, h1, h2]
theorem lessB_false {a b : Site} : lessB a b = false ↔ ¬ (a.proc < b.proc ∨ a.proc = b.proc ∧ a.pc < b.pc) := by rw [← lessB_iff, Bool.not_eq_true]
theorem swoS : SWO (ltOf cfS) where
  irrefl x := by rw [ltS, lessB_false]; omega
  trans x y z h1 h2 := by rw [ltS, lessB_iff] at *; omega
  ntrans x y z h1 h2 := by rw [ltS, lessB_false] at *; omega
theorem totS (x y : Site) (h1 : ltOf cfS x y = false) (h2 : ltOf cfS y x = false) : x = y := by
  rw [ltS, lessB_false] at *
  obtain ⟨p, q⟩ := x
  obtain ⟨r, s⟩ := y
  simp only at h1 h2
  simp only [Site.mk.injEq]
  omega
def sortS (ss : List Site) : List Site := ss.mergeSort fun x y => !lessB y x
theorem sortS_perm (ss : List Site) : (sortS ss).Perm ss := List.mergeSort_perm _ _
theorem sortS_len (ss : List Site) : (sortS ss).length = ss.length := (sortS_perm ss).length_eq
theorem sortS_sorted (ss : List Site) : (sortS ss).Pairwise LeS := by
  have := List.pairwise_mergeSort (le := fun x y : Site => !lessB y x) (by
    intro a b c h1 h2
    simp only [Bool.not_eq_true', lessB_false] at *
    omega) (by
    intro a b
    simp only [Bool.or_eq_true, Bool.not_eq_true', lessB_false]
    omega) ss
  exact this.imp (fun h => by unfold LeS; simpa using h)

/-! ### The row -/
theorem flat_list (d : Array Site) : (flatK sitC 2 d).toList = d.toList.flatMap sitC := by
  apply List.ext_getElem?
  intro t
  have hfl := flat_len sitC 2 sit_len d.toList
  rcases Nat.lt_or_ge t (d.size * 2) with h | h
  · have h1 : t / 2 < d.size := by omega
    have hx : d.toList[t / 2]? = some d[t / 2] := by rw [Array.getElem?_toList]; exact Array.getElem?_eq_getElem h1
    have h2 : t % 2 < 2 := Nat.mod_lt _ (by omega)
    obtain ⟨u, hu⟩ : ∃ u, (sitC (d[t / 2]'h1))[t % 2]? = some u := ⟨_, List.getElem?_eq_getElem (by rw [sit_len]; exact h2)⟩
    have e1 := flat_get sitC 2 sit_len d.toList (t / 2) (d[t / 2]'h1) (t % 2) u hx hu
    rw [show t / 2 * 2 + t % 2 = t by omega] at e1
    rw [e1, Array.getElem?_toList]
    have hsz : t < (flatK sitC 2 d).size := by simpa using h
    rw [Array.getElem?_eq_getElem hsz, ← getElem!_pos (flatK sitC 2 d) t hsz, get_flatK _ _ _ _ h, getElem!_pos d (t / 2) h1]
    have h3 : t % 2 < (sitC (d[t / 2]'h1)).length := by rw [sit_len]; exact h2
    rw [← hu, List.getElem?_eq_getElem h3, getElem!_pos (sitC (d[t / 2]'h1)) (t % 2) h3]
  · rw [List.getElem?_eq_none (by simp; omega), List.getElem?_eq_none (by rw [hfl]; simpa using h)]
theorem holds_sites {w : World} {g n : Nat} {cur : Array Value} {e : TypeId} {ss : List Site} (hn : ss.length = n) (hb : w.heap[g]? = some (.cells cur e (0, 0))) (ht : cur.toList.take (n * 2) = ss.flatMap sitC) : HoldsK sitC 2 w g 0 ss.toArray := by
  intro j hj
  have hj' : j < n * 2 := by simpa [hn] using hj
  refine ⟨?_, by simp [World.frozen?, hb]⟩
  have h1 : (cur.toList.take (n * 2))[j]? = (ss.flatMap sitC)[j]? := by rw [ht]
  rw [List.getElem?_take_of_lt hj', ← flat_list ss.toArray, Array.getElem?_toList, Array.getElem?_toList] at h1
  simp only [World.cell?, hb, Nat.zero_add]
  simp only [Option.isSome_none, Bool.false_eq_true, if_false]
  rw [h1, Array.getElem?_eq_getElem hj]
  rw [getElem!_pos (flatK sitC 2 ss.toArray) j hj]
  rfl
theorem heap_sites {w : World} {g n : Nat} {os : Array Obj} {cur : Array Value} {e : TypeId} {fr : Nat × Nat} (D : Array Value) (hb : w.heap[g]? = some (.cells cur e fr)) :
    (grow (putRow id (Sort.ahead w n) g 0 D) os).heap[g]? = some (.cells (putCells id 0 D cur) e fr) := by
  have hg : g < w.heap.size := (Array.getElem?_eq_some_iff.1 hb).1
  rw [heap_grow_old _ _ (by simpa using hg)]
  simp [putRow, mapBlock, Sort.ahead, Array.getElem?_modify, hb, onCells]
theorem chg_sites {w : World} {g n : Nat} {os : Array Obj} (D : Array Value) : Chg (fun b => b = g) w (grow (putRow id (Sort.ahead w n) g 0 D) os) := by
  refine ⟨rfl, rfl, rfl, by simp, fun k hk hne => ?_⟩
  rw [heap_grow_old _ _ (by simpa using hk)]
  have : ¬ g = k := fun e => hne e.symm
  simp [putRow, mapBlock, Sort.ahead, Array.getElem?_modify, this]
theorem take_sites (cur : Array Value) (D : Array Value) (h : D.size ≤ cur.size) : (putCells id 0 D cur).toList.take D.size = D.toList := by
  apply List.ext_getElem?
  intro j
  by_cases hj : j < D.size
  · rw [List.getElem?_take_of_lt hj, Array.getElem?_toList, Array.getElem?_toList]
    simp [putCells, hj, show j < cur.size by omega]
  · rw [List.getElem?_take_eq_none (by omega), List.getElem?_eq_none (by simp; omega)]

/-! ### The closure -/
theorem isNaNInt (x : Int) (W : World) : Calls Tryz.prog 142 #[.int .i64 x] W fun e w' => e = .returned (.bool false) ∧ w' = W := by
  go_enter Tryz.func142, Tryz.ntmps142
  go_wp2
  go_ret
  exact ⟨rfl, rfl⟩
theorem cmpInt (x y : Int) (W : World) : Calls Tryz.prog 106 #[.int .i64 x, .int .i64 y] W fun e w' => e = .returned (.int .i64 (Lib.compareInt x y)) ∧ w' = W := by
  have HN := Lib.hid fun x W => isNaNInt x W
  have HZ := Lib.hid (rfl : Lib.compareInt x y = Lib.compareInt x y)
  obtain ⟨z, hz⟩ : ∃ z, Lib.compareInt x y = z := ⟨_, rfl⟩
  rw [hz]
  unfold Lib.compareInt at hz
  clear HZ
  have HZ := Lib.hid hz
  clear hz
  go_enter Tryz.func106, Tryz.ntmps106
  go_wp2_with fail
  refine (HN.out _ _).mono ?_
  rintro e w1 ⟨rfl, rfl⟩
  go_wp2_with fail
  refine (HN.out _ _).mono ?_
  rintro e w1 ⟨rfl, rfl⟩
  by_cases h1 : x < y
  · have e1 := HZ.out
    rw [if_pos h1] at e1
    have HE := Lib.hid e1
    clear e1
    go_wp2
    go_ret
    exact ⟨by rw [← HE.out]; rfl, rfl⟩
  · by_cases h2 : y < x
    · have e1 := HZ.out
      rw [if_neg h1, if_pos h2] at e1
      have HE := Lib.hid e1
      clear e1
      go_wp2
      go_ret
      exact ⟨by rw [← HE.out]; rfl, rfl⟩
    · have e1 := HZ.out
      rw [if_neg h1, if_neg h2] at e1
      have HE := Lib.hid e1
      clear e1
      go_wp2
      go_ret
      exact ⟨by rw [← HE.out]; rfl, rfl⟩
def orF (x y : Int) : Int := if x = 0 then y else x
theorem orInt (b cap : Nat) (x y : Int) (W : World) (h0 : W.cell? ⟨b, 0, none⟩ = some (.int .i64 x)) (h1 : W.cell? ⟨b, 1, none⟩ = some (.int .i64 y)) :
    Calls Tryz.prog 105 #[.slice (some ⟨b, 0, none⟩) 2 cap] W fun e w' => e = .returned (.int .i64 (orF x y)) ∧ w' = W := by
  have HZ := Lib.hid (fun h : x = 0 => (show orF x y = y from if_pos h))
  have HZ' := Lib.hid (fun h : ¬ x = 0 => (show orF x y = x from if_neg h))
  obtain ⟨z, hz⟩ : ∃ z, orF x y = z := ⟨_, rfl⟩
  rw [hz] at HZ HZ' ⊢
  clear hz
  go_enter Tryz.func105, Tryz.ntmps105
  go_wp2
  go_loopw [8] (fun i wr => ∃ k : Nat, k ≤ 2 ∧ i = .int .i64 k ∧ wr = W ∧ Hid ((1 ≤ k → x = 0) ∧ (2 ≤ k → y = 0))) (fun i _ => 2 - (Go.RowKit.intOf i).toNat)
  case atStart => exact ⟨0, by omega, rfl, rfl, Lib.hid ⟨fun h => by omega, fun h => by omega⟩⟩
  case round =>
    obtain ⟨k, hk, rfl, rfl, hxy⟩ := hrel
    have : k = 0 ∨ k = 1 ∨ k = 2 := by omega
    rcases this with rfl | rfl | rfl
    · by_cases hx0 : x = 0
      · have HX := Lib.hid hx0
        subst hx0
        go_wp2
        go_roundw
        case rel => exact ⟨1, by omega, by first | rfl | trivial, by first | rfl | trivial, Lib.hid (by constructor <;> first | trivial | (intro h; omega) | omega)⟩
        case measure => simp [Go.RowKit.intOf]
      · have HE := Lib.hid (HZ'.out hx0)
        clear HZ HZ' hxy
        go_wp2
        go_ret
        exact ⟨by rw [HE.out]; rfl, rfl⟩
    · have hx0 := hxy.out.1 (Nat.le_refl _)
      subst hx0
      have HE := Lib.hid (HZ.out rfl)
      by_cases hy0 : y = 0
      · subst hy0
        go_wp2
        go_roundw
        case rel => exact ⟨2, by omega, by first | rfl | trivial, by first | rfl | trivial, Lib.hid (by constructor <;> first | trivial | (intro h; omega) | omega)⟩
        case measure => simp [Go.RowKit.intOf]
      · clear HZ HZ' hxy
        go_wp2
        go_ret
        exact ⟨by rw [HE.out]; rfl, rfl⟩
    · have hx0 := hxy.out.1 (by omega)
      have hy0 := hxy.out.2 (Nat.le_refl _)
      subst hx0
      subst hy0
      have HE := Lib.hid (HZ.out rfl)
      clear HZ HZ' hxy
      go_wp2
      go_ret
      exact ⟨by rw [HE.out]; rfl, rfl⟩

/-- A world that has drawn, and laid blocks. -/
def GrX (w W : World) : Prop := ∃ q os, W = grow (w.drewN q) os
theorem GrX.refl (w : World) : GrX w w := ⟨0, #[], by rw [grow_empty]; rfl⟩
theorem GrX.alloc {w W : World} (h : GrX w W) (o : Obj) : GrX w (W.alloc o) := by
  obtain ⟨q, os, rfl⟩ := h
  exact ⟨q, os ++ #[o], by rw [alloc_eq_grow, grow_grow]⟩
theorem GrX.drew {w W : World} (h : GrX w W) : GrX w W.drew := by
  obtain ⟨q, os, rfl⟩ := h
  exact ⟨q + 1, os, rfl⟩
theorem GrX.trans {w W W' : World} (h : GrX w W) (k : GrX W W') : GrX w W' := by
  obtain ⟨q, os, rfl⟩ := h
  obtain ⟨q', os', rfl⟩ := k
  refine ⟨q + q', os ++ os', ?_⟩
  rw [← grow_grow]
  simp [grow, World.drewN, Nat.add_assoc]
theorem wp_letX {P : Program} {c : Code} {Q : Exit → Act → World → Prop} {a : Act} {W : World} (h : ∀ E, E = W → c.wp P Q a E) : c.wp P Q a W := h W rfl
theorem GrX.grew {w W : World} (h : GrX w W) : Grew w W := by
  obtain ⟨q, os, rfl⟩ := h
  exact ⟨rfl, rfl, rfl, by simp [grow], fun k hk => by simp [grow, World.drewN, Array.getElem?_append_left hk]⟩
section
variable {P : Program} {ops : Array Oper} {Q : Exit → Act → World → Prop} {a0 : Act} {wo : World} {l : List Pg} {i : Nat} {o : Oper}
def XStep (P : Program) (ops : Array Oper) (Q : Exit → Act → World → Prop) (a0 : Act) (wo : World) (l : List Pg) (i : Nat) (o : Oper) : Prop :=
  ∀ (a : Act) (W : World), GrX wo W → GAt ops a0 wo l o a W → o.wp P a W (fun a' w' => ∃ v, a' = a.put o.dst v ∧ Gof l i w' v ∧ GrX wo w' ∧ Grew W w') Q
/-- As region_w; the world has drawn and laid blocks, and nothing else. -/
theorem region_x {id : Nat} (n : Nat) (l : List Pg) (hm : P.follows .mixedOrders = true) (hn : a0.tmps.size = n) (hB : regB ops n = true) (hstep : AllSteps (XStep P ops Q a0 wo l) 0 ops.toList)
    (hend : ∀ (vs : Nat → Value) (w' : World), GrX wo w' → (∀ i d, dstOf ops i = some d → Gof l i w' (vs i)) → Q .normal (putAll ops.toList vs 0 a0) w') : (Code.region id ops true).wp P Q a0 wo := by
  subst hn
  refine wp_region_inv (fun _ W => GrX wo W) (Gof l) hm hB ((GrX.refl wo).drew) (fun i o ho => ?_) (fun vs w' h hR => hend vs w' (by obtain ⟨L, h1, _⟩ := h; exact h1) hR)
  have hs := allSteps_get _ _ hstep i o (by simpa using ho)
  rw [Nat.zero_add] at hs
  intro L a w1 hL hi hf _ hI hfr hd
  refine Oper.wp_mono ?_ (hs a w1 hI ⟨hI.grew, hfr, fun e he hb => (hd e he hb).2⟩)
  rintro a' w' ⟨v, h1, h2, h3, h4⟩
  exact ⟨v, h1, h2, h3, fun j u _ hu => (l.getD j pgT).st _ _ _ h4 hu⟩
theorem x_ex (h : ∀ (a : Act) (W : World), GAt ops a0 wo l o a W → ∃ v W', (execOp a.eval o).run P W = .ok (.value v) W' ∧ (l.getD i pgT).p W' v ∧ (W' = W ∨ ∃ o, W' = W.alloc o)) : XStep P ops Q a0 wo l i o := by
  intro a W hX ha
  obtain ⟨v, W', h1, h2, h3⟩ := h a W ha
  unfold Oper.wp
  rw [h1]
  rcases h3 with rfl | ⟨o, rfl⟩
  · exact ⟨v, rfl, h2, hX, Below.refl _ _⟩
  · exact ⟨v, rfl, h2, hX.alloc o, grew_al (Below.refl _ _) _⟩
theorem x_vx {v : Value} (hv : l.getD i pgT = pgV v) (h : ∀ (a : Act) (W : World), GAt ops a0 wo l o a W → (execOp a.eval o).run P W = .ok (.value v) W) : XStep P ops Q a0 wo l i o :=
  x_ex fun a W ha => ⟨v, W, h a W ha, by rw [hv]; exact rfl, .inl rfl⟩
/-- A call that leaves the world. -/
theorem x_callX {f : FuncId} {v : Value} (hv : l.getD i pgT = pgV v) (h : ∀ (a : Act) (W : World), GAt ops a0 wo l o a W → ∃ vals, (execOp a.eval o).run P W = .ok (.enter f vals) W ∧ Calls P f vals W fun e w' => e = .returned v ∧ w' = W) : XStep P ops Q a0 wo l i o := by
  intro a W hX ha
  obtain ⟨vals, h1, h2⟩ := h a W ha
  unfold Oper.wp
  rw [h1]
  refine Calls.mono h2 ?_
  rintro e w' ⟨rfl, rfl⟩
  exact ⟨v, rfl, by unfold Gof; rw [hv]; exact rfl, hX, Below.refl _ _⟩
end
/-- A slice of two numbers just laid. -/
def TwoN (x y : Int) (w : World) (v : Value) : Prop := ∃ b, v = .slice (some ⟨b, 0, none⟩) 2 2 ∧ w.cell? ⟨b, 0, none⟩ = some (.int .i64 x) ∧ w.cell? ⟨b, 1, none⟩ = some (.int .i64 y)
def pgTwoN (x y : Int) : Pg := ⟨TwoN x y, fun _ _ _ g ⟨b, h1, h2, h3⟩ => ⟨b, h1, gk g h2, gk g h3⟩⟩
set_option maxRecDepth 100000 in
/-- The program's order of places: it makes three blocks. -/
theorem cmpSiteC (x y : Site) (w0 : World) : Calls Tryz.prog 60 #[.agg #[.int .i64 x.proc, .int .i64 x.pc], .agg #[.int .i64 y.proc, .int .i64 y.pc]] w0
    fun e w' => e = .returned (.int .i64 (cfS x y)) ∧ GrX w0 w' := by
  obtain ⟨xp, xc⟩ := x
  obtain ⟨yp, yc⟩ := y
  have HC1 := Lib.hid fun w => cmpInt xp yp w
  have HC2 := Lib.hid fun w => cmpInt xc yc w
  have HO := Lib.hid fun b w => orInt b 2 (Lib.compareInt xp yp) (Lib.compareInt xc yc) w
  have HCF := Lib.hid (show cfS ⟨xp, xc⟩ ⟨yp, yc⟩ = orF (Lib.compareInt xp yp) (Lib.compareInt xc yc) from rfl)
  rw [HCF.out]
  clear HCF
  simp only
  generalize Lib.compareInt xp yp = c1 at *
  generalize Lib.compareInt xc yc = c2 at *
  generalize orF c1 c2 = c3 at *
  have q0 := ((Blk.new w0 62 #[.int .i64 xp, .int .i64 xc]).alloc (.cells #[.int .i64 yp, .int .i64 yc] 62)).cell 0
  have q1 := ((Blk.new w0 62 #[.int .i64 xp, .int .i64 xc]).alloc (.cells #[.int .i64 yp, .int .i64 yc] 62)).cell 1
  have r0 := (Blk.new (w0.alloc (.cells #[.int .i64 xp, .int .i64 xc] 62)) 62 #[.int .i64 yp, .int .i64 yc]).cell 0
  have r1 := (Blk.new (w0.alloc (.cells #[.int .i64 xp, .int .i64 xc] 62)) 62 #[.int .i64 yp, .int .i64 yc]).cell 1
  simp only [World.size_alloc, List.getElem?_toArray, List.getElem?_cons_zero, List.getElem?_cons_succ] at q0 q1 r0 r1
  have HGX := Lib.hid (((GrX.refl w0).alloc (.cells #[.int .i64 xp, .int .i64 xc] 62)).alloc (.cells #[.int .i64 yp, .int .i64 yc] 62))
  go_enter Tryz.func60, Tryz.ntmps60
  go_wp2_with fail
  refine wp_letX ?_
  intro E hE
  rw [← hE] at q0 q1 r0 r1 HGX
  clear hE
  refine region_x 17 [pgV (.pointer (some ⟨w0.heap.size, 0, none⟩)), pgV (.int .i64 xp), pgV (.pointer (some ⟨w0.heap.size + 1, 0, none⟩)), pgV (.int .i64 yp), pgV (.int .i64 c1), pgV (.pointer (some ⟨w0.heap.size, 1, none⟩)), pgV (.int .i64 xc), pgV (.pointer (some ⟨w0.heap.size + 1, 1, none⟩)), pgV (.int .i64 yc), pgV (.int .i64 c2), pgTwoN c1 c2, pgV (.int .i64 c3), pgV (.int .i64 c3)] (by kernel_rfl) rfl (by kernel_rfl) ⟨?_, ?_, ?_, ?_, ?_, ?_, ?_, ?_, ?_, ?_, ?_, ?_, ?_, trivial⟩ ?_
  · exact x_vx rfl (fun A W h => by
    have e : A.eval (.tmp 2) = .pointer (some ⟨w0.heap.size, 0, none⟩) := (h.slot 2).trans rfl
    simp only [execOp, e]
    simp [go_sem])
  · exact x_vx rfl (fun A W h => by
    have e : A.eval (.tmp 5) = .pointer (some ⟨w0.heap.size, 0, none⟩) := h.vb 0 5
    have k0 := gk h.grew q0
    simp only [execOp, e]
    simp [go_sem, k0])
  · exact x_vx rfl (fun A W h => by
    have e : A.eval (.tmp 3) = .pointer (some ⟨w0.heap.size + 1, 0, none⟩) := (h.slot 3).trans rfl
    simp only [execOp, e]
    simp [go_sem])
  · exact x_vx rfl (fun A W h => by
    have e : A.eval (.tmp 7) = .pointer (some ⟨w0.heap.size + 1, 0, none⟩) := h.vb 2 7
    have k0 := gk h.grew r0
    simp only [execOp, e]
    simp [go_sem, k0])
  · exact x_callX rfl (fun A W h => by
    have e1 : A.eval (.tmp 6) = .int .i64 xp := h.vb 1 6
    have e2 : A.eval (.tmp 8) = .int .i64 yp := h.vb 3 8
    refine ⟨#[A.eval (.tmp 6), A.eval (.tmp 8)], Eq.trans (b := .ok (.enter 106 #[A.eval (.tmp 6), A.eval (.tmp 8)]) W) (by kernel_rfl) rfl, ?_⟩
    rw [e1, e2]
    exact HC1.out W)
  · exact x_vx rfl (fun A W h => by
    have e : A.eval (.tmp 2) = .pointer (some ⟨w0.heap.size, 0, none⟩) := (h.slot 2).trans rfl
    simp only [execOp, e]
    simp [go_sem])
  · exact x_vx rfl (fun A W h => by
    have e : A.eval (.tmp 10) = .pointer (some ⟨w0.heap.size, 1, none⟩) := h.vb 5 10
    have k0 := gk h.grew q1
    simp only [execOp, e]
    simp [go_sem, k0])
  · exact x_vx rfl (fun A W h => by
    have e : A.eval (.tmp 3) = .pointer (some ⟨w0.heap.size + 1, 0, none⟩) := (h.slot 3).trans rfl
    simp only [execOp, e]
    simp [go_sem])
  · exact x_vx rfl (fun A W h => by
    have e : A.eval (.tmp 12) = .pointer (some ⟨w0.heap.size + 1, 1, none⟩) := h.vb 7 12
    have k0 := gk h.grew r1
    simp only [execOp, e]
    simp [go_sem, k0])
  · exact x_callX rfl (fun A W h => by
    have e1 : A.eval (.tmp 11) = .int .i64 xc := h.vb 6 11
    have e2 : A.eval (.tmp 13) = .int .i64 yc := h.vb 8 13
    refine ⟨#[A.eval (.tmp 11), A.eval (.tmp 13)], Eq.trans (b := .ok (.enter 106 #[A.eval (.tmp 11), A.eval (.tmp 13)]) W) (by kernel_rfl) rfl, ?_⟩
    rw [e1, e2]
    exact HC2.out W)
  · exact x_ex (fun A W h => by
    have e1 : A.eval (.tmp 9) = .int .i64 c1 := h.vb 4 9
    have e2 : A.eval (.tmp 14) = .int .i64 c2 := h.vb 9 14
    refine ⟨.slice (some ⟨W.heap.size, 0, none⟩) 2 2, W.alloc (.cells #[.int .i64 c1, .int .i64 c2] 3), ?_, ⟨W.heap.size, rfl, (Blk.new W _ _).cell 0, (Blk.new W _ _).cell 1⟩, .inr ⟨_, rfl⟩⟩
    simp only [execOp, List.map_toArray, List.map_cons, List.map_nil, e1, e2]
    simp [go_sem])
  · exact x_callX rfl (fun A W h => by
    obtain ⟨b, e1, k0, k1⟩ := h.vb 10 15
    refine ⟨#[A.eval (.tmp 15)], Eq.trans (b := .ok (.enter 105 #[A.eval (.tmp 15)]) W) (by kernel_rfl) rfl, ?_⟩
    rw [e1]
    exact HO.out b W k0 k1)
  · exact x_vx rfl (fun A W h => by
    have e1 : A.eval (.tmp 16) = .int .i64 c3 := h.vb 11 16
    simp only [execOp, e1]
    rfl)
  intro vs w9 g9 hR
  have x0 : vs 0 = .pointer (some ⟨w0.heap.size, 0, none⟩) := hR 0 5 (by kernel_rfl)
  have x1 : vs 1 = .int .i64 xp := hR 1 6 (by kernel_rfl)
  have x2 : vs 2 = .pointer (some ⟨w0.heap.size + 1, 0, none⟩) := hR 2 7 (by kernel_rfl)
  have x3 : vs 3 = .int .i64 yp := hR 3 8 (by kernel_rfl)
  have x4 : vs 4 = .int .i64 c1 := hR 4 9 (by kernel_rfl)
  have x5 : vs 5 = .pointer (some ⟨w0.heap.size, 1, none⟩) := hR 5 10 (by kernel_rfl)
  have x6 : vs 6 = .int .i64 xc := hR 6 11 (by kernel_rfl)
  have x7 : vs 7 = .pointer (some ⟨w0.heap.size + 1, 1, none⟩) := hR 7 12 (by kernel_rfl)
  have x8 : vs 8 = .int .i64 yc := hR 8 13 (by kernel_rfl)
  have x9 : vs 9 = .int .i64 c2 := hR 9 14 (by kernel_rfl)
  obtain ⟨b15, x10, -⟩ := hR 10 15 (by kernel_rfl)
  have x11 : vs 11 = .int .i64 c3 := hR 11 16 (by kernel_rfl)
  have x12 : vs 12 = .int .i64 c3 := hR 12 4 (by kernel_rfl)
  simp only [putAll, Act.put, List.setIfInBounds_toArray, List.set_cons_zero, List.set_cons_succ, Nat.zero_add, Nat.reduceAdd, x0, x1, x2, x3, x4, x5, x6, x7, x8, x9, x10, x11, x12]
  clear hR x0 x1 x2 x3 x4 x5 x6 x7 x8 x9 x10 x11 x12
  have HG9 := Lib.hid (HGX.out.trans g9)
  go_wp2
  go_ret
  exact ⟨rfl, HG9.out⟩

theorem sortSitesC (B g n cap : Nat) (ss : List Site) (w : World) (h : w.ownsRow B 62 2 (.slice (some ⟨g, 0, none⟩) n cap) n (ss.flatMap sitC)) (hn : ss.length = n) (hm : n ≤ 1000000) :
    Calls Tryz.prog 59 #[.slice (some ⟨g, 0, none⟩) n cap, .func (.func 60) #[] #[]] w fun e w' =>
      e = .returned (.tuple #[]) ∧ w'.ownsRow B 62 2 (.slice (some ⟨g, 0, none⟩) n cap) n ((sortS ss).flatMap sitC) ∧ Chg (fun b => b = g) w w' := by
  have hlt := h.lt g rfl
  rcases h.2 with ⟨e1, e2⟩ | ⟨g', cap', cur, e1, hB, hb, hc1, hc2, hsz, htk⟩
  · cases e1
  · simp only [Value.slice.injEq, Option.some.injEq, Addr.mk.injEq, true_and, and_true] at e1
    obtain ⟨rfl, rfl⟩ := e1
    have eg : ∀ args w, (callFunc 60 args).run Tryz.prog w = .ok (.enter 60 args) w := enters_of Tryz.func60 (by kernel_rfl) rfl
    have hcon := AnyQ.slices_SortFunc_total Tryz.sortSites 2 Tryz.isAgg62 Tryz.sizeOf62 sitC sit_len (fun x v hv => by simp [sitC] at hv; rcases hv with rfl | rfl <;> rfl) cfS swoS 60 #[] g 0 cap ss.toArray w eg
      (fun m os dk hs x y => cmpSiteC x y _) (holds_sites hn hb htk) hlt.2 (by simp; omega) totS
    have hsz2 : ss.toArray.size = n := by simpa using hn
    rw [hsz2] at hcon
    refine hcon.mono ?_
    rintro e w' ⟨rfl, q, os, rfl⟩
    have hle : (ss.toArray.toList.mergeSort fun x y => !(ltOf cfS) y x) = sortS ss := by
      unfold sortS
      simp only [ltS]
    rw [hle]
    have hfl := flat_list (sortS ss).toArray
    simp only at hfl
    have hsize : (flatK sitC 2 (sortS ss).toArray).size = n * 2 := by simp [sortS_len, hn]
    refine ⟨rfl, ⟨by rw [flat_len sitC 2 sit_len, sortS_len, hn], .inr ⟨g, cap, _, rfl, hB, heap_sites _ hb, hc1, hc2, by simp [putCells, hsz], ?_⟩⟩, chg_sites _⟩
    rw [← hsize, take_sites _ _ (by rw [hsize, hsz]; exact Nat.mul_le_mul_right _ hc1), hfl]
end Go.Proofs.YtdddhnepanjmfaaGreat
