/- Regions that draw from a code and end in a store; rows that grow by one in such a region; blocks of code. No condition. -/
import Derived.Test.YtcdfomoglkhboaaGreatDoorDrQ
namespace Go.Proofs.YtcdfomoglkhboaaGreatDoor
open Go.RowKit
set_option linter.unusedVariables false
set_option linter.unusedSimpArgs false

/-- The operations that wait, at most so far, ahead of these. -/
def predsOf (ops : Array Oper) (i : Nat) : List Nat := ((ops[i]?).map fun o => (o.after.toList.filter fun e => Region.binds .any e).map (·.on)).getD []
def ancs (ops : Array Oper) : Nat → List Nat → List Nat
  | 0, l => l
  | f + 1, l => ancs ops f (l ++ l.flatMap (predsOf ops)).eraseDups
def ancB (ops : Array Oper) (e f : Nat) : Bool := (List.range ops.size).all fun i => (ancs ops f [e]).contains i
theorem ancs_listed {ops : Array Oper} {L : Array Bool} (hc : Clo ops L) : ∀ (f : Nat) (l : List Nat), (∀ i, i ∈ l → L.getD i false = true) → ∀ i, i ∈ ancs ops f l → L.getD i false = true
  | 0, l, h, i, hi => h i hi
  | f + 1, l, h, i, hi => by
    refine ancs_listed hc f _ (fun j hj => ?_) i hi
    rw [List.mem_eraseDups, List.mem_append] at hj
    rcases hj with hj | hj
    · exact h j hj
    · rw [List.mem_flatMap] at hj
      obtain ⟨k, hk, hj⟩ := hj
      unfold predsOf at hj
      cases ho : ops[k]? with
      | none => rw [ho] at hj; simp at hj
      | some o =>
        rw [ho] at hj
        simp only [Option.map_some, Option.getD_some, List.mem_map, List.mem_filter] at hj
        obtain ⟨e, ⟨he, hb⟩, rfl⟩ := hj
        exact hc k o e ho (h k hk) he hb
theorem ancB_spec {ops : Array Oper} {e f : Nat} (h : ancB ops e f = true) {L : Array Bool} (hc : Clo ops L) (he : L.getD e false = true) {i : Nat} (hi : i < ops.size) : L.getD i false = true := by
  simp only [ancB, List.all_eq_true, List.mem_range, List.contains_iff_mem] at h
  exact ancs_listed hc f [e] (fun j hj => by rw [List.mem_singleton.1 hj]; exact he) i (h i hi)

section
variable {P : Program} {ops : Array Oper} {Q : Exit → Act → World → Prop} {a0 : Act}
/-- One operation that turns J into J'. -/
def DStp (P : Program) (ops : Array Oper) (Q : Exit → Act → World → Prop) (a0 : Act) (g PP : Nat) (c : Nat → Nat) (J J' : World → Prop) (F : Nat → Prop) (R : Nat → World → Value → Prop) (i : Nat) (o : Oper) : Prop :=
  ∀ (a : Act) (w : World) (p : Nat), p + c i ≤ PP → J w → RdLe w g p → (∀ d, (∀ i, dstOf ops i ≠ some d) → a.eval (.tmp d) = a0.eval (.tmp d)) →
    (∀ e, e ∈ o.after.toList → Region.binds .any e = true → ∀ d, dstOf ops e.on = some d → R e.on w (a.eval (.tmp d))) →
    o.wp P a w (fun a' w' => ∃ v, a' = a.put o.dst v ∧ R i w' v ∧ J' w' ∧ RdLe w' g (p + c i) ∧ Chg F w w') Q
theorem region_drawE {id : Nat} {w : World} (g p0 tot n e f : Nat) (cl : List Nat) (J0 J1 : World → Prop) (F : Nat → Prop) (Rl : List (Pr F)) (hm : P.follows .mixedOrders = true) (hn : a0.tmps.size = n) (hB : regB ops n = true) (ht : costAll (cOf cl) ops.size = tot) (ha : ancB ops e f = true) (he : e < ops.size)
    (hJ : J0 w.drew) (hr : RdLe w g p0) (hstep : AllSteps (fun i o => (i ≠ e → DStep P ops Q a0 g (p0 + tot) (cOf cl) J0 F (Rof Rl) i o) ∧ (i = e → DStp P ops Q a0 g (p0 + tot) (cOf cl) J0 J1 F (Rof Rl) i o)) 0 ops.toList)
    (hend : ∀ (vs : Nat → Value) (w' : World), J1 w' → RdLe w' g (p0 + tot) → (∀ i d, dstOf ops i = some d → Rof Rl i w' (vs i)) → Q .normal (putAll ops.toList vs 0 a0) w') : (Code.region id ops true).wp P Q a0 w := by
  subst ht hn
  refine wp_region_inv (fun L W => (L.getD e false = false → J0 W) ∧ (L.getD e false = true → J1 W) ∧ L.size = ops.size ∧ RdLe W g (p0 + costL (cOf cl) L)) (Rof Rl) hm hB ⟨fun _ => hJ, fun h => ?_, by simp, (rd_drew hr).mono (by omega)⟩ ?_ ?_
  · simp [Array.getD_eq_getD_getElem?, Array.getElem?_replicate, he] at h
  · intro i o ho L a w1 hL hi hf hclo hI hfr hd
    obtain ⟨hI0, hI1, _, hr1⟩ := hI
    have hs := allSteps_get _ _ hstep i o (by simpa using ho)
    rw [Nat.zero_add] at hs
    have hc := costL_set (cOf cl) L (i := i) (by omega) hf
    have hle := costL_le (cOf cl) (L.setIfInBounds i true)
    rw [Array.size_setIfInBounds, hL] at hle
    have hno := no_list hL hi hf
    by_cases hie : i = e
    · subst hie
      refine Oper.wp_mono ?_ (hs.2 rfl a w1 (p0 + costL (cOf cl) L) (by omega) (hI0 hno) hr1 hfr (fun e he hb => (hd e he hb).2))
      rintro a' w' ⟨v, h1, h2, h3, h4, h5⟩
      refine ⟨v, h1, h2, ⟨fun h => ?_, fun _ => h3, by simp [hL], by rw [hc]; exact h4.mono (by omega)⟩, fun j u _ hu => (Rl.getD j prT).st _ _ _ h5 hu⟩
      rw [getD_set1 (by omega)] at h
      cases h
    · have hef : L.getD e false = false := by
        cases h : L.getD e false
        · rfl
        · rw [ancB_spec ha hclo h hi] at hno
          cases hno
      refine Oper.wp_mono ?_ (hs.1 hie a w1 (p0 + costL (cOf cl) L) (by omega) (hI0 hef) hr1 hfr (fun e he hb => (hd e he hb).2))
      rintro a' w' ⟨v, h1, h2, h3, h4, h5⟩
      refine ⟨v, h1, h2, ⟨fun _ => h3, fun h => ?_, by simp [hL], by rw [hc]; exact h4.mono (by omega)⟩, fun j u _ hu => (Rl.getD j prT).st _ _ _ h5 hu⟩
      rw [getD_set hie, hef] at h
      cases h
  · rintro vs w' ⟨L, ⟨_, hJ', hL, hr'⟩, hall⟩ hR
    have hle := costL_le (cOf cl) L
    rw [hL] at hle
    exact hend vs w' (hJ' (hall e he)) (hr'.mono (by omega)) hR
/-- As before, with a row that grows by one ahead of the store. -/
theorem region_drawA {id : Nat} {w : World} (g p0 tot n iA e f : Nat) (cl : List Nat) (J : Bool → World → Prop) (J1 : World → Prop) (F FA : Nat → Prop) (Rl : List (Pr F)) (hm : P.follows .mixedOrders = true) (hn : a0.tmps.size = n) (hB : regB ops n = true) (ht : costAll (cOf cl) ops.size = tot) (ha : ancB ops e f = true) (he : e < ops.size) (hiA : iA < e)
    (hAe : ((ops[e]?).map fun o => o.after.toList.any fun x => x.on == iA && Region.binds .any x) = some true)
    (hFA : ∀ j W W' u, j ≠ iA → Chg FA W W' → Rof Rl j W u → Rof Rl j W' u)
    (hJ : J false w.drew) (hr : RdLe w g p0) (hstep : AllSteps (fun i o => (i ≠ e → i ≠ iA → ∀ b, DStep P ops Q a0 g (p0 + tot) (cOf cl) (J b) F (Rof Rl) i o) ∧ (i = iA → DStp P ops Q a0 g (p0 + tot) (cOf cl) (J false) (J true) FA (Rof Rl) i o) ∧ (i = e → DStp P ops Q a0 g (p0 + tot) (cOf cl) (J true) J1 F (Rof Rl) i o)) 0 ops.toList)
    (hend : ∀ (vs : Nat → Value) (w' : World), J1 w' → RdLe w' g (p0 + tot) → (∀ i d, dstOf ops i = some d → Rof Rl i w' (vs i)) → Q .normal (putAll ops.toList vs 0 a0) w') : (Code.region id ops true).wp P Q a0 w := by
  subst ht hn
  refine wp_region_inv (fun L W => (L.getD e false = false → J (L.getD iA false) W) ∧ (L.getD e false = true → J1 W) ∧ L.size = ops.size ∧ RdLe W g (p0 + costL (cOf cl) L)) (Rof Rl) hm hB ⟨fun _ => ?_, fun h => ?_, by simp, (rd_drew hr).mono (by omega)⟩ ?_ ?_
  · have : (Array.replicate ops.size false).getD iA false = false := by
      have : iA < ops.size := by omega
      simp [Array.getD_eq_getD_getElem?, Array.getElem?_replicate, this]
    rw [this]
    exact hJ
  · simp [Array.getD_eq_getD_getElem?, Array.getElem?_replicate, he] at h
  · intro i o ho L a w1 hL hi hf hclo hI hfr hd
    obtain ⟨hI0, hI1, _, hr1⟩ := hI
    have hs := allSteps_get _ _ hstep i o (by simpa using ho)
    rw [Nat.zero_add] at hs
    have hc := costL_set (cOf cl) L (i := i) (by omega) hf
    have hle := costL_le (cOf cl) (L.setIfInBounds i true)
    rw [Array.size_setIfInBounds, hL] at hle
    have hno := no_list hL hi hf
    have hef : L.getD e false = false := by
      cases h : L.getD e false
      · rfl
      · rw [ancB_spec ha hclo h hi] at hno
        cases hno
    by_cases hie : i = e
    · subst hie
      have hA1 : L.getD iA false = true := by
        rw [ho] at hAe
        simp only [Option.map_some, Option.some.injEq, List.any_eq_true, Bool.and_eq_true, beq_iff_eq] at hAe
        obtain ⟨x, hx, rfl, hb⟩ := hAe
        exact (hd x hx hb).1
      have hJ0 := hI0 hno
      rw [hA1] at hJ0
      refine Oper.wp_mono ?_ (hs.2.2 rfl a w1 (p0 + costL (cOf cl) L) (by omega) hJ0 hr1 hfr (fun e he hb => (hd e he hb).2))
      rintro a' w' ⟨v, h1, h2, h3, h4, h5⟩
      refine ⟨v, h1, h2, ⟨fun h => ?_, fun _ => h3, by simp [hL], by rw [hc]; exact h4.mono (by omega)⟩, fun j u _ hu => (Rl.getD j prT).st _ _ _ h5 hu⟩
      rw [getD_set1 (by omega)] at h
      cases h
    · have hnew : ∀ b, (L.setIfInBounds i true).getD e b = L.getD e b := fun b => getD_set hie
      by_cases hiA' : i = iA
      · subst hiA'
        have hJ0 := hI0 hef
        rw [hno] at hJ0
        refine Oper.wp_mono ?_ (hs.2.1 rfl a w1 (p0 + costL (cOf cl) L) (by omega) hJ0 hr1 hfr (fun e he hb => (hd e he hb).2))
        rintro a' w' ⟨v, h1, h2, h3, h4, h5⟩
        refine ⟨v, h1, h2, ⟨fun _ => ?_, fun h => ?_, by simp [hL], by rw [hc]; exact h4.mono (by omega)⟩, fun j u hj hu => hFA j _ _ _ hj h5 hu⟩
        · rw [getD_set1 (by omega)]
          exact h3
        · rw [hnew, hef] at h
          cases h
      · refine Oper.wp_mono ?_ (hs.1 hie hiA' _ a w1 (p0 + costL (cOf cl) L) (by omega) (hI0 hef) hr1 hfr (fun e he hb => (hd e he hb).2))
        rintro a' w' ⟨v, h1, h2, h3, h4, h5⟩
        refine ⟨v, h1, h2, ⟨fun _ => ?_, fun h => ?_, by simp [hL], by rw [hc]; exact h4.mono (by omega)⟩, fun j u _ hu => (Rl.getD j prT).st _ _ _ h5 hu⟩
        · rw [getD_set hiA']
          exact h3
        · rw [hnew, hef] at h
          cases h
  · rintro vs w' ⟨L, ⟨_, hJ', hL, hr'⟩, hall⟩ hR
    have hle := costL_le (cOf cl) L
    rw [hL] at hle
    exact hend vs w' (hJ' (hall e he)) (hr'.mono (by omega)) hR
end

/-! Blocks of code: the first n instructions' cells are numbers. -/
def CodeB (t n cap : Nat) (W : World) : Prop := ∃ arr : Array Value, Blk W t 38 arr ∧ arr.size = cap * 8 ∧ n ≤ cap ∧ cap ≤ maxLen ∧ ∀ i, i < n * 8 → ∃ x : Int, arr[i]? = some (.int .i64 x)
section
variable {t n cap : Nat} {W W' : World}
theorem CodeB.lt (h : CodeB t n cap W) : t < W.heap.size := by obtain ⟨arr, h, _⟩ := h; exact h.lt
theorem CodeB.fz (h : CodeB t n cap W) (j : Nat) : W.frozen? ⟨t, j, none⟩ = false := by obtain ⟨arr, h, _⟩ := h; exact h.frozen j
theorem CodeB.get (h : CodeB t n cap W) {i : Nat} (hi : i < n * 8) : ∃ x : Int, W.cell? ⟨t, i, none⟩ = some (.int .i64 x) := by
  obtain ⟨arr, h, _, _, _, h2⟩ := h
  obtain ⟨x, hx⟩ := h2 i hi
  exact ⟨x, (h.cell i).trans hx⟩
theorem CodeB.set (h : CodeB t n cap W) {i : Nat} (hi : i < n * 8) (x : Int) : CodeB t n cap (W.setCell ⟨t, i, none⟩ (.int .i64 x)) := by
  obtain ⟨arr, h, h1, h2, h3, h4⟩ := h
  refine ⟨_, h.set_ i _, by simp [h1], h2, h3, fun j hj => ?_⟩
  by_cases e : i = j
  · subst e
    exact ⟨x, by rw [Array.getElem?_setIfInBounds, if_pos rfl, if_pos (by have := Nat.mul_le_mul_right 8 h2; omega)]⟩
  · obtain ⟨y, hy⟩ := h4 j hj
    exact ⟨y, by rw [Array.getElem?_setIfInBounds, if_neg e]; exact hy⟩
theorem CodeB.chg {F : Nat → Prop} (h : CodeB t n cap W) (c : Chg F W W') (hF : ¬ F t) : CodeB t n cap W' := by
  obtain ⟨arr, h, h1⟩ := h
  exact ⟨arr, h.chg c hF, h1⟩
theorem CodeB.al (h : CodeB t n cap W) (o : Obj) : CodeB t n cap (W.alloc o) := h.chg (F := fun _ => False) (Chg.of_below (grew_al (Below.refl _ _) o)) (fun h => h)
theorem CodeB.drew (h : CodeB t n cap W) : CodeB t n cap W.drew := h.chg (F := fun _ => False) (Chg.of_below (grew_d (Below.refl _ _))) (fun h => h)
theorem CodeB.far {p : Addr} (h : CodeB t n cap W) (hp : t ≠ p.block) (u : Value) : CodeB t n cap (W.setCell p u) := by
  obtain ⟨arr, h, h1⟩ := h
  exact ⟨arr, h.far hp u, h1⟩
theorem ins_of_ints : ∀ (n : Nat) (l : List Value), l.length = n * 8 → (∀ i, i < n * 8 → ∃ x : Int, l[i]? = some (.int .i64 x)) → ∃ is : List Ins, is.length = n ∧ is.flatMap Ins.cells = l
  | 0, l, hl, _ => ⟨[], rfl, by simp [List.eq_nil_of_length_eq_zero (by omega : l.length = 0)]⟩
  | n + 1, l, hl, h => by
    obtain ⟨x0, h0⟩ := h 0 (by omega)
    obtain ⟨x1, h1⟩ := h 1 (by omega)
    obtain ⟨x2, h2⟩ := h 2 (by omega)
    obtain ⟨x3, h3⟩ := h 3 (by omega)
    obtain ⟨x4, h4⟩ := h 4 (by omega)
    obtain ⟨x5, h5⟩ := h 5 (by omega)
    obtain ⟨x6, h6⟩ := h 6 (by omega)
    obtain ⟨x7, h7⟩ := h 7 (by omega)
    obtain ⟨is, hi1, hi2⟩ := ins_of_ints n (l.drop 8) (by rw [List.length_drop]; omega) (fun i hi => by
      obtain ⟨x, hx⟩ := h (8 + i) (by omega)
      exact ⟨x, by rw [List.getElem?_drop]; exact hx⟩)
    refine ⟨⟨x0, x1, x2, x3, x4, x5, x6, x7⟩ :: is, by simp [hi1], ?_⟩
    rw [List.flatMap_cons, hi2]
    have e : l = l.take 8 ++ l.drop 8 := (List.take_append_drop 8 l).symm
    have e2 : l.take 8 = Ins.cells ⟨x0, x1, x2, x3, x4, x5, x6, x7⟩ := by
      apply List.ext_getElem?
      intro i
      rw [List.getElem?_take]
      rcases i with _ | _ | _ | _ | _ | _ | _ | _ | i
      · simpa [Ins.cells] using h0
      · simpa [Ins.cells] using h1
      · simpa [Ins.cells] using h2
      · simpa [Ins.cells] using h3
      · simpa [Ins.cells] using h4
      · simpa [Ins.cells] using h5
      · simpa [Ins.cells] using h6
      · simpa [Ins.cells] using h7
      · rw [if_neg (by omega), List.getElem?_eq_none (by simp [Ins.cells])]
    rw [← e2]
    exact e.symm
theorem CodeB.own {B : Nat} (h : CodeB t n cap W) (hB : B ≤ t) : ∃ is : List Ins, is.length = n ∧ W.ownsRow B 38 8 (.slice (some ⟨t, 0, none⟩) n cap) n (is.flatMap Ins.cells) := by
  obtain ⟨arr, h, h1, h2, h3, h4⟩ := h
  have hm := Nat.mul_le_mul_right 8 h2
  obtain ⟨is, hi1, hi2⟩ := ins_of_ints n (arr.toList.take (n * 8)) (by rw [List.length_take, Array.length_toList]; omega) (fun i hi => by
    obtain ⟨x, hx⟩ := h4 i hi
    exact ⟨x, by rw [List.getElem?_take, if_pos hi]; simpa using hx⟩)
  exact ⟨is, hi1, by rw [hi2, List.length_take, Array.length_toList]; omega, .inr ⟨t, cap, arr, rfl, hB, h, h2, h3, h1, hi2.symm⟩⟩
theorem CodeB.of_own {B : Nat} {is : List Ins} (h : W.ownsRow B 38 8 (.slice (some ⟨t, 0, none⟩) n cap) n (is.flatMap Ins.cells)) : CodeB t n cap W := by
  obtain ⟨h1, h2⟩ := h
  rcases h2 with ⟨e, _⟩ | ⟨g', cap', cur, e, h3, h4, h5, h6, h7, h8⟩
  · cases e
  simp only [Value.slice.injEq, Option.some.injEq, Addr.mk.injEq, and_true, true_and] at e
  obtain ⟨rfl, rfl⟩ := e
  have hm := Nat.mul_le_mul_right 8 h5
  have hl : is.length * 8 = n * 8 := by rw [← h1, flat_len Ins.cells 8 ins_len]
  refine ⟨cur, h4, h7, h5, h6, fun i hi => ?_⟩
  have hi2 : i < cur.size := by omega
  have hx : (is.flatMap Ins.cells)[i]? = cur[i]? := by rw [← h8, List.getElem?_take, if_pos hi]; simp
  have hk : i / 8 < is.length := by omega
  have hj : i % 8 < 8 := Nat.mod_lt _ (by omega)
  have hf := flat_get Ins.cells 8 ins_len is (i / 8) (is[i / 8]) (i % 8) ((Ins.cells (is[i / 8])).getD (i % 8) undef) (List.getElem?_eq_getElem hk) (by rw [List.getD_eq_getElem?_getD, List.getElem?_eq_getElem (by rw [ins_len]; exact hj)]; rfl)
  rw [show i / 8 * 8 + i % 8 = i from by omega, hx] at hf
  rw [hf]
  generalize is[i / 8] = q
  generalize i % 8 = j at hj
  have hj8 : j = 0 ∨ j = 1 ∨ j = 2 ∨ j = 3 ∨ j = 4 ∨ j = 5 ∨ j = 6 ∨ j = 7 := by omega
  rcases hj8 with rfl | rfl | rfl | rfl | rfl | rfl | rfl | rfl <;> exact ⟨_, rfl⟩
theorem CodeB.new (is : List Ins) (hb : t = W.heap.size) (hn : is.length = n) (hm : n ≤ maxLen) : CodeB t n n (W.alloc (.cells (is.flatMap Ins.cells).toArray 38)) := by
  subst hb
  refine CodeB.of_own (B := 0) (is := is) ?_
  have h := World.ownsRow_lit W (base := 0) (e := 38) (size := 8) (is.flatMap Ins.cells).toArray n (Nat.zero_le _) hm (by rw [List.size_toArray, flat_len Ins.cells 8 ins_len, hn])
  simpa using h
end
theorem isIns_v {v : Value} (h : IsIns v) : ∃ i : Ins, v = i.v := by
  obtain ⟨op, d, a, b, rel, lo, hi, to, h⟩ := h
  exact ⟨⟨op, d, a, b, rel, lo, hi, to⟩, h⟩
end Go.Proofs.YtcdfomoglkhboaaGreatDoor
