/- Lemmas and walks of this proof, some texts one behind the other. No condition. -/
import Derived.Test.YtcdfomoglkhboaaGreatDoorRgw
import Derived.Test.YtcdfomoglkhboaaGreatDoorData
import Derived.Test.YtcdfomoglkhboaaGreatDoorRegH
set_option linter.unusedSimpArgs false
set_option linter.unusedVariables false
/- Rows of texts: as answers; compared, marked, held. No condition. -/
namespace Go.Proofs.YtcdfomoglkhboaaGreatDoor
open Go.RowKit Go.Lib
set_option linter.unusedVariables false
set_option linter.unusedSimpArgs false
attribute [local go_sem] ext_cell ext_frozen ext_lt ext_le ext_le1 lt_s2 lt_s3 lt_s4 lt_s5 lt_s6 ext_lt1 ext_lt2 ext_lt3
attribute [local go_sem] ByteArray.mk_append_mk

def strs (ls : List (List UInt8)) : List Value := ls.map fun x => .string ⟨x.toArray⟩
theorem strInfo : (Tryz.prog.info? 9).map (fun i => (i.zero, i.size, i.bytes)) = some (some (.string ByteArray.empty), 1, 16) := by kernel_rfl
theorem strEl : El Tryz.prog 27 9 (.string ByteArray.empty) 1 16 := El.mk' strInfo Tryz.underlying27 rfl (by omega)
theorem str_one (ls : List (List UInt8)) : ∀ u ∈ strs ls, u.oneCell' = true := by
  intro u hu
  obtain ⟨x, _, rfl⟩ := List.mem_map.1 hu
  rfl
theorem strs_app (xs ys : List (List UInt8)) : strs (xs ++ ys) = strs xs ++ strs ys := by simp [strs]
theorem strs_len (xs : List (List UInt8)) : (strs xs).length = xs.length := by simp [strs]
theorem strs_at (xs : List (List UInt8)) (j : Nat) : (strs xs)[j]? = (xs[j]?).map fun x => Value.string ⟨x.toArray⟩ := by simp [strs]
/-- The answer: a row of texts of the call's own. -/
def RetSs (L : List (List UInt8)) (w : World) (e : Ending) (w' : World) : Prop := ∃ a c, e = .returned (.slice a L.length c) ∧ w'.ownsRow w.heap.size 9 1 (.slice a L.length c) L.length (strs L) ∧ Grew w w'
theorem Rd.atS {w : World} {a : Option Addr} {n : Nat} {zs : List (List UInt8)} (h : Rd w a n 1 (strs zs)) {k : Nat} (hk : k < n) :
    ∃ b off x, a = some ⟨b, off, none⟩ ∧ zs[k]? = some x ∧ w.cell? ⟨b, off + k, none⟩ = some (.string ⟨x.toArray⟩) := by
  obtain ⟨h1, h2⟩ := h
  rw [strs_len] at h1
  rcases h2 with h2 | ⟨b, off, rfl, h2⟩
  · have := congrArg List.length h2
    rw [strs_len, List.length_nil] at this
    omega
  · have hk' : k < zs.length := by omega
    have hx : zs[k]? = some zs[k] := List.getElem?_eq_getElem hk'
    exact ⟨b, off, zs[k], rfl, hx, h2 k _ (by rw [strs_at, hx]; rfl)⟩



end Go.Proofs.YtcdfomoglkhboaaGreatDoor

/- Drawn regions that end in an append to an owned row: each operation alone, the append and the assignment behind it last. No condition. -/
namespace Go.Proofs.YtcdfomoglkhboaaGreatDoor
open Go.RowKit
set_option linter.unusedVariables false
set_option linter.unusedSimpArgs false
attribute [local go_sem] ext_cell ext_frozen ext_lt ext_le ext_le1 lt_s2 lt_s3 lt_s4 lt_s5 lt_s6 ext_lt1 ext_lt2 ext_lt3

def predW (ops : Array Oper) (i : Nat) : List Nat := ((ops[i]?).map fun o => (o.after.toList.filter fun e => Region.binds .any e).map (·.on)).getD []
def ancLs (ops : Array Oper) : Nat → List Nat → List Nat
  | 0, l => l
  | f + 1, l => ancLs ops f (l ++ l.flatMap (predW ops)).eraseDups
def ancW (ops : Array Oper) (m f : Nat) : Bool := (List.range m).all fun i => (ancLs ops f [m]).contains i
theorem ancLs_listed {ops : Array Oper} {L : Array Bool} (hc : Clo ops L) : ∀ (f : Nat) (l : List Nat), (∀ i, i ∈ l → L.getD i false = true) → ∀ i, i ∈ ancLs ops f l → L.getD i false = true
  | 0, l, h, i, hi => h i hi
  | f + 1, l, h, i, hi => by
    refine ancLs_listed hc f _ (fun j hj => ?_) i hi
    rw [List.mem_eraseDups, List.mem_append] at hj
    rcases hj with hj | hj
    · exact h j hj
    · rw [List.mem_flatMap] at hj
      obtain ⟨k, hk, hj⟩ := hj
      unfold predW at hj
      cases ho : ops[k]? with
      | none => rw [ho] at hj; simp at hj
      | some o =>
        rw [ho] at hj
        simp only [Option.map_some, Option.getD_some, List.mem_map, List.mem_filter] at hj
        obtain ⟨e, ⟨he, hb⟩, rfl⟩ := hj
        exact hc k o e ho (h k hk) he hb
theorem ancW_spec {ops : Array Oper} {m f : Nat} (h : ancW ops m f = true) {L : Array Bool} (hc : Clo ops L) (hm : L.getD m false = true) {i : Nat} (hi : i < m) : L.getD i false = true := by
  simp only [ancW, List.all_eq_true, List.mem_range, List.contains_iff_mem] at h
  exact ancLs_listed hc f [m] (fun j hj => by rw [List.mem_singleton.1 hj]; exact hm) i (h i hi)
theorem not_listed {L : Array Bool} {i : Nat} (h : L.getD i true = false) : L.getD i false = false := getD_ff h
theorem op_app {P : Program} {Q : Exit → Act → World → Prop} {o : Oper} {a : Act} {K : Act → World → Prop} {w w' : World} {v y v' : Value} {t : TypeId} (s x : Operand) (ho : o.op = .call { callee := .builtin .append, args := #[s, x], argTypes := #[t, t] }) (hty : o.type = t) (hs : a.eval s = v) (hx : a.eval x = y)
    (hrun : (Builtin.append_ #[t, t] t #[v, y]).run P w = .ok v' w') (hK : K (a.put o.dst v') w') : o.wp P a w K Q := by
  unfold Oper.wp execOp
  simp only [ho, hty, resolve, invoke, builtin, Sem.run_bind, Sem.run_pure, Result.andThen_ok, List.map_toArray, List.map_cons, List.map_nil, hs, hx, hrun]
  exact hK

/-- The first operations. -/
def cutW (ops : Array Oper) (m : Nat) : Array Oper := (ops.toList.take m).toArray
theorem cutW_lt {ops : Array Oper} {m i : Nat} (h : i < m) : dstOf (cutW ops m) i = dstOf ops i := by
  unfold dstOf cutW
  rw [List.getElem?_toArray, List.getElem?_take_of_lt h]
  simp
theorem cutW_ge {ops : Array Oper} {m i : Nat} (h : m ≤ i) : dstOf (cutW ops m) i = none := by
  unfold dstOf cutW
  rw [List.getElem?_toArray, List.getElem?_take_eq_none h]
  rfl
theorem cutW_some {ops : Array Oper} {m i : Nat} {d : Tmp} (h : dstOf (cutW ops m) i = some d) : dstOf ops i = some d := by
  rcases Nat.lt_or_ge i m with h' | h'
  · rw [← cutW_lt h']; exact h
  · rw [cutW_ge h'] at h; cases h
section
variable {P : Program} {ops : Array Oper} {Q : Exit → Act → World → Prop} {a0 : Act} {wo : World} {l : List Pg}
theorem region_wA {id : Nat} (n m f : Nat) (l : List Pg) (J : World → Prop) (hm : P.follows .mixedOrders = true) (hn : a0.tmps.size = n) (hB : regB ops n = true) (hsz : ops.size = m + 2) (ha : ancW ops m f = true)
    (hfar : ∀ j, j < m → ∀ W W' u, Chg (fun b => b < wo.heap.size) W W' → Gof l j W u → Gof l j W' u)
    (hstep : AllSteps (WStep P (cutW ops (m + 1)) Q a0 wo l) 0 (ops.toList.take m))
    (d : Tmp) (hd : dstOf ops m = some d) (hZ : (ops[m + 1]?).map (fun o => o.op) = some (.assign (.tmp d))) (hz : ((ops[m + 1]?).map fun o => o.after.any fun e => e.on == m && Region.binds .any e) = some true) (hl : l.getD (m + 1) pgT = l.getD m pgT)
    (hA : ∀ o, ops[m]? = some o → ∀ (a : Act) (W : World), GAt (cutW ops (m + 1)) a0 wo l o a W → o.wp P a W (fun a' w' => ∃ v, a' = a.put o.dst v ∧ Gof l m w' v ∧ J w' ∧ Chg (fun b => b < wo.heap.size) W w') Q)
    (hend : ∀ (vs : Nat → Value) (w' : World), J w' → (∀ i d, dstOf ops i = some d → Gof l i w' (vs i)) → Q .normal (putAll ops.toList vs 0 a0) w') : (Code.region id ops true).wp P Q a0 wo := by
  subst hn
  refine wp_region_hh (fun _ L W => (L.getD m false = false → Grew wo W) ∧ (L.getD m false = true → J W)) (fun _ => Gof l) (fun _ => 0) hm hB ⟨fun _ => grew_d (Below.refl _ _), fun h => ?_⟩ ?_ ?_
  · rw [getD_rep] at h; cases h
  · intro i o ho gm L a w hL hi hf hclo hI hfr hdp
    have hno := not_listed hf
    have hz2 : L.getD m false = false → ∀ j, L.getD j false = true → j < m + 1 := fun hmf j hj => by
      have hjs : j < L.size := by
        rcases Nat.lt_or_ge j L.size with h | h
        · exact h
        · rw [Array.getD_eq_getD_getElem?, Array.getElem?_eq_none h] at hj; cases hj
      by_cases h : j = m + 1
      · exfalso
        subst h
        cases hoz : ops[m + 1]? with
        | none => rw [hoz] at hz; cases hz
        | some oz =>
          rw [hoz] at hz
          simp only [Option.map_some, Option.some.injEq, Array.any_eq_true', Bool.and_eq_true, beq_iff_eq] at hz
          obtain ⟨e, he, heo, hb⟩ := hz
          have := hclo (m + 1) oz e hoz hj (by simpa using he) hb
          rw [heo, hmf] at this
          cases this
      · omega
    have hfr2 : L.getD m false = false → ∀ d, (∀ i, dstOf (cutW ops (m + 1)) i ≠ some d) → a.eval (.tmp d) = a0.eval (.tmp d) := fun hmf d hd => hfr d (fun j hj => by
      rw [← cutW_lt (ops := ops) (hz2 hmf j hj)]
      exact hd j)
    have hdp2 : ∀ e, e ∈ o.after.toList → Region.binds .any e = true → ∀ d, dstOf (cutW ops (m + 1)) e.on = some d → Gof l e.on w (a.eval (.tmp d)) := fun e he hb d hd => (hdp e he hb).2 d (cutW_some hd)
    rcases Nat.lt_trichotomy i m with him | him | him
    · have hmf : L.getD m false = false := by
        cases h : L.getD m false
        · rfl
        · rw [ancW_spec ha hclo h him] at hno; cases hno
      have hs := allSteps_get _ _ hstep i o (by rw [List.getElem?_take_of_lt him]; simpa using ho)
      rw [Nat.zero_add] at hs
      have hG := hI.1 hmf
      refine Oper.wp_mono ?_ (hs a w ⟨hG, hfr2 hmf, hdp2⟩)
      rintro a' w' ⟨v, h1, h2, h3⟩
      refine ⟨v, gm, h1, h2, ⟨fun _ => grew_tr hG h3, fun h => ?_⟩, fun j u _ _ hu => (l.getD j pgT).st _ _ _ h3 hu⟩
      rw [getD_set (by omega), hmf] at h
      cases h
    · subst him
      have hG := hI.1 hno
      refine Oper.wp_mono ?_ (hA o ho a w ⟨hG, hfr2 hno, hdp2⟩)
      rintro a' w' ⟨v, h1, h2, h3, h4⟩
      refine ⟨v, gm, h1, h2, ⟨fun h => ?_, fun _ => h3⟩, fun j u hj hLj hu => ?_⟩
      · rw [getD_set1 (by omega)] at h; cases h
      · rcases Nat.lt_or_gt_of_ne hj with hj' | hj'
        · exact hfar j hj' _ _ _ h4 hu
        · exfalso
          have hje : j = i + 1 := by
            rcases Nat.lt_or_ge j L.size with h | h
            · omega
            · rw [Array.getD_eq_getD_getElem?, Array.getElem?_eq_none h] at hLj; cases hLj
          subst hje
          cases hoz : ops[i + 1]? with
          | none => rw [hoz] at hz; cases hz
          | some oz =>
            rw [hoz] at hz
            simp only [Option.map_some, Option.some.injEq, Array.any_eq_true', Bool.and_eq_true, beq_iff_eq] at hz
            obtain ⟨e, he, heo, hb⟩ := hz
            have := hclo (i + 1) oz e hoz hLj (by simpa using he) hb
            rw [heo] at this
            rw [this] at hno
            cases hno
    · have hie : i = m + 1 := by omega
      subst hie
      rw [ho] at hz hZ
      simp only [Option.map_some, Option.some.injEq, Array.any_eq_true', Bool.and_eq_true, beq_iff_eq] at hz hZ
      obtain ⟨e, he, heo, hb⟩ := hz
      obtain ⟨h1, h2⟩ := hdp e (by simpa using he) hb
      rw [heo] at h1
      have hv := h2 d (by rw [heo]; exact hd)
      rw [heo] at hv
      unfold Oper.wp execOp
      simp only [hZ, Sem.run_pure]
      refine ⟨_, gm, rfl, ?_, ⟨fun h => ?_, fun _ => hI.2 h1⟩, fun j u _ _ hu => hu⟩
      · unfold Gof at hv ⊢
        rw [hl]
        exact hv
      · rw [getD_set (by omega), h1] at h
        cases h
  · rintro gm vs w' ⟨L, hI, hall⟩ hR
    exact hend vs w' (hI.2 (hall m (by omega))) hR
/-- What an append to blocks below B leaves. -/
def Far (B : Nat) (g : Pg) : Prop := ∀ W W' u, Chg (fun b => b < B) W W' → g.p W u → g.p W' u
def FarL (B : Nat) : List Pg → Prop
  | [] => True
  | g :: gs => Far B g ∧ FarL B gs
theorem far_get {B : Nat} : ∀ {l : List Pg} {m : Nat}, FarL B (l.take m) → ∀ j, j < m → ∀ W W' u, Chg (fun b => b < B) W W' → Gof l j W u → Gof l j W' u
  | [], m, h, j, hj, W, W', u, c, hu => hu
  | g :: gs, 0, h, j, hj, W, W', u, c, hu => absurd hj (Nat.not_lt_zero _)
  | g :: gs, m + 1, h, 0, hj, W, W', u, c, hu => h.1 W W' u c hu
  | g :: gs, m + 1, h, j + 1, hj, W, W', u, c, hu => by
    have := far_get (l := gs) (m := m) h.2 j (by omega) W W' u c
    exact this hu
theorem far_V {B : Nat} {v : Value} : Far B (pgV v) := fun _ _ _ _ h => h
theorem far_S {B B' n c : Nat} {xs : List (List UInt8)} (h : B ≤ B') : Far B (pgS B' n c xs) := by
  intro W W' u hc hu
  obtain ⟨t, h1, h2, h3, h4⟩ := hu
  exact ⟨t, h1, h2, Nat.lt_of_lt_of_le h3 hc.size, fun j x hx => by rw [World.cell?_of_block (w := W) (w' := W') (a := ⟨t, j, none⟩) (hc.block t h3 (by omega))]; exact h4 j x hx⟩
end
/-- A row of texts of the call's own. -/
def pgO (B n : Nat) (ls : List (List UInt8)) : Pg := ⟨fun w v => w.ownsRow B 9 1 v n (strs ls), fun _ _ _ g h => owns_grew h g⟩
/-- The append of one text, in a region: what it leaves. -/
theorem app_one {Q : Exit → Act → World → Prop} {l : List Pg} {o : Oper} {A : Act} {E W : World} {B N t i : Nat} {a1 : Option Addr} {cap : Nat} {xs : List (List UInt8)} {x : List UInt8} {d1 d2 : Tmp}
    (ho : o.op = .call { callee := .builtin .append, args := #[.tmp d1, .tmp d2], argTypes := #[27, 27] }) (hty : o.type = 27)
    (h1 : A.eval (.tmp d1) = .slice a1 N cap) (h2 : A.eval (.tmp d2) = .slice (some ⟨t, 0, none⟩) 1 1) (hg : Grew E W) (hown : E.ownsRow B 9 1 (.slice a1 N cap) N (strs xs)) (hB : B ≤ E.heap.size)
    (hc : W.cell? ⟨t, 0, none⟩ = some (.string ⟨x.toArray⟩)) (hN : N ≤ 1000) (hl : l.getD i pgT = pgO B (N + 1) (xs ++ [x])) :
    o.wp Tryz.prog A W (fun a' w' => ∃ v, a' = A.put o.dst v ∧ Gof l i w' v ∧ Chg (fun b => (Value.slice a1 N cap).ownBlock = some b) E w' ∧ Chg (fun b => b < E.heap.size) W w') Q := by
  have hrd : Rd W (some ⟨t, 0, none⟩) 1 1 (strs [x]) := ⟨rfl, .inr ⟨t, 0, rfl, fun j u hu => by
    rcases j with _ | j
    · simp [strs] at hu
      rw [← hu]
      exact hc
    · simp [strs] at hu⟩⟩
  obtain ⟨v', W', hrun, hown2, hgr, hv'⟩ := owns_append (P := Tryz.prog) W strEl (owns_grew hown hg) (some ⟨t, 0, none⟩) 1 1 (strs [x]) hrd (str_one _) (by omega) (by omega) (Nat.le_trans hB hg.size)
  have hch := Chg.of_grownBy hgr
  refine op_app (.tmp d1) (.tmp d2) ho hty h1 h2 hrun ⟨_, rfl, ?_, (Chg.of_below hg : Chg (fun b => (Value.slice a1 N cap).ownBlock = some b) E W).trans hch (fun _ _ h => h) (fun _ _ h => h), ?_⟩
  · unfold Gof
    rw [hl]
    show W'.ownsRow B 9 1 v' (N + 1) (strs (xs ++ [x]))
    rw [strs_app]
    exact hown2
  · exact (Chg.refl _ W : Chg (fun b => b < E.heap.size) W W).trans hch (fun _ _ h => h) (fun b _ h => (hown.lt b h).2)
end Go.Proofs.YtcdfomoglkhboaaGreatDoor
