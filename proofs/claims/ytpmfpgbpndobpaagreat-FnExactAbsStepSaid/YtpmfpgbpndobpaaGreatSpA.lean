/- States by value in memory of their own: the reference's l7Copy, l7Set. No condition. -/
import Derived.Test.YtpmfpgbpndobpaaGreatStepG
namespace Go.Proofs.YtpmfpgbpndobpaaGreat
open Go.RowKit
set_option linter.unusedVariables false
set_option linter.unusedSimpArgs false
attribute [local go_sem] ext_cell ext_frozen ext_lt ext_le ext_le1 lt_s2 lt_s3 lt_s4 lt_s5 lt_s6 ext_lt1 ext_lt2 ext_lt3

/-- A state's variables in a row that a call owns, its block known. -/
def OwnR (w : World) (B rb c : Nat) (xs : List Itv) : Prop := xs.length = 4 ∧ B ≤ rb ∧ w.ownsRow B 31 2 (.slice (some ⟨rb, 0, none⟩) 4 c) 4 (xs.flatMap Itv.cells)
theorem OwnR.lt {w : World} {B rb c : Nat} {xs : List Itv} (h : OwnR w B rb c xs) : rb < w.heap.size := (h.2.2.lt rb rfl).2
theorem OwnR.grew {w w' : World} {B rb c : Nat} {xs : List Itv} (h : OwnR w B rb c xs) (g : Grew w w') : OwnR w' B rb c xs := ⟨h.1, h.2.1, owns_grew h.2.2 g⟩
theorem OwnR.chg {F : Nat → Prop} {w w' : World} {B rb c : Nat} {xs : List Itv} (h : OwnR w B rb c xs) (g : Chg F w w') (hF : ¬ F rb) : OwnR w' B rb c xs :=
  ⟨h.1, h.2.1, owns_chg h.2.2 g (fun b hb e => by
    have : rb = b := by simpa [Value.ownBlock] using hb
    subst this
    exact hF e)⟩
theorem OwnR.mono {w : World} {B B' rb c : Nat} {xs : List Itv} (h : OwnR w B rb c xs) (hB : B' ≤ B) : OwnR w B' rb c xs := ⟨h.1, Nat.le_trans hB h.2.1, owns_mono h.2.2 hB⟩
theorem OwnR.of {w : World} {B c : Nat} {a : Option Addr} {xs : List Itv} (h4 : xs.length = 4) (h : w.ownsRow B 31 2 (.slice a 4 c) 4 (xs.flatMap Itv.cells)) : ∃ rb, a = some ⟨rb, 0, none⟩ ∧ OwnR w B rb c xs := by
  obtain ⟨a', cap, he, hrd, h1, h2, h3, h5⟩ := owns_form h
  cases he
  cases a with
  | none => have := (h5 rfl).1; omega
  | some x =>
    obtain ⟨hb, hlt, ho, hs, hob⟩ := h3 x rfl
    obtain ⟨b, o, s⟩ := x
    simp only at ho hs hb
    subst ho hs
    exact ⟨b, rfl, h4, hb, h⟩
theorem OwnR.rd {w : World} {B rb c : Nat} {xs : List Itv} (h : OwnR w B rb c xs) : RdL EItv 2 w (some ⟨rb, 0, none⟩) 4 xs := rdItv_of_own h.1 h.2.2
theorem OwnR.cap {w : World} {B rb c : Nat} {xs : List Itv} (h : OwnR w B rb c xs) : 4 ≤ c := (owns_cap h.2.2).1
theorem OwnR.cell {w : World} {B rb c : Nat} {xs : List Itv} (h : OwnR w B rb c xs) {k : Nat} (hk : k < 4) {x : Itv} (hx : xs[k]? = some x) : w.cell? ⟨rb, k * 2, none⟩ = some (.int .i64 x.lo) ∧ w.cell? ⟨rb, k * 2 + 1, none⟩ = some (.int .i64 x.hi) := by
  obtain ⟨b, off, lo, hi, he, hy, c0, c1, _⟩ := rdItv_at h.rd hk
  cases he
  rw [hy] at hx
  cases hx
  simp only [Nat.zero_add] at c0 c1
  exact ⟨c0, c1⟩
theorem OwnR.frozen {w : World} {B rb c : Nat} {xs : List Itv} (h : OwnR w B rb c xs) (j : Nat) : w.frozen? ⟨rb, j, none⟩ = false := by
  rcases h.2.2.2 with ⟨hv, _⟩ | ⟨g, cap, cur, he, hb, hg, _⟩
  · cases hv
  · cases he
    exact Blk.frozen (t := 31) hg j
theorem OwnR.set {w : World} {B rb c : Nat} {xs : List Itv} (h : OwnR w B rb c xs) {k : Nat} (hk : k < 4) (x : Itv) :
    OwnR ((w.setCell ⟨rb, k * 2, none⟩ (.int .i64 x.lo)).setCell ⟨rb, k * 2 + 1, none⟩ (.int .i64 x.hi)) B rb c (xs.set k x) := by
  refine ⟨by rw [List.length_set]; exact h.1, h.2.1, ?_⟩
  have h4 := h.1
  have := own_sets [.int .i64 x.lo, .int .i64 x.hi] w _ (k * 2) h.2.2
  match xs, h4 with
  | [x0, x1, x2, x3], _ =>
    match k, hk with
    | 0, _ => exact this.1
    | 1, _ => exact this.1
    | 2, _ => exact this.1
    | 3, _ => exact this.1
theorem rd_of_rdlItv {w : World} {a : Option Addr} {n : Nat} {xs : List Itv} (h : RdL EItv 2 w a n xs) : Rd w a n 2 (xs.flatMap Itv.cells) := by
  refine ⟨by rw [flat_len Itv.cells 2 itv_len, h.1], ?_⟩
  rcases h.2 with h0 | ⟨b, off, rfl, hc⟩
  · left
    have := h.1
    rw [List.eq_nil_of_length_eq_zero (show xs.length = 0 by omega)]
    rfl
  · refine .inr ⟨b, off, rfl, fun j u hu => ?_⟩
    have hj : j < xs.length * 2 := by
      have := (List.getElem?_eq_some_iff.1 hu).1
      rwa [flat_len Itv.cells 2 itv_len] at this
    have hk : j / 2 < xs.length := by omega
    have hx : xs[j / 2]? = some (xs[j / 2]'hk) := List.getElem?_eq_getElem hk
    obtain ⟨cs, hl, hcell, hE⟩ := hc _ _ hx
    have hE2 : cs = (xs[j / 2]'hk).cells := hE
    have hr : j % 2 < cs.length := by omega
    have hu2 := flat_get Itv.cells 2 itv_len xs (j / 2) _ (j % 2) (cs[j % 2]'hr) hx (by rw [← hE2]; exact List.getElem?_eq_getElem hr)
    rw [show j / 2 * 2 + j % 2 = j by omega, hu] at hu2
    have := hcell (j % 2) (cs[j % 2]'hr) (List.getElem?_eq_getElem hr)
    rw [show off + j / 2 * 2 + j % 2 = off + j by omega] at this
    rw [this, ← hu2]
theorem heldAppend2 {P : Program} {o : Oper} {a : Act} {K : Act → World → Prop} {Q : Exit → Act → World → Prop} {E c : Prop} [Decidable c] {w w' : World} {v y v' : Value} {t : TypeId} (hc : c) (s x : Operand)
    (ho : o.op = .call { callee := .builtin .append, args := #[s, x], argTypes := #[t, t] }) (hty : o.type = t) (hs : a.eval s = v) (hx : a.eval x = y)
    (hrun : (Builtin.append_ #[t, t] t #[v, y]).run P w = .ok v' w') (h : K (a.put o.dst v') w') :
    if c then Oper.wp P o a w K Q else E := by
  rw [if_pos hc]
  unfold Oper.wp execOp
  simp only [ho, hty, resolve, invoke, builtin, Sem.run_bind, Sem.run_pure, Result.andThen_ok, List.map_toArray, List.map_cons, List.map_nil, hs, hx, hrun]
  exact h
set_option maxRecDepth 100000 in
set_option maxHeartbeats 4000000 in
theorem specL7Copy (xa : Option Addr) (xc : Nat) (xs : List Itv) (lo hi : Int) (w : World) (hx : RdL EItv 2 w xa 4 xs) :
    Calls Tryz.prog 116 #[.agg #[.bool true, .slice xa 4 xc, .int .i64 lo, .int .i64 hi]] w fun e w' => ∃ rb c, e = .returned (.agg #[.bool true, .slice (some ⟨rb, 0, none⟩) 4 c, .int .i64 lo, .int .i64 hi]) ∧ OwnR w' w.heap.size rb c xs ∧ Grew w w' := by
  have HX := Lib.hid hx
  have HL := Lib.hid hx.len
  clear hx
  go_enter Tryz.func116, Tryz.ntmps116
  go_upto_region 3 with fail
  refine wp_letH ?_
  intro E hE
  have GE : Grew w E := by rw [hE]; exact gr
  have q0 : E.cell? ⟨w.heap.size, 0, none⟩ = some (.bool true) := by rw [hE]; simp [go_sem]
  have q1 : E.cell? ⟨w.heap.size, 1, none⟩ = some (.slice xa 4 xc) := by rw [hE]; simp [go_sem]
  have q2 : E.cell? ⟨w.heap.size, 2, none⟩ = some (.int .i64 lo) := by rw [hE]; simp [go_sem]
  have q3 : E.cell? ⟨w.heap.size, 3, none⟩ = some (.int .i64 hi) := by rw [hE]; simp [go_sem]
  have Z0 : Blk E (w.heap.size + 1) 33 #[.bool false, .slice none 0 0, .int .i64 0, .int .i64 0] := by rw [hE]; exact Blk.new' (by simp only [World.size_alloc])
  have hsz : E.heap.size = w.heap.size + 1 + 1 := by rw [hE]; simp only [World.size_alloc]
  have h0 : (E.alloc (.cells #[] 31)).drew.ownsRow E.heap.size 31 2 (.slice (some ⟨w.heap.size + 1 + 1, 0, none⟩) 0 0) 0 [] := owns_grew (by rw [← hsz]; exact World.ownsRow_lit E #[] 0 (Nat.le_refl _) (Nat.zero_le _) rfl) (grew_d (Below.refl _ _))
  obtain ⟨v1, w1, hrun, o1, g1, -⟩ := owns_append (P := Tryz.prog) _ itvEl h0 xa 4 xc _ (((rd_of_rdlItv HX.out).grew GE).grew (grew_d (grew_al (Below.refl _ _) _))) (itv_one _) (by omega) (by omega) (by simp)
  simp only [Nat.zero_add, List.nil_append] at o1
  have G1 : Grew E w1 := (grew_d (grew_al (Below.refl _ _) _)).grown g1 (by simp) (fun j hj => by simp [Value.ownBlock] at hj; subst hj; omega)
  obtain ⟨a1, c1, rfl⟩ := owns_slice o1
  obtain ⟨rb, rfl, hor⟩ := OwnR.of HL.out o1
  have R1 := Lib.hid hrun
  have HOR := Lib.hid hor
  have HG1 := Lib.hid G1
  have HGE := Lib.hid GE
  have HSG := Lib.hid (fun W (g : Grew E W) => (⟨(g.cell (p := ⟨w.heap.size, 0, none⟩) (World.block_lt_of_cell? _ _ q0)).trans q0, (g.cell (p := ⟨w.heap.size, 1, none⟩) (World.block_lt_of_cell? _ _ q1)).trans q1, (g.cell (p := ⟨w.heap.size, 2, none⟩) (World.block_lt_of_cell? _ _ q2)).trans q2, (g.cell (p := ⟨w.heap.size, 3, none⟩) (World.block_lt_of_cell? _ _ q3)).trans q3⟩ :
    W.cell? ⟨w.heap.size, 0, none⟩ = some (.bool true) ∧ W.cell? ⟨w.heap.size, 1, none⟩ = some (.slice xa 4 xc) ∧ W.cell? ⟨w.heap.size, 2, none⟩ = some (.int .i64 lo) ∧ W.cell? ⟨w.heap.size, 3, none⟩ = some (.int .i64 hi)))
  have hs1 := HSG.out _ G1
  have nfar : ∀ (W : World) (i j : Nat) (u : Value), (W.setCell ⟨w.heap.size + 1, i, none⟩ u).cell? ⟨w.heap.size, j, none⟩ = W.cell? ⟨w.heap.size, j, none⟩ := fun W i j u => World.cell?_setCell_far _ _ _ _ (by simp)
  have hs2 := fun (u0 u1 u2 u3 : Value) => (⟨by rw [nfar, nfar, nfar, nfar]; exact hs1.1, by rw [nfar, nfar, nfar, nfar]; exact hs1.2.1, by rw [nfar, nfar, nfar, nfar]; exact hs1.2.2.1, by rw [nfar, nfar, nfar, nfar]; exact hs1.2.2.2⟩ :
    ((((w1.setCell ⟨w.heap.size + 1, 0, none⟩ u0).setCell ⟨w.heap.size + 1, 1, none⟩ u1).setCell ⟨w.heap.size + 1, 2, none⟩ u2).setCell ⟨w.heap.size + 1, 3, none⟩ u3).cell? ⟨w.heap.size, 0, none⟩ = some (.bool true) ∧
    ((((w1.setCell ⟨w.heap.size + 1, 0, none⟩ u0).setCell ⟨w.heap.size + 1, 1, none⟩ u1).setCell ⟨w.heap.size + 1, 2, none⟩ u2).setCell ⟨w.heap.size + 1, 3, none⟩ u3).cell? ⟨w.heap.size, 1, none⟩ = some (.slice xa 4 xc) ∧
    ((((w1.setCell ⟨w.heap.size + 1, 0, none⟩ u0).setCell ⟨w.heap.size + 1, 1, none⟩ u1).setCell ⟨w.heap.size + 1, 2, none⟩ u2).setCell ⟨w.heap.size + 1, 3, none⟩ u3).cell? ⟨w.heap.size, 2, none⟩ = some (.int .i64 lo) ∧
    ((((w1.setCell ⟨w.heap.size + 1, 0, none⟩ u0).setCell ⟨w.heap.size + 1, 1, none⟩ u1).setCell ⟨w.heap.size + 1, 2, none⟩ u2).setCell ⟨w.heap.size + 1, 3, none⟩ u3).cell? ⟨w.heap.size, 3, none⟩ = some (.int .i64 hi))
  clear nfar
  have ZZ := Z0.grew G1
  have z0 := ZZ.cell 0
  have z1 := ZZ.cell 1
  have z2 := ZZ.cell 2
  have z3 := ZZ.cell 3
  have zf := fun j => ZZ.frozen j
  have zl := ZZ.lt
  simp only [List.getElem?_toArray, List.getElem?_cons_zero, List.getElem?_cons_succ] at z0 z1 z2 z3
  clear hE h0 hrun o1 g1 G1 hor q0 q1 q2 q3 GE Z0 ZZ HX HL
  refine wp_region_held_drew (S := (fun W => W.cell? ⟨w.heap.size, 0, none⟩ = some (.bool true) ∧ W.cell? ⟨w.heap.size, 1, none⟩ = some (.slice xa 4 xc) ∧ W.cell? ⟨w.heap.size, 2, none⟩ = some (.int .i64 lo) ∧ W.cell? ⟨w.heap.size, 3, none⟩ = some (.int .i64 hi))) (by kernel_rfl) ?_ (fun hHeld => ?_)
  · (try dsimp only); (first | assumption | with_reducible exact hs2 _ _ _ _ | with_reducible exact HSG.out _ (grew_d (Below.refl _ _)) | with_reducible exact HSG.out _ (grew_d (grew_al (Below.refl _ _) _)))
  refine wpAnyH_take (i := 1) (v := ?_) rfl (by kernel_rfl) (by kernel_rfl) (by kernel_rfl) (fun _ _ _ h => h) (Or.inl ⟨by rfl, ?_⟩) (by assumption) ?_
  rotate_left
  · (intro w hSw; (try dsimp only at hSw); go_simp; try with_reducible rfl)
  try simp only [List.getElem_toArray, List.getElem_cons_succ, List.getElem_cons_zero, Act.put, List.setIfInBounds_toArray, List.set_cons_zero, List.set_cons_succ]
  refine wpAnyH_take (i := 2) (v := ?_) rfl (by kernel_rfl) (by kernel_rfl) (by kernel_rfl) (fun _ _ _ h => h) (Or.inl ⟨by rfl, ?_⟩) (by assumption) ?_
  rotate_left
  · (intro w hSw; (try dsimp only at hSw); go_simp; try with_reducible rfl)
  try simp only [List.getElem_toArray, List.getElem_cons_succ, List.getElem_cons_zero, Act.put, List.setIfInBounds_toArray, List.set_cons_zero, List.set_cons_succ]
  refine wpAnyH_take (i := 4) (v := ?_) rfl (by kernel_rfl) (by kernel_rfl) (by kernel_rfl) (fun _ _ _ h => h) (Or.inl ⟨by rfl, ?_⟩) (by assumption) ?_
  rotate_left
  · (intro w hSw; (try dsimp only at hSw); go_simp; try with_reducible rfl)
  try simp only [List.getElem_toArray, List.getElem_cons_succ, List.getElem_cons_zero, Act.put, List.setIfInBounds_toArray, List.set_cons_zero, List.set_cons_succ]
  refine wpAnyH_take (i := 5) (v := ?_) rfl (by kernel_rfl) (by kernel_rfl) (by kernel_rfl) (fun _ _ _ h => h) (Or.inl ⟨by rfl, ?_⟩) (by assumption) ?_
  rotate_left
  · (intro w hSw; (try dsimp only at hSw); go_simp; try with_reducible rfl)
  try simp only [List.getElem_toArray, List.getElem_cons_succ, List.getElem_cons_zero, Act.put, List.setIfInBounds_toArray, List.set_cons_zero, List.set_cons_succ]
  refine wpAnyH_ready (rs := [0]) (by kernel_rfl) (by simp) ?_
  refine AllReadyH.cons rfl (fun K hK => ?_) AllReadyH.nil
  try simp only [List.getElem_toArray, List.getElem_cons_succ, List.getElem_cons_zero]
  go_simp
  refine hK.out _ _ ?_ (fun hHeld => ?_)
  · (try dsimp only); (first | assumption | with_reducible exact hs2 _ _ _ _ | with_reducible exact HSG.out _ (grew_d (Below.refl _ _)) | with_reducible exact HSG.out _ (grew_d (grew_al (Below.refl _ _) _)))
  clear hK K
  try simp only [List.getElem_toArray, List.getElem_cons_succ, List.getElem_cons_zero, Act.put, List.setIfInBounds_toArray, List.set_cons_zero, List.set_cons_succ]
  refine wpAnyH_ready (rs := [3]) (by kernel_rfl) (by simp) ?_
  refine AllReadyH.cons rfl (fun K hK => ?_) AllReadyH.nil
  try simp only [List.getElem_toArray, List.getElem_cons_succ, List.getElem_cons_zero]
  (try dsimp only)
  refine heldAppend2 (t := 29) (v := .slice (some ⟨w.heap.size + 1 + 1, 0, none⟩) 0 0) (y := .slice xa 4 xc) (v' := .slice (some ⟨rb, 0, none⟩) 4 c1) (w' := w1) ?_ (.tmp 7) (.tmp 9) ?_ ?_ ?_ ?_ R1.out ?_
  any_goals (first | rfl | (simp [Region.wanted]; done))
  refine hK.out _ _ ?_ (fun hHeld => ?_)
  · (try dsimp only); (first | assumption | with_reducible exact hs2 _ _ _ _ | with_reducible exact HSG.out _ (grew_d (Below.refl _ _)) | with_reducible exact HSG.out _ (grew_d (grew_al (Below.refl _ _) _)))
  clear hK K
  try simp only [List.getElem_toArray, List.getElem_cons_succ, List.getElem_cons_zero, Act.put, List.setIfInBounds_toArray, List.set_cons_zero, List.set_cons_succ]
  refine wpAnyH_take (i := 6) (v := ?_) rfl (by kernel_rfl) (by kernel_rfl) (by kernel_rfl) (fun _ _ _ h => h) (Or.inl ⟨by rfl, ?_⟩) (by assumption) ?_
  rotate_left
  · (intro w hSw; (try dsimp only at hSw); go_simp; try with_reducible rfl)
  try simp only [List.getElem_toArray, List.getElem_cons_succ, List.getElem_cons_zero, Act.put, List.setIfInBounds_toArray, List.set_cons_zero, List.set_cons_succ]
  refine wpAnyH_ready (rs := [7]) (by kernel_rfl) (by simp) ?_
  refine AllReadyH.cons rfl (fun K hK => ?_) AllReadyH.nil
  try simp only [List.getElem_toArray, List.getElem_cons_succ, List.getElem_cons_zero]
  go_simp
  refine hK.out _ _ ?_ (fun hHeld => ?_)
  · (try dsimp only); (first | assumption | with_reducible exact hs2 _ _ _ _ | with_reducible exact HSG.out _ (grew_d (Below.refl _ _)) | with_reducible exact HSG.out _ (grew_d (grew_al (Below.refl _ _) _)))
  clear hK K
  try simp only [List.getElem_toArray, List.getElem_cons_succ, List.getElem_cons_zero, Act.put, List.setIfInBounds_toArray, List.set_cons_zero, List.set_cons_succ]
  refine wpAnyH_done (by kernel_rfl) ?_ _
  go_wp2
  refine bodyPost_ret (by simp [results, Tryz.results116, go_sem, z0, z1, z2, z3, zl]; try rfl) rfl ?_
  refine ⟨rb, c1, rfl, ?_, ?_⟩
  · exact ⟨HOR.out.1, Nat.le_trans (by omega) HOR.out.2.1, owns_mono (owns_set (owns_set (owns_set (owns_set (owns_mono HOR.out.2.2 (show w.heap.size + 1 + 1 ≤ E.heap.size by omega)) (Nat.lt_succ_self _) _) (Nat.lt_succ_self _) _) (Nat.lt_succ_self _) _) (Nat.lt_succ_self _) _) (by omega)⟩
  · exact grew_set (grew_set (grew_set (grew_set (grew_tr HGE.out HG1.out) (Nat.le_succ _) _) (Nat.le_succ _) _) (Nat.le_succ _) _) (Nat.le_succ _) _
end Go.Proofs.YtpmfpgbpndobpaaGreat
